/- What Go's functions come to, as plain functions: part 2; no condition. -/
import Derived.Test.YtmplhamakfnjbaaE1
set_option linter.unusedVariables false
set_option linter.unusedSimpArgs false
namespace Go.V.Dec
open Go Go.Proofs
set_option maxRecDepth 100000
set_option maxHeartbeats 4000000
def store_End_L1 (p0 : Store) (p1 : Txn) (k6 : (List Item) → Option (Store × Int)) : Nat → Bool → Nat → (List Item) → Option (Store × Int)
 | 0, _, _, _ => none
 | n8 + 1, a7_1, a7_2, a7_3 => (if (decide (a7_2 < p0.Locks.length)) = true then (Option.bind (p0.Locks[a7_2]?) fun x10 => (if (!((x10.Txn.Site == p1.Site) && (x10.Txn.N == p1.N))) = true then (store_End_L1 p0 p1 k6 n8 a7_1 (a7_2 + 1) a7_3) else (if (!x10.Write) = true then (store_End_L1 p0 p1 k6 n8 a7_1 (a7_2 + 1) a7_3) else (if (!a7_1) = true then (store_End_L1 p0 p1 k6 n8 false (a7_2 + 1) a7_3) else (Option.bind (store_at a7_3 x10.Key) fun v17 => (withK (fun (b18_1 : List Item) => (if 0 ≤ v17.1 then (Option.bind (b18_1[v17.1.toNat]?) fun x22 => (store_End_L1 p0 p1 k6 n8 true (a7_2 + 1) (b18_1.set v17.1.toNat (Item.mk ((Item.mk x22.Key x10.Value x22.Version).Key) ((Item.mk x22.Key x10.Value x22.Version).Value) (IntKind.i64.wrap ((Item.mk x22.Key x10.Value x22.Version).Version + 1)))))) else none)) fun k19 => (if (!v17.2) = true then (Option.bind (insertF 24 a7_3 v17.1 (Item.mk x10.Key 0 0)) fun v21 => (k19 v21)) else (k19 a7_3)))))))) else (k6 a7_3))
def store_End_L2 (p1 : Txn) (k31 : Int → (List Lock) → Option (Store × Int)) : Nat → Int → Int → (List Lock) → Option (Store × Int)
 | 0, _, _, _ => none
 | n33 + 1, a32_1, a32_2, a32_3 => (if (decide (a32_2 < ((a32_3.length : Nat) : Int))) = true then (if 0 ≤ a32_2 then (Option.bind (a32_3[a32_2.toNat]?) fun x36 => (Option.bind (store_End_1 x36 p1) fun v38 => (withK (fun (b39_1 : Int) (b39_2 : List Lock) => (store_End_L2 p1 k31 n33 b39_1 (IntKind.i64.wrap (a32_2 + 1)) b39_2)) fun k40 => (if (!v38) = true then (if 0 ≤ a32_1 then (Option.bind (a32_3[a32_1.toNat]?) fun x42 => (k40 (IntKind.i64.wrap (a32_1 + 1)) (a32_3.set a32_1.toNat x36))) else none) else (k40 a32_1 a32_3))))) else none) else (k31 a32_1 a32_3))
def store_End_L3 (p1 : Txn) (k54 : Int → (List Doubt) → Option (Store × Int)) : Nat → Int → Int → (List Doubt) → Option (Store × Int)
 | 0, _, _, _ => none
 | n56 + 1, a55_1, a55_2, a55_3 => (if (decide (a55_2 < ((a55_3.length : Nat) : Int))) = true then (if 0 ≤ a55_2 then (Option.bind (a55_3[a55_2.toNat]?) fun x59 => (Option.bind (store_End_2 x59 p1) fun v61 => (withK (fun (b62_1 : Int) (b62_2 : List Doubt) => (store_End_L3 p1 k54 n56 b62_1 (IntKind.i64.wrap (a55_2 + 1)) b62_2)) fun k63 => (if (!v61) = true then (if 0 ≤ a55_1 then (Option.bind (a55_3[a55_1.toNat]?) fun x65 => (k63 (IntKind.i64.wrap (a55_1 + 1)) (a55_3.set a55_1.toNat x59))) else none) else (k63 a55_1 a55_3))))) else none) else (k54 a55_1 a55_3))
def store_End (p0 : Store) (p1 : Txn) (p2 : Bool) : Option (Store × Int) := (Option.bind (store_call p0 p1 0) fun v1 => (if (v1 != 0) = true then (some ((Store.mk [] [] [] []), v1)) else (Option.bind (store_own p0) fun v3 => (withK (fun (b5_1 : List Item) => (withK (fun (b25_1 : List Lock) => (withK (fun (b48_1 : List Doubt) => (Option.bind (slices_Contains_Txn v3.Over p1) fun v71 => (withK (fun (b72_1 : List Txn) => (some ((Store.mk b5_1 b25_1 b48_1 b72_1), 0))) fun k73 => (if (!v71) = true then (if fits 16 (v3.Over.length + 1) then (k73 (v3.Over ++ [p1])) else none) else (k73 v3.Over))))) fun k49 => (Option.bind (slices_IndexFunc_Doubt v3.Doubts (fun y50 => store_End_2 y50 p1)) fun v51 => (if (v51 == (-1)) = true then (k49 v3.Doubts) else (withK (fun (b53_1 : Int) (b53_2 : List Doubt) => (if 0 ≤ b53_1 then (if b53_1 ≤ ((b53_2.length : Nat) : Int) then (k49 (b53_2.take b53_1.toNat)) else none) else none)) fun k54 => (store_End_L3 p1 k54 (v3.Doubts.length + 1) v51 (IntKind.i64.wrap (v51 + 1)) v3.Doubts)))))) fun k26 => (Option.bind (slices_IndexFunc_Lock v3.Locks (fun y27 => store_End_1 y27 p1)) fun v28 => (if (v28 == (-1)) = true then (k26 v3.Locks) else (withK (fun (b30_1 : Int) (b30_2 : List Lock) => (if 0 ≤ b30_1 then (if b30_1 ≤ ((b30_2.length : Nat) : Int) then (k26 (b30_2.take b30_1.toNat)) else none) else none)) fun k31 => (store_End_L2 p1 k31 (v3.Locks.length + 1) v28 (IntKind.i64.wrap (v28 + 1)) v3.Locks)))))) fun k6 => (store_End_L1 p0 p1 k6 (p0.Locks.length + 1) p2 0 v3.Items)))))
def F21 : VFn := ⟨101, (.seq (.reg [vo 3 (.boxk 4 (.t 0)), vo 4 (.box 2 (.t 1)), vo 6 (.alloc [(.nl 3), (.nl 6), (.nl 3), (.nl 2)]), vo 7 (.mv (ci 0))]) (.seq (.seq (.reg [vo 14 (.ld true 4 (.t 3)), vo 15 (.ld true 2 (.t 4)), vo 16 (.call 39 [(.t 14), (.t 15), (ci 0)]), vm 8 16]) (.seq (.reg [vm 17 8, vo 18 (.bin .i .neq (.t 17) (ci 0))]) (.cond (.t 18) (.seq (.reg [vo 19 (.build [(.nl 3), (.nl 6), (.nl 3), (.nl 2)] []), vm 20 8, vu (.st 4 (.t 6) (.t 19)), vm 7 20]) .ret) .skip))) (.seq (.reg [vo 21 (.ld true 4 (.t 3)), vo 22 (.call 27 [(.t 21)]), vo 9 (.alloc [(.nl 3), (.nl 6), (.nl 3), (.nl 2)]), vu (.st 4 (.t 9) (.t 22))]) (.seq (.seq (.reg [vo 23 (.fa 1 (.t 3)), vo 24 (.ld false 1 (.t 23)), vo 25 (.len (.t 24)), vo 26 (.mv (ci 0))]) (.wk (.block 0 (.loop (.seq (.reg [vo 27 (.bin .i .lss (.t 26) (.t 25))]) (.seq (.cond (.t 27) .skip (.exit 0)) (.seq (.block 1 (.seq (.reg [vo 28 (.ia 6 (.t 24) (.t 26)), vo 29 (.ld true 6 (.t 28)), vo 11 (.alloc [(zi 0), (zi 0), (zi 0), (.d (.b false)), (zi 0), (zi 0)]), vu (.st 6 (.t 11) (.t 29))]) (.seq (.seq (.reg [vo 30 (.fa 0 (.t 11)), vo 31 (.ld true 2 (.t 30)), vo 32 (.ld true 2 (.t 4)), vo 33 (.eqs true [.i, .i] (.t 31) (.t 32)), vm 34 33, ⟨(some 35), .fa 3 (.t 11), (some (34, false))⟩, ⟨(some 36), .ld false 1 (.t 35), (some (34, false))⟩, ⟨(some 37), .un .not (.t 36), (some (34, false))⟩, vo 38 (.pick (.t 34) (cb true) (.t 37)), vm 39 38, ⟨(some 40), .mv (.t 2), (some (39, false))⟩, ⟨(some 41), .un .not (.t 40), (some (39, false))⟩, vo 42 (.pick (.t 39) (cb true) (.t 41))]) (.cond (.t 42) (.exit 1) .skip)) (.seq (.reg [vo 44 (.fa 0 (.t 9)), vo 45 (.ld false 1 (.t 44)), vo 46 (.fa 2 (.t 11)), vo 47 (.ld false 1 (.t 46)), vo 48 (.call 40 [(.t 45), (.t 47)]), vm 43 48, vo 49 (.ext (.t 43) 0), vo 50 (.ext (.t 43) 1), vm 12 49, vm 13 50]) (.seq (.seq (.reg [vm 51 13, vo 52 (.un .not (.t 51))]) (.wk (.cond (.t 52) (.reg [vo 53 (.fa 0 (.t 9)), vo 54 (.ld false 1 (.t 53)), vm 55 12, vo 56 (.fa 2 (.t 11)), vo 57 (.ld false 1 (.t 56)), vo 58 (.build [(zi 0), (zi 0), (zi 0)] [(0, 1, (.t 57))]), vo 59 (.bsl 3 1 [(zi 0), (zi 0), (zi 0)] [(0, (.t 58))]), vo 60 (.call 41 [(.t 54), (.t 55), (.t 59)]), vo 61 (.fa 0 (.t 9)), vu (.st 1 (.t 61) (.t 60))]) .skip))) (.seq (.reg [vo 62 (.fa 0 (.t 9)), vo 63 (.ld false 1 (.t 62)), vm 64 12, vo 65 (.fa 4 (.t 11)), vo 66 (.ld false 1 (.t 65)), vo 67 (.ia 3 (.t 63) (.t 64)), vo 68 (.fa 1 (.t 67)), vu (.st 1 (.t 68) (.t 66))]) (.reg [vo 69 (.fa 0 (.t 9)), vo 70 (.ld false 1 (.t 69)), vm 71 12, vo 72 (.ia 3 (.t 70) (.t 71)), vo 73 (.fa 2 (.t 72)), vo 74 (.ld false 1 (.t 73)), vo 75 (.bin .i .add (.t 74) (ci 1)), vo 76 (.ia 3 (.t 70) (.t 71)), vo 77 (.fa 2 (.t 76)), vu (.st 1 (.t 77) (.t 75))]))))))) (.reg [vo 78 (.bin .i .add (.t 26) (ci 1)), vm 26 78])))))))) (.seq (.wk (.reg [vo 79 (.fa 1 (.t 9)), vo 80 (.ld false 1 (.t 79)), vo 81 (.mkf 43 [(.t 4)]), vo 82 (.call 42 [(.t 80), (.t 81)]), vo 83 (.fa 1 (.t 9)), vu (.st 1 (.t 83) (.t 82))])) (.seq (.wk (.reg [vo 84 (.fa 2 (.t 9)), vo 85 (.ld false 1 (.t 84)), vo 86 (.mkf 45 [(.t 4)]), vo 87 (.call 44 [(.t 85), (.t 86)]), vo 88 (.fa 2 (.t 9)), vu (.st 1 (.t 88) (.t 87))])) (.seq (.seq (.reg [vo 89 (.fa 3 (.t 9)), vo 90 (.ld false 1 (.t 89)), vo 91 (.ld true 2 (.t 4)), vo 92 (.call 46 [(.t 90), (.t 91)]), vo 93 (.un .not (.t 92))]) (.wk (.cond (.t 93) (.reg [vo 94 (.fa 3 (.t 9)), vo 95 (.ld false 1 (.t 94)), vo 96 (.ld true 2 (.t 4)), vo 97 (.bsl 2 1 [(zi 0), (zi 0)] [(0, (.t 96))]), vo 98 (.app 2 16 (.t 95) (.t 97)), vo 99 (.fa 3 (.t 9)), vu (.st 1 (.t 99) (.t 98))]) .skip))) (.seq (.reg [vo 100 (.ld true 4 (.t 9)), vu (.st 4 (.t 6) (.t 100)), vo 7 (.mv (ci 0))]) .ret)))))))), [.cell 6 true 4, .t 7]⟩
theorem low21 : lowF Try.prog 21 = some F21.strip := by kernel_rfl
theorem fok21 : fOk Try.prog 21 = true := by kernel_rfl
theorem store_End_ok (G : Nat → Option (List D)) (p0 : Store) (p1 : Txn) (p2 : Bool) (r : Store × Int) (h : store_End p0 p1 p2 = some r) : FnRO Try.prog G 21 [.agg [.d (.l 3 (p0.Items.map Item.enc)), .d (.l 6 (p0.Locks.map Lock.enc)), .d (.l 3 (p0.Doubts.map Doubt.enc)), .d (.l 2 (p0.Over.map Txn.enc))], .agg [.d (.i .i64 p1.Site), .d (.i .i64 p1.N)], .one (.d (.b p2))] (fun rs => rs = [.agg (r.1.encO), .one (.i .i64 r.2)]) := by
 refine FnRO.of' low21 fok21 (by simp [F21]) ?_
 rw [store_End] at h
 simp only [F21, go_sem]
 obtain ⟨v1, hv1, h⟩ := obi h
 try simp only [go_sem]
 refine CallV.ro false (store_call_ok G p0 p1 0 v1 hv1) rfl ?_
 rintro rs rfl
 refine ⟨.inl rfl, ?_⟩
 rcases of_if h with ⟨hb2, h⟩ | ⟨hb2, h⟩
 ·simp only [Option.some.injEq] at h
  subst h
  try simp only [hb2, go_sem, List.map_append, List.map_cons, List.map_nil, List.map_set]
 ·obtain ⟨v3, hv3, h⟩ := obi h
  try simp only [hb2, go_sem]
  refine CallV.ro false (store_own_ok G p0 v3 hv3) rfl ?_
  rintro rs rfl
  refine ⟨.inl rfl, ?_⟩
  try simp only [hb2, go_sem]
  intro hl4
  obtain ⟨k6, hk6, h⟩ := withK_lk1 h
  try simp only [hb2, go_sem]
  refine join_lk Try.prog G _ _ (B := (List Item)) (fun b => k6 b = some r) (fun b => [(4, .one (.p (.q 0 0 0))), (6, .one (.p (.q 1 0 0))), (9, .one (.p (.q 2 0 0)))]) (fun b => [some (.box p1.bx), some (.box [.nl 3, .nl 6, .nl 3, .nl 2]), some (.box [.r 3 0 b.length, .r 4 0 v3.Locks.length, .r 5 0 v3.Doubts.length, .r 6 0 v3.Over.length]), some (.arr 3 (b.map Item.enc) false), some (.arr 6 (v3.Locks.map Lock.enc) false), some (.arr 3 (v3.Doubts.map Doubt.enc) false), some (.arr 2 (v3.Over.map Txn.enc) false)]) ?_ (fun b5_1 h => ?_)
  ·try simp only [hb2, go_sem]
   refine loop_lk Try.prog G _ _ (A := Bool × Nat × (List Item)) (fun n a => store_End_L1 p0 p1 k6 n a.1 a.2.1 a.2.2 = some r) (fun a => [(2, .one (.d (.b a.1))), (4, .one (.p (.q 0 0 0))), (6, .one (.p (.q 1 0 0))), (9, .one (.p (.q 2 0 0))), (24, .one (.d (.l 6 (p0.Locks.map Lock.enc)))), (25, .one (.d (.i .i64 ((p0.Locks.length : Nat) : Int)))), (26, .one (.d (.i .i64 ((a.2.1 : Nat) : Int))))]) (fun a => [some (.box p1.bx), some (.box [.nl 3, .nl 6, .nl 3, .nl 2]), some (.box [.r 3 0 a.2.2.length, .r 4 0 v3.Locks.length, .r 5 0 v3.Doubts.length, .r 6 0 v3.Over.length]), some (.arr 3 (a.2.2.map Item.enc) false), some (.arr 6 (v3.Locks.map Lock.enc) false), some (.arr 3 (v3.Doubts.map Doubt.enc) false), some (.arr 2 (v3.Over.map Txn.enc) false)]) (p0.Locks.length + 1) (p2, 0, v3.Items) h (wk_c _ _ _ [some 0, some 1, some 6, some 2, some 3, some 4, some 5] rfl (by simp only [hb2, go_sem, List.map_append, List.map_cons, List.map_nil, Option.some.injEq, Prod.mk.injEq, SC.d.injEq, D.l.injEq, List.map_set])) (fun a h => by simp only [store_End_L1, reduceCtorEq] at h) ?_
   intro n8 a h
   obtain ⟨a7_1, a7_2, a7_3⟩ := a
   try dsimp only at h
   rw [store_End_L1] at h
   rcases of_if h with ⟨hb9, h⟩ | ⟨hb9, h⟩
   ·have hkhb9 := of_decide_eq_true hb9
    obtain ⟨x10, hx10, h⟩ := obi h
    have hkx10 := gtx hx10
    try simp only [List.length_take, List.length_drop, List.length_append, List.length_set, List.length_map, List.length_cons, List.length_nil, Nat.zero_add] at hkx10
    rcases of_if h with ⟨hb11, h⟩ | ⟨hb11, h⟩
    ·have hkhb11 := not_eq_t hb11
     try simp only [hb9, hkhb9, hx10, hkx10, hb11, hkhb11, go_sem]
     have hw12 := wrap_succ_max hkx10 hl4
     try simp only [hb9, hkhb9, hx10, hkx10, hb11, hkhb11, hw12, go_sem]
     exact loopQ_c (a7_1, a7_2 + 1, a7_3) h [some 0, some 1, some 2, some 3, some 4, some 5, some 6] rfl (by simp only [hb9, hkhb9, hx10, hkx10, hb11, hkhb11, hw12, go_sem, List.map_append, List.map_cons, List.map_nil, Option.some.injEq, Prod.mk.injEq, SC.d.injEq, D.l.injEq, List.map_set])
    ·have hkhb11 := not_eq_f hb11
     try simp only [hb9, hkhb9, hx10, hkx10, hb11, hkhb11, go_sem]
     rcases of_if h with ⟨hb13, h⟩ | ⟨hb13, h⟩
     ·have hkhb13 := not_eq_t hb13
      have hw14 := wrap_succ_max hkx10 hl4
      try simp only [hb9, hkhb9, hx10, hkx10, hb11, hkhb11, hb13, hkhb13, hw14, go_sem]
      exact loopQ_c (a7_1, a7_2 + 1, a7_3) h [some 0, some 1, some 2, some 3, some 4, some 5, some 6] rfl (by simp only [hb9, hkhb9, hx10, hkx10, hb11, hkhb11, hb13, hkhb13, hw14, go_sem, List.map_append, List.map_cons, List.map_nil, Option.some.injEq, Prod.mk.injEq, SC.d.injEq, D.l.injEq, List.map_set])
     ·have hkhb13 := not_eq_f hb13
      rcases of_if h with ⟨hb15, h⟩ | ⟨hb15, h⟩
      ·have hkhb15 := not_eq_t hb15
       have hw16 := wrap_succ_max hkx10 hl4
       try simp only [hb9, hkhb9, hx10, hkx10, hb11, hkhb11, hb13, hkhb13, hb15, hkhb15, hw16, go_sem]
       exact loopQ_c (false, a7_2 + 1, a7_3) h [some 0, some 1, some 2, some 3, some 4, some 5, some 6] rfl (by simp only [hb9, hkhb9, hx10, hkx10, hb11, hkhb11, hb13, hkhb13, hb15, hkhb15, hw16, go_sem, List.map_append, List.map_cons, List.map_nil, Option.some.injEq, Prod.mk.injEq, SC.d.injEq, D.l.injEq, List.map_set])
      ·have hkhb15 := not_eq_f hb15
       obtain ⟨v17, hv17, h⟩ := obi h
       try simp only [hb9, hkhb9, hx10, hkx10, hb11, hkhb11, hb13, hkhb13, hb15, hkhb15, go_sem]
       refine CallV.ro true (store_at_ok G a7_3 x10.Key v17 hv17) (by first | rfl | (simp only [hb9, hkhb9, hx10, hkx10, hb11, hkhb11, hb13, hkhb13, hb15, hkhb15, go_sem, inVs_caps]; done) | simp only [hb9, hkhb9, hx10, hkx10, hb11, hkhb11, hb13, hkhb13, hb15, hkhb15, go_sem, inVs_caps, List.map_append, List.map_cons, List.map_nil, List.map_set]) ?_
       rintro rs rfl
       refine ⟨.inr (by simp only [hb9, hkhb9, hx10, hkx10, hb11, hkhb11, hb13, hkhb13, hb15, hkhb15, go_sem, RV.plain, D.plain, D.plain0, D.plain1, List.all_map, Function.comp_def, all_tt]), ?_⟩
       obtain ⟨k19, hk19, h⟩ := withK_lk1 h
       try simp only [hb9, hkhb9, hx10, hkx10, hb11, hkhb11, hb13, hkhb13, hb15, hkhb15, go_sem]
       refine join_lk Try.prog G _ _ (B := (List Item)) (fun b => k19 b = some r) (fun b => [(2, .one (.d (.b true))), (4, .one (.p (.q 0 0 0))), (6, .one (.p (.q 1 0 0))), (9, .one (.p (.q 2 0 0))), (11, .one (.p (.q 3 0 0))), (12, .one (zi v17.1)), (24, .one (.d (.l 6 (p0.Locks.map Lock.enc)))), (25, .one (.d (.i .i64 ((p0.Locks.length : Nat) : Int)))), (26, .one (.d (.i .i64 ((a7_2 : Nat) : Int)))), (35, .one (.p (.q 3 0 3))), (36, .one (.d (.b true))), (37, .one (.d (.b false))), (40, .one (.d (.b true))), (41, .one (.d (.b false)))]) (fun b => [some (.box p1.bx), some (.box [.nl 3, .nl 6, .nl 3, .nl 2]), some (.box [.r 4 0 b.length, .r 5 0 v3.Locks.length, .r 6 0 v3.Doubts.length, .r 7 0 v3.Over.length]), some (.box [zi x10.Txn.Site, zi x10.Txn.N, zi x10.Key, .d (.b true), zi x10.Value, zi x10.Ask]), some (.arr 3 (b.map Item.enc) false), some (.arr 6 (v3.Locks.map Lock.enc) false), some (.arr 3 (v3.Doubts.map Doubt.enc) false), some (.arr 2 (v3.Over.map Txn.enc) false)]) ?_ (fun b18_1 h => ?_)
       ·rcases of_if h with ⟨hb20, h⟩ | ⟨hb20, h⟩
        ·have hkhb20 := not_eq_t hb20
         obtain ⟨v21, hv21, h⟩ := obi h
         try simp only [hb9, hkhb9, hx10, hkx10, hb11, hkhb11, hb13, hkhb13, hb15, hkhb15, hb20, hkhb20, go_sem]
         refine insert_callF ins41 (enc := Item.enc) (x := (Item.mk x10.Key 0 0)) hv21 (by decide) (by first | rfl | (simp only [hb9, hkhb9, hx10, hkx10, hb11, hkhb11, hb13, hkhb13, hb15, hkhb15, hb20, hkhb20, go_sem]; done)) (by first | rfl | (simp only [hb9, hkhb9, hx10, hkx10, hb11, hkhb11, hb13, hkhb13, hb15, hkhb15, hb20, hkhb20, go_sem]; done)) ?_
         try simp only [hb9, hkhb9, hx10, hkx10, hb11, hkhb11, hb13, hkhb13, hb15, hkhb15, hb20, hkhb20, go_sem]
         exact joinQ_c (v21) h [some 0, some 1, some 2, some 7, some 9, some 4, some 5, some 6] rfl (by simp only [hb9, hkhb9, hx10, hkx10, hb11, hkhb11, hb13, hkhb13, hb15, hkhb15, hb20, hkhb20, go_sem, List.map_append, List.map_cons, List.map_nil, Option.some.injEq, Prod.mk.injEq, SC.d.injEq, D.l.injEq, List.map_set])
        ·have hkhb20 := not_eq_f hb20
         try simp only [hb9, hkhb9, hx10, hkx10, hb11, hkhb11, hb13, hkhb13, hb15, hkhb15, hb20, hkhb20, go_sem]
         exact joinQ_c (a7_3) h [some 0, some 1, some 2, some 7, some 3, some 4, some 5, some 6] rfl (by simp only [hb9, hkhb9, hx10, hkx10, hb11, hkhb11, hb13, hkhb13, hb15, hkhb15, hb20, hkhb20, go_sem, List.map_append, List.map_cons, List.map_nil, Option.some.injEq, Prod.mk.injEq, SC.d.injEq, D.l.injEq, List.map_set])
       ·try dsimp only at h
        rw [hk19] at h
        obtain ⟨hn23, h⟩ := of_chk h
        obtain ⟨x22, hx22, h⟩ := obi h
        have hkx22 := gtx hx22
        try simp only [List.length_take, List.length_drop, List.length_append, List.length_set, List.length_map, List.length_cons, List.length_nil, Nat.zero_add] at hkx22
        have hk2x22 : v17.1 < ((b18_1.length : Nat) : Int) := by omega
        have hw24 := wrap_succ_max hkx10 hl4
        try simp only [hkhb9, hx10, hkx10, hkhb11, hkhb13, hkhb15, hx22, hkx22, hn23, hk2x22, hw24, go_sem]
        exact loopQ_c (true, a7_2 + 1, (b18_1.set v17.1.toNat (Item.mk ((Item.mk x22.Key x10.Value x22.Version).Key) ((Item.mk x22.Key x10.Value x22.Version).Value) (IntKind.i64.wrap ((Item.mk x22.Key x10.Value x22.Version).Version + 1))))) h [some 0, some 1, some 2, some 4, some 5, some 6, some 7] rfl (by simp only [hkhb9, hx10, hkx10, hkhb11, hkhb13, hkhb15, hx22, hkx22, hn23, hk2x22, hw24, go_sem, List.map_append, List.map_cons, List.map_nil, Option.some.injEq, Prod.mk.injEq, SC.d.injEq, D.l.injEq, List.map_set])
   ·try simp only [hb9, go_sem]
    exact joinQ_c (a7_3) h [some 0, some 1, some 2, some 3, some 4, some 5, some 6] rfl (by simp only [hb9, go_sem, List.map_append, List.map_cons, List.map_nil, Option.some.injEq, Prod.mk.injEq, SC.d.injEq, D.l.injEq, List.map_set])
  ·try dsimp only at h
   rw [hk6] at h
   obtain ⟨k26, hk26, h⟩ := withK_lk1 h
   try simp only [go_sem]
   refine join_lk Try.prog G _ _ (B := (List Lock)) (fun b => k26 b = some r) (fun b => [(4, .one (.p (.q 0 0 0))), (6, .one (.p (.q 1 0 0))), (9, .one (.p (.q 2 0 0)))]) (fun b => [some (.box p1.bx), some (.box [.nl 3, .nl 6, .nl 3, .nl 2]), some (.box [.r 3 0 b5_1.length, .r 4 0 b.length, .r 5 0 v3.Doubts.length, .r 6 0 v3.Over.length]), some (.arr 3 (b5_1.map Item.enc) false), some (.arr 6 (b.map Lock.enc) false), some (.arr 3 (v3.Doubts.map Doubt.enc) false), some (.arr 2 (v3.Over.map Txn.enc) false)]) ?_ (fun b25_1 h => ?_)
   ·try simp only [go_sem]
    refine CallV.x low42 fok42 (by simp [F42]) (by simp [F42]) ?_
    simp only [F42, go_sem]
    obtain ⟨v28, hv28, h⟩ := obi h
    try simp only [go_sem]
    refine CallV.ro true (slices_IndexFunc_Lock_ok G v3.Locks (fun y27 => store_End_1 y27 p1) 43 [.k [.i .i64 p1.Site, .i .i64 p1.N]] (fun y27 r h => store_End_1_ok G y27 p1 r h) v28 hv28) (by first | rfl | (simp only [go_sem, inVs_caps]; done) | simp only [go_sem, inVs_caps, List.map_append, List.map_cons, List.map_nil, List.map_set]) ?_
    rintro rs rfl
    refine ⟨.inr (by simp only [go_sem, RV.plain, D.plain, D.plain0, D.plain1, List.all_map, Function.comp_def, all_tt]), ?_⟩
    rcases of_if h with ⟨hb29, h⟩ | ⟨hb29, h⟩
    ·try simp only [hb29, go_sem]
     exact joinQ_c (v3.Locks) h [some 0, some 1, some 2, some 3, some 4, some 5, some 6] rfl (by simp only [hb29, go_sem, List.map_append, List.map_cons, List.map_nil, Option.some.injEq, Prod.mk.injEq, SC.d.injEq, D.l.injEq, List.map_set])
    ·obtain ⟨k31, hk31, h⟩ := withK_lk2 h
     try simp only [hb29, go_sem]
     refine join_lk Try.prog G _ _ (B := Int × (List Lock)) (fun b => k31 b.1 b.2 = some r) (fun b => [(0, .one (.r 0 0 b.2.length)), (5, .one (zi b.1)), (1000004, .one (.p (.q 1 0 0))), (1000006, .one (.p (.q 2 0 0))), (1000009, .one (.p (.q 3 0 0)))]) (fun b => [some (.arr 6 (b.2.map Lock.enc) false), some (.box p1.bx), some (.box [.nl 3, .nl 6, .nl 3, .nl 2]), some (.box [.r 4 0 b5_1.length, .r 0 0 b.2.length, .r 5 0 v3.Doubts.length, .r 6 0 v3.Over.length]), some (.arr 3 (b5_1.map Item.enc) false), some (.arr 3 (v3.Doubts.map Doubt.enc) false), some (.arr 2 (v3.Over.map Txn.enc) false)]) ?_ (fun b h => ?_)
     ·try simp only [hb29, go_sem]
      refine loop_lk Try.prog G _ _ (A := Int × Int × (List Lock)) (fun n a => store_End_L2 p1 k31 n a.1 a.2.1 a.2.2 = some r) (fun a => [(0, .one (.r 0 0 a.2.2.length)), (1, .one (.c 43 [.q 1 0 0])), (5, .one (zi a.1)), (6, .one (zi a.2.1)), (1000004, .one (.p (.q 1 0 0))), (1000006, .one (.p (.q 2 0 0))), (1000009, .one (.p (.q 3 0 0)))]) (fun a => [some (.arr 6 (a.2.2.map Lock.enc) false), some (.box p1.bx), some (.box [.nl 3, .nl 6, .nl 3, .nl 2]), some (.box [.r 4 0 b5_1.length, .r 0 0 a.2.2.length, .r 5 0 v3.Doubts.length, .r 6 0 v3.Over.length]), some (.arr 3 (b5_1.map Item.enc) false), some (.arr 3 (v3.Doubts.map Doubt.enc) false), some (.arr 2 (v3.Over.map Txn.enc) false)]) (v3.Locks.length + 1) (v28, IntKind.i64.wrap (v28 + 1), v3.Locks) h (wk_c _ _ _ [some 4, some 0, some 1, some 2, some 3, some 5, some 6] rfl (by simp only [hb29, go_sem, List.map_append, List.map_cons, List.map_nil, Option.some.injEq, Prod.mk.injEq, SC.d.injEq, D.l.injEq, List.map_set])) (fun a h => by simp only [store_End_L2, reduceCtorEq] at h) ?_
      intro n33 a h
      obtain ⟨a32_1, a32_2, a32_3⟩ := a
      try dsimp only at h
      rw [store_End_L2] at h
      try simp only [go_sem]
      intro hl34
      rcases of_if h with ⟨hb35, h⟩ | ⟨hb35, h⟩
      ·obtain ⟨hn37, h⟩ := of_chk h
       obtain ⟨x36, hx36, h⟩ := obi h
       have hkx36 := gtx hx36
       try simp only [List.length_take, List.length_drop, List.length_append, List.length_set, List.length_map, List.length_cons, List.length_nil, Nat.zero_add] at hkx36
       have hk2x36 : a32_2 < ((a32_3.length : Nat) : Int) := by omega
       obtain ⟨v38, hv38, h⟩ := obi h
       try simp only [hb35, hx36, hkx36, hn37, hk2x36, go_sem]
       refine CallV.ro true (store_End_1_ok G x36 p1 v38 hv38) (by first | rfl | (simp only [hb35, hx36, hkx36, hn37, hk2x36, go_sem, inVs_caps]; done) | simp only [hb35, hx36, hkx36, hn37, hk2x36, go_sem, inVs_caps, List.map_append, List.map_cons, List.map_nil, List.map_set]) ?_
       rintro rs rfl
       refine ⟨.inr (by simp only [hb35, hx36, hkx36, hn37, hk2x36, go_sem, RV.plain, D.plain, D.plain0, D.plain1, List.all_map, Function.comp_def, all_tt]), ?_⟩
       obtain ⟨k40, hk40, h⟩ := withK_lk2 h
       try simp only [hb35, hx36, hkx36, hn37, hk2x36, go_sem]
       refine join_lk Try.prog G _ _ (B := Int × (List Lock)) (fun b => k40 b.1 b.2 = some r) (fun b => [(0, .one (.r 0 0 b.2.length)), (1, .one (.c 43 [.q 1 0 0])), (5, .one (zi b.1)), (6, .one (zi a32_2)), (1000004, .one (.p (.q 1 0 0))), (1000006, .one (.p (.q 2 0 0))), (1000009, .one (.p (.q 3 0 0)))]) (fun b => [some (.arr 6 (b.2.map Lock.enc) false), some (.box p1.bx), some (.box [.nl 3, .nl 6, .nl 3, .nl 2]), some (.box [.r 4 0 b5_1.length, .r 0 0 b.2.length, .r 5 0 v3.Doubts.length, .r 6 0 v3.Over.length]), some (.arr 3 (b5_1.map Item.enc) false), some (.arr 3 (v3.Doubts.map Doubt.enc) false), some (.arr 2 (v3.Over.map Txn.enc) false)]) ?_ (fun b h => ?_)
       ·rcases of_if h with ⟨hb41, h⟩ | ⟨hb41, h⟩
        ·have hkhb41 := not_eq_t hb41
         obtain ⟨hn43, h⟩ := of_chk h
         obtain ⟨x42, hx42, h⟩ := obi h
         have hkx42 := gtx hx42
         try simp only [List.length_take, List.length_drop, List.length_append, List.length_set, List.length_map, List.length_cons, List.length_nil, Nat.zero_add] at hkx42
         have hk2x42 : a32_1 < ((a32_3.length : Nat) : Int) := by omega
         try simp only [hb35, hx36, hkx36, hn37, hk2x36, hb41, hkhb41, hx42, hkx42, hn43, hk2x42, go_sem]
         exact joinQ_c (IntKind.i64.wrap (a32_1 + 1), (a32_3.set a32_1.toNat x36)) h [some 0, some 1, some 2, some 3, some 4, some 5, some 6] rfl (by simp only [hb35, hx36, hkx36, hn37, hk2x36, hb41, hkhb41, hx42, hkx42, hn43, hk2x42, go_sem, List.map_append, List.map_cons, List.map_nil, Option.some.injEq, Prod.mk.injEq, SC.d.injEq, D.l.injEq, List.map_set])
        ·have hkhb41 := not_eq_f hb41
         try simp only [hb35, hx36, hkx36, hn37, hk2x36, hb41, hkhb41, go_sem]
         exact joinQ_c (a32_1, a32_3) h [some 0, some 1, some 2, some 3, some 4, some 5, some 6] rfl (by simp only [hb35, hx36, hkx36, hn37, hk2x36, hb41, hkhb41, go_sem, List.map_append, List.map_cons, List.map_nil, Option.some.injEq, Prod.mk.injEq, SC.d.injEq, D.l.injEq, List.map_set])
       ·obtain ⟨b39_1, b39_2⟩ := b
        try dsimp only at h
        rw [hk40] at h
        try simp only [hx36, hkx36, hn37, hk2x36, go_sem]
        exact loopQ_c (b39_1, IntKind.i64.wrap (a32_2 + 1), b39_2) h [some 0, some 1, some 2, some 3, some 4, some 5, some 6] rfl (by simp only [hx36, hkx36, hn37, hk2x36, go_sem, List.map_append, List.map_cons, List.map_nil, Option.some.injEq, Prod.mk.injEq, SC.d.injEq, D.l.injEq, List.map_set])
      ·try simp only [hb35, go_sem]
       exact joinQ_c (a32_1, a32_3) h [some 0, some 1, some 2, some 3, some 4, some 5, some 6] rfl (by simp only [hb35, go_sem, List.map_append, List.map_cons, List.map_nil, Option.some.injEq, Prod.mk.injEq, SC.d.injEq, D.l.injEq, List.map_set])
     ·obtain ⟨b30_1, b30_2⟩ := b
      try dsimp only at h
      rw [hk31] at h
      obtain ⟨hle44, h⟩ := of_chk h
      obtain ⟨hle45, h⟩ := of_chk h
      have hs46 : b30_1.toNat + ((((b30_2.length : Nat) : Int) - b30_1).toNat) ≤ b30_2.length := by omega
      have hs47 : min b30_1.toNat b30_2.length = b30_1.toNat := by omega
      try simp only [hle44, hle45, hs46, hs47, go_sem]
      exact joinQ_c ((b30_2.take b30_1.toNat)) h [some 1, some 2, some 3, some 4, some 0, some 5, some 6] rfl (by simp only [hle44, hle45, hs46, hs47, go_sem, List.map_append, List.map_cons, List.map_nil, Option.some.injEq, Prod.mk.injEq, SC.d.injEq, D.l.injEq, List.map_set])
   ·try dsimp only at h
    rw [hk26] at h
    obtain ⟨k49, hk49, h⟩ := withK_lk1 h
    try simp only [go_sem]
    refine join_lk Try.prog G _ _ (B := (List Doubt)) (fun b => k49 b = some r) (fun b => [(4, .one (.p (.q 0 0 0))), (6, .one (.p (.q 1 0 0))), (9, .one (.p (.q 2 0 0)))]) (fun b => [some (.box p1.bx), some (.box [.nl 3, .nl 6, .nl 3, .nl 2]), some (.box [.r 3 0 b5_1.length, .r 4 0 b25_1.length, .r 5 0 b.length, .r 6 0 v3.Over.length]), some (.arr 3 (b5_1.map Item.enc) false), some (.arr 6 (b25_1.map Lock.enc) false), some (.arr 3 (b.map Doubt.enc) false), some (.arr 2 (v3.Over.map Txn.enc) false)]) ?_ (fun b48_1 h => ?_)
    ·try simp only [go_sem]
     refine CallV.x low44 fok44 (by simp [F44]) (by simp [F44]) ?_
     simp only [F44, go_sem]
     obtain ⟨v51, hv51, h⟩ := obi h
     try simp only [go_sem]
     refine CallV.ro true (slices_IndexFunc_Doubt_ok G v3.Doubts (fun y50 => store_End_2 y50 p1) 45 [.k [.i .i64 p1.Site, .i .i64 p1.N]] (fun y50 r h => store_End_2_ok G y50 p1 r h) v51 hv51) (by first | rfl | (simp only [go_sem, inVs_caps]; done) | simp only [go_sem, inVs_caps, List.map_append, List.map_cons, List.map_nil, List.map_set]) ?_
     rintro rs rfl
     refine ⟨.inr (by simp only [go_sem, RV.plain, D.plain, D.plain0, D.plain1, List.all_map, Function.comp_def, all_tt]), ?_⟩
     rcases of_if h with ⟨hb52, h⟩ | ⟨hb52, h⟩
     ·try simp only [hb52, go_sem]
      exact joinQ_c (v3.Doubts) h [some 0, some 1, some 2, some 3, some 4, some 5, some 6] rfl (by simp only [hb52, go_sem, List.map_append, List.map_cons, List.map_nil, Option.some.injEq, Prod.mk.injEq, SC.d.injEq, D.l.injEq, List.map_set])
     ·obtain ⟨k54, hk54, h⟩ := withK_lk2 h
      try simp only [hb52, go_sem]
      refine join_lk Try.prog G _ _ (B := Int × (List Doubt)) (fun b => k54 b.1 b.2 = some r) (fun b => [(0, .one (.r 0 0 b.2.length)), (5, .one (zi b.1)), (1000004, .one (.p (.q 1 0 0))), (1000006, .one (.p (.q 2 0 0))), (1000009, .one (.p (.q 3 0 0)))]) (fun b => [some (.arr 3 (b.2.map Doubt.enc) false), some (.box p1.bx), some (.box [.nl 3, .nl 6, .nl 3, .nl 2]), some (.box [.r 4 0 b5_1.length, .r 5 0 b25_1.length, .r 0 0 b.2.length, .r 6 0 v3.Over.length]), some (.arr 3 (b5_1.map Item.enc) false), some (.arr 6 (b25_1.map Lock.enc) false), some (.arr 2 (v3.Over.map Txn.enc) false)]) ?_ (fun b h => ?_)
      ·try simp only [hb52, go_sem]
       refine loop_lk Try.prog G _ _ (A := Int × Int × (List Doubt)) (fun n a => store_End_L3 p1 k54 n a.1 a.2.1 a.2.2 = some r) (fun a => [(0, .one (.r 0 0 a.2.2.length)), (1, .one (.c 45 [.q 1 0 0])), (5, .one (zi a.1)), (6, .one (zi a.2.1)), (1000004, .one (.p (.q 1 0 0))), (1000006, .one (.p (.q 2 0 0))), (1000009, .one (.p (.q 3 0 0)))]) (fun a => [some (.arr 3 (a.2.2.map Doubt.enc) false), some (.box p1.bx), some (.box [.nl 3, .nl 6, .nl 3, .nl 2]), some (.box [.r 4 0 b5_1.length, .r 5 0 b25_1.length, .r 0 0 a.2.2.length, .r 6 0 v3.Over.length]), some (.arr 3 (b5_1.map Item.enc) false), some (.arr 6 (b25_1.map Lock.enc) false), some (.arr 2 (v3.Over.map Txn.enc) false)]) (v3.Doubts.length + 1) (v51, IntKind.i64.wrap (v51 + 1), v3.Doubts) h (wk_c _ _ _ [some 5, some 0, some 1, some 2, some 3, some 4, some 6] rfl (by simp only [hb52, go_sem, List.map_append, List.map_cons, List.map_nil, Option.some.injEq, Prod.mk.injEq, SC.d.injEq, D.l.injEq, List.map_set])) (fun a h => by simp only [store_End_L3, reduceCtorEq] at h) ?_
       intro n56 a h
       obtain ⟨a55_1, a55_2, a55_3⟩ := a
       try dsimp only at h
       rw [store_End_L3] at h
       try simp only [go_sem]
       intro hl57
       rcases of_if h with ⟨hb58, h⟩ | ⟨hb58, h⟩
       ·obtain ⟨hn60, h⟩ := of_chk h
        obtain ⟨x59, hx59, h⟩ := obi h
        have hkx59 := gtx hx59
        try simp only [List.length_take, List.length_drop, List.length_append, List.length_set, List.length_map, List.length_cons, List.length_nil, Nat.zero_add] at hkx59
        have hk2x59 : a55_2 < ((a55_3.length : Nat) : Int) := by omega
        obtain ⟨v61, hv61, h⟩ := obi h
        try simp only [hb58, hx59, hkx59, hn60, hk2x59, go_sem]
        refine CallV.ro true (store_End_2_ok G x59 p1 v61 hv61) (by first | rfl | (simp only [hb58, hx59, hkx59, hn60, hk2x59, go_sem, inVs_caps]; done) | simp only [hb58, hx59, hkx59, hn60, hk2x59, go_sem, inVs_caps, List.map_append, List.map_cons, List.map_nil, List.map_set]) ?_
        rintro rs rfl
        refine ⟨.inr (by simp only [hb58, hx59, hkx59, hn60, hk2x59, go_sem, RV.plain, D.plain, D.plain0, D.plain1, List.all_map, Function.comp_def, all_tt]), ?_⟩
        obtain ⟨k63, hk63, h⟩ := withK_lk2 h
        try simp only [hb58, hx59, hkx59, hn60, hk2x59, go_sem]
        refine join_lk Try.prog G _ _ (B := Int × (List Doubt)) (fun b => k63 b.1 b.2 = some r) (fun b => [(0, .one (.r 0 0 b.2.length)), (1, .one (.c 45 [.q 1 0 0])), (5, .one (zi b.1)), (6, .one (zi a55_2)), (1000004, .one (.p (.q 1 0 0))), (1000006, .one (.p (.q 2 0 0))), (1000009, .one (.p (.q 3 0 0)))]) (fun b => [some (.arr 3 (b.2.map Doubt.enc) false), some (.box p1.bx), some (.box [.nl 3, .nl 6, .nl 3, .nl 2]), some (.box [.r 4 0 b5_1.length, .r 5 0 b25_1.length, .r 0 0 b.2.length, .r 6 0 v3.Over.length]), some (.arr 3 (b5_1.map Item.enc) false), some (.arr 6 (b25_1.map Lock.enc) false), some (.arr 2 (v3.Over.map Txn.enc) false)]) ?_ (fun b h => ?_)
        ·rcases of_if h with ⟨hb64, h⟩ | ⟨hb64, h⟩
         ·have hkhb64 := not_eq_t hb64
          obtain ⟨hn66, h⟩ := of_chk h
          obtain ⟨x65, hx65, h⟩ := obi h
          have hkx65 := gtx hx65
          try simp only [List.length_take, List.length_drop, List.length_append, List.length_set, List.length_map, List.length_cons, List.length_nil, Nat.zero_add] at hkx65
          have hk2x65 : a55_1 < ((a55_3.length : Nat) : Int) := by omega
          try simp only [hb58, hx59, hkx59, hn60, hk2x59, hb64, hkhb64, hx65, hkx65, hn66, hk2x65, go_sem]
          exact joinQ_c (IntKind.i64.wrap (a55_1 + 1), (a55_3.set a55_1.toNat x59)) h [some 0, some 1, some 2, some 3, some 4, some 5, some 6] rfl (by simp only [hb58, hx59, hkx59, hn60, hk2x59, hb64, hkhb64, hx65, hkx65, hn66, hk2x65, go_sem, List.map_append, List.map_cons, List.map_nil, Option.some.injEq, Prod.mk.injEq, SC.d.injEq, D.l.injEq, List.map_set])
         ·have hkhb64 := not_eq_f hb64
          try simp only [hb58, hx59, hkx59, hn60, hk2x59, hb64, hkhb64, go_sem]
          exact joinQ_c (a55_1, a55_3) h [some 0, some 1, some 2, some 3, some 4, some 5, some 6] rfl (by simp only [hb58, hx59, hkx59, hn60, hk2x59, hb64, hkhb64, go_sem, List.map_append, List.map_cons, List.map_nil, Option.some.injEq, Prod.mk.injEq, SC.d.injEq, D.l.injEq, List.map_set])
        ·obtain ⟨b62_1, b62_2⟩ := b
         try dsimp only at h
         rw [hk63] at h
         try simp only [hx59, hkx59, hn60, hk2x59, go_sem]
         exact loopQ_c (b62_1, IntKind.i64.wrap (a55_2 + 1), b62_2) h [some 0, some 1, some 2, some 3, some 4, some 5, some 6] rfl (by simp only [hx59, hkx59, hn60, hk2x59, go_sem, List.map_append, List.map_cons, List.map_nil, Option.some.injEq, Prod.mk.injEq, SC.d.injEq, D.l.injEq, List.map_set])
       ·try simp only [hb58, go_sem]
        exact joinQ_c (a55_1, a55_3) h [some 0, some 1, some 2, some 3, some 4, some 5, some 6] rfl (by simp only [hb58, go_sem, List.map_append, List.map_cons, List.map_nil, Option.some.injEq, Prod.mk.injEq, SC.d.injEq, D.l.injEq, List.map_set])
      ·obtain ⟨b53_1, b53_2⟩ := b
       try dsimp only at h
       rw [hk54] at h
       obtain ⟨hle67, h⟩ := of_chk h
       obtain ⟨hle68, h⟩ := of_chk h
       have hs69 : b53_1.toNat + ((((b53_2.length : Nat) : Int) - b53_1).toNat) ≤ b53_2.length := by omega
       have hs70 : min b53_1.toNat b53_2.length = b53_1.toNat := by omega
       try simp only [hle67, hle68, hs69, hs70, go_sem]
       exact joinQ_c ((b53_2.take b53_1.toNat)) h [some 1, some 2, some 3, some 4, some 5, some 0, some 6] rfl (by simp only [hle67, hle68, hs69, hs70, go_sem, List.map_append, List.map_cons, List.map_nil, Option.some.injEq, Prod.mk.injEq, SC.d.injEq, D.l.injEq, List.map_set])
    ·try dsimp only at h
     rw [hk49] at h
     obtain ⟨v71, hv71, h⟩ := obi h
     try simp only [go_sem]
     refine CallV.ro true (slices_Contains_Txn_ok G v3.Over p1 v71 hv71) (by first | rfl | (simp only [go_sem, inVs_caps]; done) | simp only [go_sem, inVs_caps, List.map_append, List.map_cons, List.map_nil, List.map_set]) ?_
     rintro rs rfl
     refine ⟨.inr (by simp only [go_sem, RV.plain, D.plain, D.plain0, D.plain1, List.all_map, Function.comp_def, all_tt]), ?_⟩
     obtain ⟨k73, hk73, h⟩ := withK_lk1 h
     try simp only [go_sem]
     refine join_lk Try.prog G _ _ (B := (List Txn)) (fun b => k73 b = some r) (fun b => [(6, .one (.p (.q 0 0 0))), (9, .one (.p (.q 1 0 0)))]) (fun b => [some (.box [.nl 3, .nl 6, .nl 3, .nl 2]), some (.box [.r 2 0 b5_1.length, .r 3 0 b25_1.length, .r 4 0 b48_1.length, .r 5 0 b.length]), some (.arr 3 (b5_1.map Item.enc) false), some (.arr 6 (b25_1.map Lock.enc) false), some (.arr 3 (b48_1.map Doubt.enc) false), some (.arr 2 (b.map Txn.enc) false)]) ?_ (fun b72_1 h => ?_)
     ·rcases of_if h with ⟨hb74, h⟩ | ⟨hb74, h⟩
      ·have hkhb74 := not_eq_t hb74
       obtain ⟨hf75, h⟩ := of_chk h
       try simp only [hb74, hkhb74, hf75, go_sem]
       exact joinQ_c ((v3.Over ++ [p1])) h [some 1, some 2, some 3, some 4, some 5, some 8] rfl (by simp only [hb74, hkhb74, hf75, go_sem, List.map_append, List.map_cons, List.map_nil, Option.some.injEq, Prod.mk.injEq, SC.d.injEq, D.l.injEq, List.map_set])
      ·have hkhb74 := not_eq_f hb74
       try simp only [hb74, hkhb74, go_sem]
       exact joinQ_c (v3.Over) h [some 1, some 2, some 3, some 4, some 5, some 6] rfl (by simp only [hb74, hkhb74, go_sem, List.map_append, List.map_cons, List.map_nil, Option.some.injEq, Prod.mk.injEq, SC.d.injEq, D.l.injEq, List.map_set])
     ·try dsimp only at h
      rw [hk73] at h
      simp only [Option.some.injEq] at h
      subst h
      try simp only [go_sem, List.map_append, List.map_cons, List.map_nil, List.map_set]
theorem low22 : lowF Try.prog 22 = some (cloneV 4 24 [(zi 0), (zi 0), (.d (.b false)), (.d (.b false))]) := by kernel_rfl
theorem fok22 : fOk Try.prog 22 = true := by kernel_rfl
theorem clone22_ok (G : Nat → Option (List D)) (p0 r : List Note) (h : cloneF 24 p0 = some r) : FnRO Try.prog G 22 [.one (.d (.l 4 (p0.map Note.enc)))] (fun rs => rs = [.one (.o 4 (r.map Note.enc))]) := clone_ok low22 fok22 G Note.enc p0 r h
def part_own (p0 : Answer) (p1 : List Note) : Option (Answer) := (Option.bind (cloneF 24 p0.Store.Items) fun v1 => (Option.bind (cloneF 48 p0.Store.Locks) fun v2 => (Option.bind (cloneF 24 p0.Store.Doubts) fun v3 => (Option.bind (cloneF 16 p0.Store.Over) fun v4 => (some (Answer.mk (Store.mk v1 v2 v3 v4) p0.Messages p0.Records p1))))))
def F13 : VFn := ⟨25, (.seq (.reg [vo 2 (.box 7 (.t 0)), vo 4 (.alloc [(.nl 3), (.nl 6), (.nl 3), (.nl 2), (.nl 12), (.nl 8), (.nl 4)])]) (.seq (.reg [vo 6 (.fa 0 (.t 2)), vo 7 (.ld true 4 (.t 6)), vo 5 (.alloc [(.nl 3), (.nl 6), (.nl 3), (.nl 2)]), vu (.st 4 (.t 5) (.t 7))]) (.seq (.draw [vd (vo 8 (.fa 0 (.t 5))) [], vd (vo 9 (.ld false 1 (.t 8))) [0], vd (vo 10 (.call 28 [(.t 9)])) [1, 0], ⟨vo 11 (.fa 1 (.t 5)), [], [2], none, []⟩, ⟨vo 12 (.ld false 1 (.t 11)), [3], [2], none, []⟩, vd (vo 13 (.call 29 [(.t 12)])) [4, 3, 2, 1, 0], ⟨vo 14 (.fa 2 (.t 5)), [], [2, 5], none, []⟩, ⟨vo 15 (.ld false 1 (.t 14)), [6], [2, 5], none, []⟩, vd (vo 16 (.call 30 [(.t 15)])) [7, 6, 5, 4, 3, 2, 1, 0], ⟨vo 17 (.fa 3 (.t 5)), [], [2, 5, 8], none, []⟩, ⟨vo 18 (.ld false 1 (.t 17)), [9], [2, 5, 8], none, []⟩, vd (vo 19 (.call 31 [(.t 18)])) [10, 9, 8, 7, 6, 5, 4, 3, 2, 1, 0], vd (vo 20 (.build [(.nl 3), (.nl 6), (.nl 3), (.nl 2)] [(0, 1, (.t 10)), (1, 1, (.t 13)), (2, 1, (.t 16)), (3, 1, (.t 19))])) [2, 1, 0, 5, 4, 3, 8, 7, 6, 11, 10, 9], vd (vo 21 (.fa 0 (.t 2))) [0, 1, 2, 3, 4, 5, 6, 7, 8, 9, 10, 11, 12], vd (vu (.st 4 (.t 21) (.t 20))) [13, 0, 1, 2, 3, 4, 5, 6, 7, 8, 9, 10, 11, 12]]) (.seq (.reg [vm 22 1, vo 23 (.fa 6 (.t 2)), vu (.st 1 (.t 23) (.t 22))]) (.seq (.reg [vo 24 (.ld true 7 (.t 2)), vu (.st 7 (.t 4) (.t 24))]) .ret))))), [.cell 4 true 7]⟩
theorem low13 : lowF Try.prog 13 = some F13.strip := by kernel_rfl
theorem fok13 : fOk Try.prog 13 = true := by kernel_rfl
theorem part_own_ok (G : Nat → Option (List D)) (p0 : Answer) (p1 : List Note) (r : Answer) (h : part_own p0 p1 = some r) : FnRO Try.prog G 13 [.agg [.d (.l 3 (p0.Store.Items.map Item.enc)), .d (.l 6 (p0.Store.Locks.map Lock.enc)), .d (.l 3 (p0.Store.Doubts.map Doubt.enc)), .d (.l 2 (p0.Store.Over.map Txn.enc)), .d (.l 12 (p0.Messages.map Message.enc)), .d (.l 8 (p0.Records.map Record.enc)), .d (.l 4 (p0.Notes.map Note.enc))], .one (.d (.l 4 (p1.map Note.enc)))] (fun rs => rs = [.agg (r.enc)]) := by
 refine FnRO.fz ?_ rfl
 refine FnRO.of' low13 fok13 (by simp [F13]) ?_
 rw [part_own] at h
 simp only [F13, go_sem]
 obtain ⟨v1, hv1, h⟩ := obi h
 try simp only [go_sem]
 refine ⟨_, _, CallD.ro false (clone28_ok G p0.Store.Items v1 hv1) rfl (.inl rfl) rfl, ?_⟩
 obtain ⟨v2, hv2, h⟩ := obi h
 try simp only [go_sem]
 refine ⟨_, _, CallD.ro false (clone29_ok G p0.Store.Locks v2 hv2) rfl (.inl rfl) rfl, ?_⟩
 obtain ⟨v3, hv3, h⟩ := obi h
 try simp only [go_sem]
 refine ⟨_, _, CallD.ro false (clone30_ok G p0.Store.Doubts v3 hv3) rfl (.inl rfl) rfl, ?_⟩
 obtain ⟨v4, hv4, h⟩ := obi h
 try simp only [go_sem]
 refine ⟨_, _, CallD.ro false (clone31_ok G p0.Store.Over v4 hv4) rfl (.inl rfl) rfl, ?_⟩
 simp only [Option.some.injEq] at h
 subst h
 try simp only [go_sem, List.map_append, List.map_cons, List.map_nil, List.map_set]
def part_Force_L1 (p3 : List Store) (k2 : Int → Option (Answer × Int)) (k12 : Option (Answer × Int)) : Nat → Nat → Option (Answer × Int)
 | 0, _ => none
 | n14 + 1, a13_1 => (if (decide (a13_1 < p3.length)) = true then (Option.bind (p3[a13_1]?) fun x16 => (Option.bind (store_Check x16) fun v17 => (if (v17 != 0) = true then (k2 v17) else (part_Force_L1 p3 k2 k12 n14 (a13_1 + 1))))) else k12)
def part_Force (p0 : Config) (p1 : Int) (p2 : Int) (p3 : List Store) (p4 : List Note) (p5 : Txn) (p6 : Bool) : Option (Answer × Int) := (withK (fun (b1_1 : Int) => (if (b1_1 != 0) = true then (some ((Answer.mk (Store.mk [] [] [] []) [] [] []), b1_1)) else (if 0 ≤ p1 then (Option.bind (p3[p1.toNat]?) fun x21 => (Option.bind (store_Writes x21 p5) fun v23 => (if (v23.2 != 0) = true then (some ((Answer.mk (Store.mk [] [] [] []) [] [] []), v23.2)) else (if (v23.1 == 0) = true then (some ((Answer.mk (Store.mk [] [] [] []) [] [] []), 6)) else (if (decide (((p4.length : Nat) : Int) ≥ 60)) = true then (some ((Answer.mk (Store.mk [] [] [] []) [] [] []), 8)) else (Option.bind (store_End x21 p5 p6) fun v28 => (withK (Option.bind (cloneF 24 p4) fun v32 => (if fits 24 (v32.length + 1) then (Option.bind (part_own (Answer.mk v28.1 [] [(Record.mk 6 p5 0 0 0 p6 [])] []) (v32 ++ [(Note.mk p5 p6 false)])) fun v34 => (some (v34, 0))) else none)) fun k30 => k30))))))) else none))) fun k2 => (Option.bind (label_Check p0) fun v3 => (if (v3 != 0) = true then (k2 v3) else (if (decide (p1 < 0)) = true then (k2 6) else (if (decide (p1 ≥ ((p0.Labels.length : Nat) : Int))) = true then (k2 6) else (if (decide (p2 < 0)) = true then (k2 2) else (if (decide (p2 ≥ p0.Sites)) = true then (k2 2) else (if (((p3.length : Nat) : Int) != ((p0.Labels.length : Nat) : Int)) = true then (k2 9) else (withK (k2 0) fun k12 => (part_Force_L1 p3 k2 k12 (p3.length + 1) 0))))))))))
def F8 : VFn := ⟨80, (.seq (.reg [vo 7 (.box 3 (.t 0)), vo 12 (.boxk 2 (.t 5)), vo 14 (.alloc [(.nl 3), (.nl 6), (.nl 3), (.nl 2), (.nl 12), (.nl 8), (.nl 4)]), vo 15 (.mv (ci 0))]) (.seq (.reg [vo 23 (.ld true 3 (.t 7)), vm 24 1, vm 25 2, vm 26 3, vo 27 (.build [(zi 0), (.nl 2), (zi 0), (zi 0), (zi 0), (.nl 4)] [(0, 3, (.t 23)), (3, 1, (.t 24)), (4, 1, (.t 25)), (5, 1, (.t 26))]), vo 28 (.box 6 (.t 27)), vm 16 28]) (.seq (.seq (.wk (.reg [vm 29 16, vo 30 (.call 11 [(.t 29)]), vm 17 30])) (.seq (.reg [vm 31 17, vo 32 (.bin .i .neq (.t 31) (ci 0))]) (.cond (.t 32) (.seq (.reg [vo 33 (.build [(.nl 3), (.nl 6), (.nl 3), (.nl 2), (.nl 12), (.nl 8), (.nl 4)] []), vm 34 17, vu (.st 7 (.t 14) (.t 33)), vm 15 34]) .ret) .skip))) (.seq (.draw [vd (vm 36 3) [], vd (vm 37 1) [], vd (vo 38 (.ia 4 (.t 36) (.t 37))) [0, 1], vd (vo 39 (.ld true 4 (.t 38))) [2, 0, 1], vd (vo 40 (.ld true 2 (.t 12))) [], vd (vo 41 (.call 20 [(.t 39), (.t 40)])) [3, 2, 0, 1, 4], vd (vm 35 41) [5, 3, 2, 0, 1, 4], vd (vo 42 (.ext (.t 35) 0)) [6, 5, 3, 2, 0, 1, 4], vd (vo 43 (.ext (.t 35) 1)) [6, 5, 3, 2, 0, 1, 4], vd (vm 18 42) [7, 6, 5, 3, 2, 0, 1, 4], vd (vm 19 43) [8, 6, 5, 3, 2, 0, 1, 4, 9, 7]]) (.seq (.seq (.reg [vm 44 19, vo 45 (.bin .i .neq (.t 44) (ci 0))]) (.cond (.t 45) (.seq (.reg [vo 46 (.build [(.nl 3), (.nl 6), (.nl 3), (.nl 2), (.nl 12), (.nl 8), (.nl 4)] []), vm 47 19, vu (.st 7 (.t 14) (.t 46)), vm 15 47]) .ret) .skip)) (.seq (.seq (.reg [vm 48 18, vo 49 (.bin .i .eql (.t 48) (ci 0))]) (.cond (.t 49) (.seq (.reg [vo 50 (.build [(.nl 3), (.nl 6), (.nl 3), (.nl 2), (.nl 12), (.nl 8), (.nl 4)] []), vu (.st 7 (.t 14) (.t 50)), vo 15 (.mv (ci 6))]) .ret) .skip)) (.seq (.seq (.reg [vm 51 4, vo 52 (.len (.t 51)), vo 53 (.bin .i .geq (.t 52) (ci 60))]) (.cond (.t 53) (.seq (.reg [vo 54 (.build [(.nl 3), (.nl 6), (.nl 3), (.nl 2), (.nl 12), (.nl 8), (.nl 4)] []), vu (.st 7 (.t 14) (.t 54)), vo 15 (.mv (ci 8))]) .ret) .skip)) (.seq (.draw [vd (vm 56 3) [], vd (vm 57 1) [], vd (vo 58 (.ia 4 (.t 56) (.t 57))) [0, 1], vd (vo 59 (.ld true 4 (.t 58))) [2, 0, 1], vd (vo 60 (.ld true 2 (.t 12))) [], vd (vm 61 6) [], vd (vo 62 (.call 21 [(.t 59), (.t 60), (.t 61)])) [3, 2, 0, 1, 4, 5], vd (vm 55 62) [6, 3, 2, 0, 1, 4, 5], vd (vo 63 (.ext (.t 55) 0)) [7, 6, 3, 2, 0, 1, 4, 5], vd (vo 64 (.ext (.t 55) 1)) [7, 6, 3, 2, 0, 1, 4, 5], ⟨vo 20 (.alloc [(.nl 3), (.nl 6), (.nl 3), (.nl 2)]), [], [6], none, []⟩, vd (vu (.st 4 (.t 20) (.t 63))) [10, 8, 7, 6, 3, 2, 0, 1, 4, 5], vd (vm 21 64) [9, 7, 6, 3, 2, 0, 1, 4, 5, 11, 10, 8]]) (.seq (.regs [[vo 65 (.ld true 4 (.t 20)), vo 66 (.ld true 2 (.t 12)), vm 67 6, vo 68 (.build [(zi 0), (zi 0), (zi 0), (zi 0), (zi 0), (zi 0), (.d (.b false)), (.nl 1)] [(0, 1, (ci 6)), (1, 2, (.t 66)), (6, 1, (.t 67))])], [vo 69 (.bsl 8 1 [(zi 0), (zi 0), (zi 0), (zi 0), (zi 0), (zi 0), (.d (.b false)), (.nl 1)] [(0, (.t 68))]), vo 70 (.build [(.nl 3), (.nl 6), (.nl 3), (.nl 2), (.nl 12), (.nl 8), (.nl 4)] [(0, 4, (.t 65)), (5, 1, (.t 69))]), vo 22 (.alloc [(.nl 3), (.nl 6), (.nl 3), (.nl 2), (.nl 12), (.nl 8), (.nl 4)]), vu (.st 7 (.t 22) (.t 70))]]) (.seq (.pre (.draw [⟨vo 71 (.ld true 7 (.t 22)), [], [], none, [5]⟩, vd (vm 72 4) [], vd (vo 73 (.call 22 [(.t 72)])) [1], ⟨vo 74 (.ld true 2 (.t 12)), [], [2], none, []⟩, ⟨vm 75 6, [], [2], none, []⟩, ⟨vo 76 (.build [(zi 0), (zi 0), (.d (.b false)), (.d (.b false))] [(0, 2, (.t 74)), (2, 1, (.t 75))]), [3, 4], [2], none, []⟩, ⟨vo 77 (.bsl 4 1 [(zi 0), (zi 0), (.d (.b false)), (.d (.b false))] [(0, (.t 76))]), [5, 3, 4], [2], none, []⟩, ⟨vo 78 (.appq 4 24 (.t 73) (.t 77)), [2, 1, 6, 5, 3, 4], [], (some 5), []⟩, vd (vo 79 (.call 13 [(.t 71), (.t 78)])) [0, 7, 2, 1, 6, 5, 3, 4], vd (vu (.st 7 (.t 14) (.t 79))) [8, 0, 7, 2, 1, 6, 5, 3, 4], vd (vo 15 (.mv (ci 0))) [9, 8, 0, 7, 2, 1, 6, 5, 3, 4]])) .ret)))))))))), [.cell 14 true 7, .t 15]⟩
theorem low8 : lowF Try.prog 8 = some F8.strip := by kernel_rfl
theorem fok8 : fOk Try.prog 8 = true := by kernel_rfl
theorem part_Force_ok (G : Nat → Option (List D)) (p0 : Config) (p1 : Int) (p2 : Int) (p3 : List Store) (p4 : List Note) (p5 : Txn) (p6 : Bool) (r : Answer × Int) (h : part_Force p0 p1 p2 p3 p4 p5 p6 = some r) : FnRO Try.prog G 8 [.agg [.d (.i .i64 p0.Sites), .d (.l 2 (p0.Labels.map Label.enc)), .d (.i .i64 p0.Patience)], .one (.d (.i .i64 p1)), .one (.d (.i .i64 p2)), .one (.d (.l 4 (p3.map Store.enc))), .one (.d (.l 4 (p4.map Note.enc))), .agg [.d (.i .i64 p5.Site), .d (.i .i64 p5.N)], .one (.d (.b p6))] (fun rs => rs = [.agg (r.1.enc), .one (.i .i64 r.2)]) := by
 refine FnRO.fz ?_ rfl
 refine FnRO.of' low8 fok8 (by simp [F8]) ?_
 rw [part_Force] at h
 simp only [F8, go_sem]
 obtain ⟨k2, hk2, h⟩ := withK_lk1 h
 try simp only [go_sem]
 refine join_lk Try.prog G _ _ (B := Int) (fun b => k2 b = some r) (fun b => [(1, .one (zi p1)), (3, .one (.d (.l 4 (p3.map Store.enc)))), (4, .one (.d (.l 4 (p4.map Note.enc)))), (6, .one (.d (.b p6))), (12, .one (.d (.k (Txn.enc p5)))), (14, .one (.p (.q 0 0 0))), (17, .one (zi b))]) (fun b => [some (.box [.nl 3, .nl 6, .nl 3, .nl 2, .nl 12, .nl 8, .nl 4])]) ?_ (fun b1_1 h => ?_)
 ·try simp only [go_sem]
  refine CallV.x low11 fok11 (by simp [F11]) (by simp [F11]) ?_
  simp only [F11, go_sem]
  obtain ⟨v3, hv3, h⟩ := obi h
  try simp only [go_sem]
  refine CallV.ro false (label_Check_ok G p0 v3 hv3) rfl ?_
  rintro rs rfl
  refine ⟨.inl rfl, ?_⟩
  rcases of_if h with ⟨hb4, h⟩ | ⟨hb4, h⟩
  ·try simp only [hb4, go_sem]
   exact joinQ_c (v3) h [some 1] rfl (by simp only [hb4, go_sem, List.map_append, List.map_cons, List.map_nil, Option.some.injEq, Prod.mk.injEq, SC.d.injEq, D.l.injEq, List.map_set])
  ·rcases of_if h with ⟨hb5, h⟩ | ⟨hb5, h⟩
   ·have hkhb5 := of_decide_eq_true hb5
    try simp only [hb4, hb5, hkhb5, go_sem]
    exact joinQ_c (6) h [some 1] rfl (by simp only [hb4, hb5, hkhb5, go_sem, List.map_append, List.map_cons, List.map_nil, Option.some.injEq, Prod.mk.injEq, SC.d.injEq, D.l.injEq, List.map_set])
   ·rcases of_if h with ⟨hb6, h⟩ | ⟨hb6, h⟩
    ·try simp only [hb4, hb5, hb6, go_sem]
     exact joinQ_c (6) h [some 1] rfl (by simp only [hb4, hb5, hb6, go_sem, List.map_append, List.map_cons, List.map_nil, Option.some.injEq, Prod.mk.injEq, SC.d.injEq, D.l.injEq, List.map_set])
    ·rcases of_if h with ⟨hb7, h⟩ | ⟨hb7, h⟩
     ·have hkhb7 := of_decide_eq_true hb7
      try simp only [hb4, hb5, hb6, hb7, hkhb7, go_sem]
      exact joinQ_c (2) h [some 1] rfl (by simp only [hb4, hb5, hb6, hb7, hkhb7, go_sem, List.map_append, List.map_cons, List.map_nil, Option.some.injEq, Prod.mk.injEq, SC.d.injEq, D.l.injEq, List.map_set])
     ·rcases of_if h with ⟨hb8, h⟩ | ⟨hb8, h⟩
      ·try simp only [hb4, hb5, hb6, hb7, hb8, go_sem]
       exact joinQ_c (2) h [some 1] rfl (by simp only [hb4, hb5, hb6, hb7, hb8, go_sem, List.map_append, List.map_cons, List.map_nil, Option.some.injEq, Prod.mk.injEq, SC.d.injEq, D.l.injEq, List.map_set])
      ·rcases of_if h with ⟨hb9, h⟩ | ⟨hb9, h⟩
       ·try simp only [hb4, hb5, hb6, hb7, hb8, hb9, go_sem]
        exact joinQ_c (9) h [some 1] rfl (by simp only [hb4, hb5, hb6, hb7, hb8, hb9, go_sem, List.map_append, List.map_cons, List.map_nil, Option.some.injEq, Prod.mk.injEq, SC.d.injEq, D.l.injEq, List.map_set])
       ·try simp only [hb4, hb5, hb6, hb7, hb8, hb9, go_sem]
        intro hl10
        obtain ⟨k12, hk12, h⟩ := withK_lk0 h
        try simp only [hb4, hb5, hb6, hb7, hb8, hb9, go_sem]
        refine join_lk Try.prog G _ _ (B := Unit) (fun b => k12 = some r) (fun b => [(1000001, .one (zi p1)), (1000003, .one (.d (.l 4 (p3.map Store.enc)))), (1000004, .one (.d (.l 4 (p4.map Note.enc)))), (1000006, .one (.d (.b p6))), (1000012, .one (.d (.k (Txn.enc p5)))), (1000014, .one (.p (.q 0 0 0)))]) (fun b => [some (.box [.nl 3, .nl 6, .nl 3, .nl 2, .nl 12, .nl 8, .nl 4])]) ?_ (fun b h => ?_)
        ·try simp only [hb4, hb5, hb6, hb7, hb8, hb9, go_sem]
         refine loop_lk Try.prog G _ _ (A := Nat) (fun n a => part_Force_L1 p3 k2 k12 n a = some r) (fun a => [(65, .one (.d (.l 4 (p3.map Store.enc)))), (66, .one (.d (.i .i64 ((p3.length : Nat) : Int)))), (67, .one (.d (.i .i64 ((a : Nat) : Int)))), (1000001, .one (zi p1)), (1000003, .one (.d (.l 4 (p3.map Store.enc)))), (1000004, .one (.d (.l 4 (p4.map Note.enc)))), (1000006, .one (.d (.b p6))), (1000012, .one (.d (.k (Txn.enc p5)))), (1000014, .one (.p (.q 0 0 0)))]) (fun a => [some (.box [.nl 3, .nl 6, .nl 3, .nl 2, .nl 12, .nl 8, .nl 4])]) (p3.length + 1) (0) h (wk_c _ _ _ [some 1] rfl (by simp only [hb4, hb5, hb6, hb7, hb8, hb9, go_sem, List.map_append, List.map_cons, List.map_nil, Option.some.injEq, Prod.mk.injEq, SC.d.injEq, D.l.injEq, List.map_set])) (fun a h => by simp only [part_Force_L1, reduceCtorEq] at h) ?_
         intro n14 a13_1 h
         try dsimp only at h
         rw [part_Force_L1] at h
         rcases of_if h with ⟨hb15, h⟩ | ⟨hb15, h⟩
         ·have hkhb15 := of_decide_eq_true hb15
          obtain ⟨x16, hx16, h⟩ := obi h
          have hkx16 := gtx hx16
          try simp only [List.length_take, List.length_drop, List.length_append, List.length_set, List.length_map, List.length_cons, List.length_nil, Nat.zero_add] at hkx16
          obtain ⟨v17, hv17, h⟩ := obi h
          try simp only [hb15, hkhb15, hx16, hkx16, go_sem]
          refine CallV.ro false (store_Check_ok G x16 v17 hv17) rfl ?_
          rintro rs rfl
          refine ⟨.inl rfl, ?_⟩
          rcases of_if h with ⟨hb18, h⟩ | ⟨hb18, h⟩
          ·try simp only [hb15, hkhb15, hx16, hkx16, hb18, go_sem]
           exact joinQ_c (v17) h [some 0] rfl (by simp only [hb15, hkhb15, hx16, hkx16, hb18, go_sem, List.map_append, List.map_cons, List.map_nil, Option.some.injEq, Prod.mk.injEq, SC.d.injEq, D.l.injEq, List.map_set])
          ·have hw19 := wrap_succ_max hkx16 hl10
           try simp only [hb15, hkhb15, hx16, hkx16, hb18, hw19, go_sem]
           exact loopQ_c (a13_1 + 1) h [some 0] rfl (by simp only [hb15, hkhb15, hx16, hkx16, hb18, hw19, go_sem, List.map_append, List.map_cons, List.map_nil, Option.some.injEq, Prod.mk.injEq, SC.d.injEq, D.l.injEq, List.map_set])
         ·try simp only [hb15, go_sem]
          exact joinQ_c () h [some 0] rfl (by simp only [hb15, go_sem, List.map_append, List.map_cons, List.map_nil, Option.some.injEq, Prod.mk.injEq, SC.d.injEq, D.l.injEq, List.map_set])
        ·try dsimp only at h
         rw [hk12] at h
         try simp only [go_sem]
         exact joinQ_c (0) h [some 0] rfl (by simp only [go_sem, List.map_append, List.map_cons, List.map_nil, Option.some.injEq, Prod.mk.injEq, SC.d.injEq, D.l.injEq, List.map_set])
 ·try dsimp only at h
  rw [hk2] at h
  rcases of_if h with ⟨hb20, h⟩ | ⟨hb20, h⟩
  ·simp only [Option.some.injEq] at h
   subst h
   try simp only [hb20, go_sem, List.map_append, List.map_cons, List.map_nil, List.map_set]
  ·obtain ⟨hn22, h⟩ := of_chk h
   obtain ⟨x21, hx21, h⟩ := obi h
   have hkx21 := gtx hx21
   try simp only [List.length_take, List.length_drop, List.length_append, List.length_set, List.length_map, List.length_cons, List.length_nil, Nat.zero_add] at hkx21
   have hk2x21 : p1 < ((p3.length : Nat) : Int) := by omega
   obtain ⟨v23, hv23, h⟩ := obi h
   try simp only [hb20, hx21, hkx21, hn22, hk2x21, go_sem]
   refine ⟨_, _, CallD.ro false (store_Writes_ok G x21 p5 v23 hv23) rfl (.inl rfl) rfl, ?_⟩
   rcases of_if h with ⟨hb24, h⟩ | ⟨hb24, h⟩
   ·simp only [Option.some.injEq] at h
    subst h
    try simp only [hb20, hx21, hkx21, hn22, hk2x21, hb24, go_sem, List.map_append, List.map_cons, List.map_nil, List.map_set]
   ·rcases of_if h with ⟨hb25, h⟩ | ⟨hb25, h⟩
    ·simp only [Option.some.injEq] at h
     subst h
     try simp only [hb20, hx21, hkx21, hn22, hk2x21, hb24, hb25, go_sem, List.map_append, List.map_cons, List.map_nil, List.map_set]
    ·try simp only [hb20, hx21, hkx21, hn22, hk2x21, hb24, hb25, go_sem]
     intro hl26
     rcases of_if h with ⟨hb27, h⟩ | ⟨hb27, h⟩
     ·simp only [Option.some.injEq] at h
      subst h
      try simp only [hb20, hx21, hkx21, hn22, hk2x21, hb24, hb25, hb27, go_sem, List.map_append, List.map_cons, List.map_nil, List.map_set]
     ·obtain ⟨v28, hv28, h⟩ := obi h
      try simp only [hb20, hx21, hkx21, hn22, hk2x21, hb24, hb25, hb27, go_sem]
      refine ⟨_, _, CallD.ro false (FnRO.fz' (store_End_ok G x21 p5 p6 v28 hv28) rfl rfl) rfl (.inl rfl) rfl, ?_⟩
      obtain ⟨k30, hk30, h⟩ := withK_lk0 h
      try simp only [hb20, hx21, hkx21, hn22, hk2x21, hb24, hb25, hb27, go_sem]
      refine regs_lk Try.prog G _ _ (B := Unit) (fun b => k30 = some r) (fun b => [(4, .one (.d (.l 4 (p4.map Note.enc)))), (6, .one (.d (.b p6))), (12, .one (.d (.k (Txn.enc p5)))), (14, .one (.p (.q 0 0 0))), (65, .agg [.d (.l 3 (v28.1.Items.map Item.enc)), .d (.l 6 (v28.1.Locks.map Lock.enc)), .d (.l 3 (v28.1.Doubts.map Doubt.enc)), .d (.l 2 (v28.1.Over.map Txn.enc))]), (68, .agg [zi 6, zi p5.Site, zi p5.N, zi 0, zi 0, zi 0, .d (.b p6), .nl 1])]) (fun b => [some (.box [.nl 3, .nl 6, .nl 3, .nl 2, .nl 12, .nl 8, .nl 4])]) ?_ (fun b h => ?_)
      ·try simp only [hb20, hx21, hkx21, hn22, hk2x21, hb24, hb25, hb27, go_sem]
       exact joinQ_c () h [some 0] rfl (by simp only [hb20, hx21, hkx21, hn22, hk2x21, hb24, hb25, hb27, go_sem, List.map_append, List.map_cons, List.map_nil, Option.some.injEq, Prod.mk.injEq, SC.d.injEq, D.l.injEq, List.map_set])
      ·try dsimp only at h
       rw [hk30] at h
       try simp only [hx21, hkx21, hn22, hk2x21, go_sem]
       refine pre_lk Try.prog G _ _ [(4, .one (.d (.l 4 (p4.map Note.enc)))), (6, .one (.d (.b p6))), (12, .one (.d (.k (Txn.enc p5)))), (14, .one (.p (.q 0 0 0))), (22, .one (.p (.q 1 0 0)))] [some (.box [.nl 3, .nl 6, .nl 3, .nl 2, .nl 12, .nl 8, .nl 4]), some (.box [.d (.l 3 (v28.1.Items.map Item.enc)), .d (.l 6 (v28.1.Locks.map Lock.enc)), .d (.l 3 (v28.1.Doubts.map Doubt.enc)), .d (.l 2 (v28.1.Over.map Txn.enc)), .nl 12, .r 2 0 1, .nl 4]), some (.arr 8 ([(Record.mk 6 p5 0 0 0 p6 [])].map Record.enc) true)] [1] [some 0, some 2, some 1] rfl (by simp only [hx21, hkx21, hn22, hk2x21, go_sem, List.map_append, List.map_cons, List.map_nil, Option.some.injEq, Prod.mk.injEq, SC.d.injEq, D.l.injEq, List.map_set]) (by simp only [hx21, hkx21, hn22, hk2x21, go_sem, List.map_append, List.map_cons, List.map_nil, Option.some.injEq, Prod.mk.injEq, SC.d.injEq, D.l.injEq, List.map_set]) ?_
       obtain ⟨v32, hv32, h⟩ := obi h
       try simp only [hx21, hkx21, hn22, hk2x21, go_sem]
       refine ⟨_, _, CallD.ro false (clone22_ok G p4 v32 hv32) rfl (.inl rfl) rfl, ?_⟩
       obtain ⟨hf33, h⟩ := of_chk h
       obtain ⟨v34, hv34, h⟩ := obi h
       try simp only [hx21, hkx21, hn22, hk2x21, hf33, go_sem]
       refine ⟨_, _, CallD.ro false (part_own_ok G (Answer.mk v28.1 [] [(Record.mk 6 p5 0 0 0 p6 [])] []) (v32 ++ [(Note.mk p5 p6 false)]) v34 hv34) (by first | rfl | (simp only [hx21, hkx21, hn22, hk2x21, hf33, go_sem, inVs_caps]; done) | simp only [hx21, hkx21, hn22, hk2x21, hf33, go_sem, inVs_caps, List.map_append, List.map_cons, List.map_nil, List.map_set]) (.inl rfl) rfl, ?_⟩
       simp only [Option.some.injEq] at h
       subst h
       try simp only [hx21, hkx21, hn22, hk2x21, hf33, go_sem, List.map_append, List.map_cons, List.map_nil, List.map_set]
def reredosref_In (p0 : Int) (p1 : Int) (p2 : Int) : Option (Bool) := (withK (fun (b1_1 : Bool) => (some b1_1)) fun k2 => (if (decide (p0 ≥ p1)) = true then (k2 (decide (p0 ≤ p2))) else (k2 false)))
def F34 : VFn := ⟨15, (.seq (.reg [vo 6 (.mv (cb false))]) (.seq (.wk (.reg [vm 7 0, vm 8 1, vo 9 (.bin .i .geq (.t 7) (.t 8)), vm 10 9, ⟨(some 11), .mv (.t 0), (some (10, true))⟩, ⟨(some 12), .mv (.t 2), (some (10, true))⟩, ⟨(some 13), .bin .i .leq (.t 11) (.t 12), (some (10, true))⟩, vo 14 (.pick (.t 10) (.t 13) (cb false)), vm 6 14])) .ret)), [.t 6]⟩
theorem low34 : lowF Try.prog 34 = some F34.strip := by kernel_rfl
theorem fok34 : fOk Try.prog 34 = true := by kernel_rfl
theorem reredosref_In_ok (G : Nat → Option (List D)) (p0 : Int) (p1 : Int) (p2 : Int) (r : Bool) (h : reredosref_In p0 p1 p2 = some r) : FnRO Try.prog G 34 [.one (.d (.i .i64 p0)), .one (.d (.i .i64 p1)), .one (.d (.i .i64 p2))] (fun rs => rs = [.one (.b r)]) := by
 refine FnRO.of' low34 fok34 (by simp [F34]) ?_
 rw [reredosref_In] at h
 simp only [F34, go_sem]
 obtain ⟨k2, hk2, h⟩ := withK_lk1 h
 try simp only [go_sem]
 refine join_lk Try.prog G _ _ (B := Bool) (fun b => k2 b = some r) (fun b => [(6, .one (.d (.b b)))]) (fun b => []) ?_ (fun b1_1 h => ?_)
 ·rcases of_if h with ⟨hb3, h⟩ | ⟨hb3, h⟩
  ·try simp only [hb3, go_sem]
   exact joinQ_c (decide (p0 ≤ p2)) h [] rfl (by simp only [hb3, go_sem, List.map_append, List.map_cons, List.map_nil, Option.some.injEq, Prod.mk.injEq, SC.d.injEq, D.l.injEq, List.map_set])
  ·try simp only [hb3, go_sem]
   exact joinQ_c (false) h [] rfl (by simp only [hb3, go_sem, List.map_append, List.map_cons, List.map_nil, Option.some.injEq, Prod.mk.injEq, SC.d.injEq, D.l.injEq, List.map_set])
 ·try dsimp only at h
  rw [hk2] at h
  simp only [Option.some.injEq] at h
  subst h
  try simp only [go_sem, List.map_append, List.map_cons, List.map_nil, List.map_set]
def reredosref_ConfigFault_L2 (p0 : Config) (a8_1 : Nat) (x12 : Label) (k18 : Option (Int)) : Nat → Nat → Option (Int)
 | 0, _ => none
 | n20 + 1, a19_1 => (if (decide (a19_1 < a8_1)) = true then (Option.bind (p0.Labels[a19_1]?) fun x22 => (if ((x22.Level == x12.Level) && (x22.Cats == x12.Cats)) = true then (some 7) else (reredosref_ConfigFault_L2 p0 a8_1 x12 k18 n20 (a19_1 + 1)))) else k18)
def reredosref_ConfigFault_L1 (p0 : Config) (k7 : Option (Int)) : Nat → Nat → Option (Int)
 | 0, _ => none
 | n9 + 1, a8_1 => (if (decide (a8_1 < p0.Labels.length)) = true then (Option.bind (p0.Labels[a8_1]?) fun x12 => (Option.bind (reredosref_In x12.Level 0 9) fun v13 => (if (!v13) = true then (some 2) else (Option.bind (reredosref_In x12.Cats 0 15) fun v15 => (if (!v15) = true then (some 2) else (withK (reredosref_ConfigFault_L1 p0 k7 n9 (a8_1 + 1)) fun k18 => (reredosref_ConfigFault_L2 p0 a8_1 x12 k18 (a8_1 + 1) 0))))))) else k7)
def reredosref_ConfigFault (p0 : Config) : Option (Int) := (Option.bind (reredosref_In p0.Sites 1 4) fun v1 => (if (!v1) = true then (some 2) else (Option.bind (reredosref_In ((p0.Labels.length : Nat) : Int) 1 6) fun v4 => (if (!v4) = true then (some 1) else (withK (Option.bind (reredosref_In p0.Patience 1 1048576) fun v26 => (if (!v26) = true then (some 2) else (some 0))) fun k7 => (reredosref_ConfigFault_L1 p0 k7 (p0.Labels.length + 1) 0))))))
def F32 : VFn := ⟨59, (.seq (.reg [vo 1 (.boxk 3 (.t 0)), vo 2 (.mv (ci 0))]) (.seq (.seq (.reg [vo 5 (.fa 0 (.t 1)), vo 6 (.ld false 1 (.t 5)), vo 7 (.call 34 [(.t 6), (ci 1), (ci 4)]), vo 8 (.un .not (.t 7))]) (.cond (.t 8) (.seq (.reg [vo 2 (.mv (ci 2))]) .ret) .skip)) (.seq (.seq (.reg [vo 9 (.fa 1 (.t 1)), vo 10 (.ld false 1 (.t 9)), vo 11 (.len (.t 10)), vo 12 (.call 34 [(.t 11), (ci 1), (ci 6)]), vo 13 (.un .not (.t 12))]) (.cond (.t 13) (.seq (.reg [vo 2 (.mv (ci 1))]) .ret) .skip)) (.seq (.seq (.reg [vo 3 (.mv (ci 0))]) (.wk (.block 0 (.loop (.seq (.seq (.reg [vm 14 3, vo 15 (.fa 1 (.t 1)), vo 16 (.ld false 1 (.t 15)), vo 17 (.len (.t 16)), vo 18 (.bin .i .lss (.t 14) (.t 17))]) (.cond (.t 18) .skip (.exit 0))) (.seq (.block 1 (.seq (.seq (.reg [vo 21 (.fa 1 (.t 1)), vo 22 (.ld false 1 (.t 21)), vm 23 3, vo 24 (.ia 2 (.t 22) (.t 23)), vo 25 (.fa 0 (.t 24)), vo 26 (.ld false 1 (.t 25)), vo 27 (.call 34 [(.t 26), (ci 0), (ci 9)]), vo 28 (.un .not (.t 27)), vm 29 28, ⟨(some 30), .fa 1 (.t 1), (some (29, false))⟩, ⟨(some 31), .ld false 1 (.t 30), (some (29, false))⟩, ⟨(some 32), .mv (.t 3), (some (29, false))⟩, ⟨(some 33), .ia 2 (.t 31) (.t 32), (some (29, false))⟩, ⟨(some 34), .fa 1 (.t 33), (some (29, false))⟩, ⟨(some 35), .ld false 1 (.t 34), (some (29, false))⟩, ⟨(some 36), .call 34 [(.t 35), (ci 0), (ci 15)], (some (29, false))⟩, ⟨(some 37), .un .not (.t 36), (some (29, false))⟩, vo 38 (.pick (.t 29) (cb true) (.t 37))]) (.cond (.t 38) (.seq (.reg [vo 2 (.mv (ci 2))]) .ret) .skip)) (.seq (.reg [vo 4 (.mv (ci 0))]) (.wk (.block 2 (.loop (.seq (.seq (.reg [vm 39 4, vm 40 3, vo 41 (.bin .i .lss (.t 39) (.t 40))]) (.cond (.t 41) .skip (.exit 2))) (.seq (.block 3 (.seq (.draw [vd (vo 44 (.fa 1 (.t 1))) [], vd (vo 45 (.ld false 1 (.t 44))) [0], vd (vm 46 4) [], vd (vo 47 (.ia 2 (.t 45) (.t 46))) [1, 0, 2], vd (vo 48 (.ld true 2 (.t 47))) [3, 1, 0, 2], vd (vo 49 (.fa 1 (.t 1))) [], vd (vo 50 (.ld false 1 (.t 49))) [5], vd (vm 51 3) [], vd (vo 52 (.ia 2 (.t 50) (.t 51))) [6, 5, 7], vd (vo 53 (.ld true 2 (.t 52))) [8, 6, 5, 7], vd (vo 54 (.eqs false [.i, .i] (.t 48) (.t 53))) [4, 3, 1, 0, 2, 9, 8, 6, 5, 7]]) (.cond (.t 54) (.seq (.reg [vo 2 (.mv (ci 7))]) .ret) .skip))) (.reg [vm 42 4, vo 43 (.bin .i .add (.t 42) (ci 1)), vm 4 43]))))))))) (.reg [vm 19 3, vo 20 (.bin .i .add (.t 19) (ci 1)), vm 3 20]))))))) (.seq (.seq (.reg [vo 55 (.fa 2 (.t 1)), vo 56 (.ld false 1 (.t 55)), vo 57 (.call 34 [(.t 56), (ci 1), (ci 1048576)]), vo 58 (.un .not (.t 57))]) (.cond (.t 58) (.seq (.reg [vo 2 (.mv (ci 2))]) .ret) .skip)) (.seq (.reg [vo 2 (.mv (ci 0))]) .ret)))))), [.t 2]⟩
theorem low32 : lowF Try.prog 32 = some F32.strip := by kernel_rfl
theorem fok32 : fOk Try.prog 32 = true := by kernel_rfl
theorem reredosref_ConfigFault_ok (G : Nat → Option (List D)) (p0 : Config) (r : Int) (h : reredosref_ConfigFault p0 = some r) : FnRO Try.prog G 32 [.agg [.d (.i .i64 p0.Sites), .d (.l 2 (p0.Labels.map Label.enc)), .d (.i .i64 p0.Patience)]] (fun rs => rs = [.one (.i .i64 r)]) := by
 refine FnRO.of' low32 fok32 (by simp [F32]) ?_
 rw [reredosref_ConfigFault] at h
 simp only [F32, go_sem]
 obtain ⟨v1, hv1, h⟩ := obi h
 try simp only [go_sem]
 refine CallV.ro false (reredosref_In_ok G p0.Sites 1 4 v1 hv1) rfl ?_
 rintro rs rfl
 refine ⟨.inl rfl, ?_⟩
 rcases of_if h with ⟨hb2, h⟩ | ⟨hb2, h⟩
 ·have hkhb2 := not_eq_t hb2
  simp only [Option.some.injEq] at h
  subst h
  try simp only [hb2, hkhb2, go_sem, List.map_append, List.map_cons, List.map_nil, List.map_set]
 ·have hkhb2 := not_eq_f hb2
  try simp only [hb2, hkhb2, go_sem]
  intro hl3
  obtain ⟨v4, hv4, h⟩ := obi h
  try simp only [hb2, hkhb2, go_sem]
  refine CallV.ro false (reredosref_In_ok G ((p0.Labels.length : Nat) : Int) 1 6 v4 hv4) rfl ?_
  rintro rs rfl
  refine ⟨.inl rfl, ?_⟩
  rcases of_if h with ⟨hb5, h⟩ | ⟨hb5, h⟩
  ·have hkhb5 := not_eq_t hb5
   simp only [Option.some.injEq] at h
   subst h
   try simp only [hb2, hkhb2, hb5, hkhb5, go_sem, List.map_append, List.map_cons, List.map_nil, List.map_set]
  ·have hkhb5 := not_eq_f hb5
   obtain ⟨k7, hk7, h⟩ := withK_lk0 h
   try simp only [hb2, hkhb2, hb5, hkhb5, go_sem]
   refine join_lk Try.prog G _ _ (B := Unit) (fun b => k7 = some r) (fun b => [(1, .one (.d (.k (Config.enc p0))))]) (fun b => []) ?_ (fun b h => ?_)
   ·try simp only [hb2, hkhb2, hb5, hkhb5, go_sem]
    refine loop_lk Try.prog G _ _ (A := Nat) (fun n a => reredosref_ConfigFault_L1 p0 k7 n a = some r) (fun a => [(1, .one (.d (.k (Config.enc p0)))), (3, .one (.d (.i .i64 ((a : Nat) : Int))))]) (fun a => []) (p0.Labels.length + 1) (0) h (wk_c _ _ _ [] rfl (by simp only [hb2, hkhb2, hb5, hkhb5, go_sem, List.map_append, List.map_cons, List.map_nil, Option.some.injEq, Prod.mk.injEq, SC.d.injEq, D.l.injEq, List.map_set])) (fun a h => by simp only [reredosref_ConfigFault_L1, reduceCtorEq] at h) ?_
    intro n9 a8_1 h
    try dsimp only at h
    rw [reredosref_ConfigFault_L1] at h
    try simp only [hkhb2, hkhb5, go_sem]
    intro hl10
    rcases of_if h with ⟨hb11, h⟩ | ⟨hb11, h⟩
    ·have hkhb11 := of_decide_eq_true hb11
     obtain ⟨x12, hx12, h⟩ := obi h
     have hkx12 := gtx hx12
     try simp only [List.length_take, List.length_drop, List.length_append, List.length_set, List.length_map, List.length_cons, List.length_nil, Nat.zero_add] at hkx12
     obtain ⟨v13, hv13, h⟩ := obi h
     try simp only [hkhb2, hkhb5, hb11, hkhb11, hx12, hkx12, go_sem]
     refine CallV.ro false (reredosref_In_ok G x12.Level 0 9 v13 hv13) rfl ?_
     rintro rs rfl
     refine ⟨.inl rfl, ?_⟩
     rcases of_if h with ⟨hb14, h⟩ | ⟨hb14, h⟩
     ·have hkhb14 := not_eq_t hb14
      simp only [Option.some.injEq] at h
      subst h
      try simp only [hkhb2, hkhb5, hb11, hkhb11, hx12, hkx12, hb14, hkhb14, go_sem, List.map_append, List.map_cons, List.map_nil, List.map_set]
     ·have hkhb14 := not_eq_f hb14
      obtain ⟨v15, hv15, h⟩ := obi h
      try simp only [hkhb2, hkhb5, hb11, hkhb11, hx12, hkx12, hb14, hkhb14, go_sem]
      refine CallV.ro false (reredosref_In_ok G x12.Cats 0 15 v15 hv15) rfl ?_
      rintro rs rfl
      refine ⟨.inl rfl, ?_⟩
      rcases of_if h with ⟨hb16, h⟩ | ⟨hb16, h⟩
      ·have hkhb16 := not_eq_t hb16
       simp only [Option.some.injEq] at h
       subst h
       try simp only [hkhb2, hkhb5, hb11, hkhb11, hx12, hkx12, hb14, hkhb14, hb16, hkhb16, go_sem, List.map_append, List.map_cons, List.map_nil, List.map_set]
      ·have hkhb16 := not_eq_f hb16
       obtain ⟨k18, hk18, h⟩ := withK_lk0 h
       try simp only [hkhb2, hkhb5, hb11, hkhb11, hx12, hkx12, hb14, hkhb14, hb16, hkhb16, go_sem]
       refine join_lk Try.prog G _ _ (B := Unit) (fun b => k18 = some r) (fun b => [(1, .one (.d (.k (Config.enc p0)))), (3, .one (.d (.i .i64 ((a8_1 : Nat) : Int)))), (30, .one (.p (.l 3 [(Config.enc p0)] 0 1))), (31, .one (.d (.l 2 (p0.Labels.map Label.enc)))), (32, .one (.d (.i .i64 ((a8_1 : Nat) : Int)))), (33, .one (.p (.l 2 (p0.Labels.map Label.enc) a8_1 0))), (34, .one (.p (.l 2 (p0.Labels.map Label.enc) a8_1 1))), (35, .one (zi x12.Cats)), (36, .one (.d (.b true))), (37, .one (.d (.b false)))]) (fun b => []) ?_ (fun b h => ?_)
       ·try simp only [hkhb2, hkhb5, hb11, hkhb11, hx12, hkx12, hb14, hkhb14, hb16, hkhb16, go_sem]
        refine loop_lk Try.prog G _ _ (A := Nat) (fun n a => reredosref_ConfigFault_L2 p0 a8_1 x12 k18 n a = some r) (fun a => [(1, .one (.d (.k (Config.enc p0)))), (3, .one (.d (.i .i64 ((a8_1 : Nat) : Int)))), (4, .one (.d (.i .i64 ((a : Nat) : Int)))), (30, .one (.p (.l 3 [(Config.enc p0)] 0 1))), (31, .one (.d (.l 2 (p0.Labels.map Label.enc)))), (32, .one (.d (.i .i64 ((a8_1 : Nat) : Int)))), (33, .one (.p (.l 2 (p0.Labels.map Label.enc) a8_1 0))), (34, .one (.p (.l 2 (p0.Labels.map Label.enc) a8_1 1))), (35, .one (zi x12.Cats)), (36, .one (.d (.b true))), (37, .one (.d (.b false)))]) (fun a => []) (a8_1 + 1) (0) h (wk_c _ _ _ [] rfl (by simp only [hkhb2, hkhb5, hb11, hkhb11, hx12, hkx12, hb14, hkhb14, hb16, hkhb16, go_sem, List.map_append, List.map_cons, List.map_nil, Option.some.injEq, Prod.mk.injEq, SC.d.injEq, D.l.injEq, List.map_set])) (fun a h => by simp only [reredosref_ConfigFault_L2, reduceCtorEq] at h) ?_
        intro n20 a19_1 h
        try dsimp only at h
        rw [reredosref_ConfigFault_L2] at h
        rcases of_if h with ⟨hb21, h⟩ | ⟨hb21, h⟩
        ·have hkhb21 := of_decide_eq_true hb21
         obtain ⟨x22, hx22, h⟩ := obi h
         have hkx22 := gtx hx22
         try simp only [List.length_take, List.length_drop, List.length_append, List.length_set, List.length_map, List.length_cons, List.length_nil, Nat.zero_add] at hkx22
         rcases of_if h with ⟨hb23, h⟩ | ⟨hb23, h⟩
         ·try simp only [hkhb2, hkhb5, hkhb11, hx12, hkx12, hkhb14, hkhb16, hb21, hkhb21, hx22, hkx22, hb23, go_sem]
          simp only [Option.some.injEq] at h
          subst h
          try simp only [hkhb2, hkhb5, hkhb11, hx12, hkx12, hkhb14, hkhb16, hb21, hkhb21, hx22, hkx22, hb23, go_sem, List.map_append, List.map_cons, List.map_nil, List.map_set]
         ·try simp only [hkhb2, hkhb5, hkhb11, hx12, hkx12, hkhb14, hkhb16, hb21, hkhb21, hx22, hkx22, hb23, go_sem]
          have hw24 := wrap_succ_max hkx22 hl10
          try simp only [hkhb2, hkhb5, hkhb11, hx12, hkx12, hkhb14, hkhb16, hb21, hkhb21, hx22, hkx22, hb23, hw24, go_sem]
          exact loopQ_c (a19_1 + 1) h [] rfl (by simp only [hkhb2, hkhb5, hkhb11, hx12, hkx12, hkhb14, hkhb16, hb21, hkhb21, hx22, hkx22, hb23, hw24, go_sem, List.map_append, List.map_cons, List.map_nil, Option.some.injEq, Prod.mk.injEq, SC.d.injEq, D.l.injEq, List.map_set])
        ·try simp only [hkhb2, hkhb5, hkhb11, hx12, hkx12, hkhb14, hkhb16, hb21, go_sem]
         exact joinQ_c () h [] rfl (by simp only [hkhb2, hkhb5, hkhb11, hx12, hkx12, hkhb14, hkhb16, hb21, go_sem, List.map_append, List.map_cons, List.map_nil, Option.some.injEq, Prod.mk.injEq, SC.d.injEq, D.l.injEq, List.map_set])
       ·try dsimp only at h
        rw [hk18] at h
        have hw25 := wrap_succ_max hkx12 hl10
        try simp only [hkhb2, hkhb5, hkhb11, hx12, hkx12, hkhb14, hkhb16, hw25, go_sem]
        exact loopQ_c (a8_1 + 1) h [] rfl (by simp only [hkhb2, hkhb5, hkhb11, hx12, hkx12, hkhb14, hkhb16, hw25, go_sem, List.map_append, List.map_cons, List.map_nil, Option.some.injEq, Prod.mk.injEq, SC.d.injEq, D.l.injEq, List.map_set])
    ·try simp only [hkhb2, hkhb5, hb11, go_sem]
     exact joinQ_c () h [] rfl (by simp only [hkhb2, hkhb5, hb11, go_sem, List.map_append, List.map_cons, List.map_nil, Option.some.injEq, Prod.mk.injEq, SC.d.injEq, D.l.injEq, List.map_set])
   ·try dsimp only at h
    rw [hk7] at h
    obtain ⟨v26, hv26, h⟩ := obi h
    try simp only [hkhb2, hkhb5, go_sem]
    refine CallV.ro false (reredosref_In_ok G p0.Patience 1 1048576 v26 hv26) rfl ?_
    rintro rs rfl
    refine ⟨.inl rfl, ?_⟩
    rcases of_if h with ⟨hb27, h⟩ | ⟨hb27, h⟩
    ·have hkhb27 := not_eq_t hb27
     simp only [Option.some.injEq] at h
     subst h
     try simp only [hkhb2, hkhb5, hb27, hkhb27, go_sem, List.map_append, List.map_cons, List.map_nil, List.map_set]
    ·have hkhb27 := not_eq_f hb27
     simp only [Option.some.injEq] at h
     subst h
     try simp only [hkhb2, hkhb5, hb27, hkhb27, go_sem, List.map_append, List.map_cons, List.map_nil, List.map_set]
def reredosref_labelMay (p0 : Config) (p1 : Int) : Option (Bool) := (Option.bind (reredosref_In p1 0 (IntKind.i64.wrap (((p0.Labels.length : Nat) : Int) - 1))) fun v2 => (some v2))
def F33 : VFn := ⟨11, (.seq (.reg [vo 2 (.box 3 (.t 0)), vo 4 (.mv (cb false))]) (.seq (.reg [vm 5 1, vo 6 (.fa 1 (.t 2)), vo 7 (.ld false 1 (.t 6)), vo 8 (.len (.t 7)), vo 9 (.bin .i .sub (.t 8) (ci 1)), vo 10 (.call 34 [(.t 5), (ci 0), (.t 9)]), vm 4 10]) .ret)), [.t 4]⟩
theorem low33 : lowF Try.prog 33 = some F33.strip := by kernel_rfl
theorem fok33 : fOk Try.prog 33 = true := by kernel_rfl
theorem reredosref_labelMay_ok (G : Nat → Option (List D)) (p0 : Config) (p1 : Int) (r : Bool) (h : reredosref_labelMay p0 p1 = some r) : FnRO Try.prog G 33 [.agg [.d (.i .i64 p0.Sites), .d (.l 2 (p0.Labels.map Label.enc)), .d (.i .i64 p0.Patience)], .one (.d (.i .i64 p1))] (fun rs => rs = [.one (.b r)]) := by
 refine FnRO.of' low33 fok33 (by simp [F33]) ?_
 rw [reredosref_labelMay] at h
 simp only [F33, go_sem]
 try simp only [go_sem]
 intro hl1
 obtain ⟨v2, hv2, h⟩ := obi h
 try simp only [go_sem]
 refine CallV.ro false (reredosref_In_ok G p1 0 (IntKind.i64.wrap (((p0.Labels.length : Nat) : Int) - 1)) v2 hv2) rfl ?_
 rintro rs rfl
 refine ⟨.inl rfl, ?_⟩
 simp only [Option.some.injEq] at h
 subst h
 try simp only [go_sem, List.map_append, List.map_cons, List.map_nil, List.map_set]
def reredosref_doubtOf_L1 (p0 : Store) (p1 : Txn) (k2 : Option (Int)) : Nat → Nat → Option (Int)
 | 0, _ => none
 | n4 + 1, a3_1 => (if (decide (a3_1 < p0.Doubts.length)) = true then (Option.bind (p0.Doubts[a3_1]?) fun x7 => (if ((x7.Txn.Site == p1.Site) && (x7.Txn.N == p1.N)) = true then (some ((a3_1 : Nat) : Int)) else (reredosref_doubtOf_L1 p0 p1 k2 n4 (a3_1 + 1)))) else k2)
def reredosref_doubtOf (p0 : Store) (p1 : Txn) : Option (Int) := (withK (some (-1)) fun k2 => (reredosref_doubtOf_L1 p0 p1 k2 (p0.Doubts.length + 1) 0))
def F54 : VFn := ⟨22, (.seq (.reg [vo 2 (.box 4 (.t 0)), vo 3 (.boxk 2 (.t 1)), vo 4 (.mv (ci 0))]) (.seq (.seq (.reg [vo 5 (.mv (ci 0))]) (.wk (.block 0 (.loop (.seq (.seq (.reg [vm 6 5, vo 7 (.fa 2 (.t 2)), vo 8 (.ld false 1 (.t 7)), vo 9 (.len (.t 8)), vo 10 (.bin .i .lss (.t 6) (.t 9))]) (.cond (.t 10) .skip (.exit 0))) (.seq (.block 1 (.seq (.draw [vd (vo 13 (.fa 2 (.t 2))) [], vd (vo 14 (.ld false 1 (.t 13))) [0], vd (vm 15 5) [], vd (vo 16 (.ia 3 (.t 14) (.t 15))) [1, 0, 2], vd (vo 17 (.fa 0 (.t 16))) [3, 1, 0, 2], vd (vo 18 (.ld true 2 (.t 17))) [4, 3, 1, 0, 2], vd (vo 19 (.ld true 2 (.t 3))) [], vd (vo 20 (.eqs false [.i, .i] (.t 18) (.t 19))) [5, 4, 3, 1, 0, 2, 6]]) (.cond (.t 20) (.seq (.reg [vm 21 5, vm 4 21]) .ret) .skip))) (.reg [vm 11 5, vo 12 (.bin .i .add (.t 11) (ci 1)), vm 5 12]))))))) (.seq (.reg [vo 4 (.mv (ci (-1)))]) .ret))), [.t 4]⟩
theorem low54 : lowF Try.prog 54 = some F54.strip := by kernel_rfl
theorem fok54 : fOk Try.prog 54 = true := by kernel_rfl
theorem reredosref_doubtOf_ok (G : Nat → Option (List D)) (p0 : Store) (p1 : Txn) (r : Int) (h : reredosref_doubtOf p0 p1 = some r) : FnRO Try.prog G 54 [.agg [.d (.l 3 (p0.Items.map Item.enc)), .d (.l 6 (p0.Locks.map Lock.enc)), .d (.l 3 (p0.Doubts.map Doubt.enc)), .d (.l 2 (p0.Over.map Txn.enc))], .agg [.d (.i .i64 p1.Site), .d (.i .i64 p1.N)]] (fun rs => rs = [.one (.i .i64 r)]) := by
 refine FnRO.of' low54 fok54 (by simp [F54]) ?_
 rw [reredosref_doubtOf] at h
 simp only [F54, go_sem]
 obtain ⟨k2, hk2, h⟩ := withK_lk0 h
 try simp only [go_sem]
 refine join_lk Try.prog G _ _ (B := Unit) (fun b => k2 = some r) (fun b => []) (fun b => []) ?_ (fun b h => ?_)
 ·try simp only [go_sem]
  refine loop_lk Try.prog G _ _ (A := Nat) (fun n a => reredosref_doubtOf_L1 p0 p1 k2 n a = some r) (fun a => [(2, .one (.p (.q 0 0 0))), (3, .one (.d (.k (Txn.enc p1)))), (5, .one (.d (.i .i64 ((a : Nat) : Int))))]) (fun a => [some (.box p0.bx)]) (p0.Doubts.length + 1) (0) h (wk_c _ _ _ [some 0] rfl (by simp only [go_sem, List.map_append, List.map_cons, List.map_nil, Option.some.injEq, Prod.mk.injEq, SC.d.injEq, D.l.injEq, List.map_set])) (fun a h => by simp only [reredosref_doubtOf_L1, reduceCtorEq] at h) ?_
  intro n4 a3_1 h
  try dsimp only at h
  rw [reredosref_doubtOf_L1] at h
  try simp only [go_sem]
  intro hl5
  rcases of_if h with ⟨hb6, h⟩ | ⟨hb6, h⟩
  ·have hkhb6 := of_decide_eq_true hb6
   obtain ⟨x7, hx7, h⟩ := obi h
   have hkx7 := gtx hx7
   try simp only [List.length_take, List.length_drop, List.length_append, List.length_set, List.length_map, List.length_cons, List.length_nil, Nat.zero_add] at hkx7
   rcases of_if h with ⟨hb8, h⟩ | ⟨hb8, h⟩
   ·try simp only [hb6, hkhb6, hx7, hkx7, hb8, go_sem]
    simp only [Option.some.injEq] at h
    subst h
    try simp only [hb6, hkhb6, hx7, hkx7, hb8, go_sem, List.map_append, List.map_cons, List.map_nil, List.map_set]
   ·try simp only [hb6, hkhb6, hx7, hkx7, hb8, go_sem]
    have hw9 := wrap_succ_max hkx7 hl5
    try simp only [hb6, hkhb6, hx7, hkx7, hb8, hw9, go_sem]
    exact loopQ_c (a3_1 + 1) h [some 0] rfl (by simp only [hb6, hkhb6, hx7, hkx7, hb8, hw9, go_sem, List.map_append, List.map_cons, List.map_nil, Option.some.injEq, Prod.mk.injEq, SC.d.injEq, D.l.injEq, List.map_set])
  ·try simp only [hb6, go_sem]
   exact joinQ_c () h [] rfl (by simp only [hb6, go_sem, List.map_append, List.map_cons, List.map_nil, Option.some.injEq, Prod.mk.injEq, SC.d.injEq, D.l.injEq, List.map_set])
 ·try dsimp only at h
  rw [hk2] at h
  simp only [Option.some.injEq] at h
  subst h
  try simp only [go_sem, List.map_append, List.map_cons, List.map_nil, List.map_set]
def reredosref_plainTxn (p0 : Txn) : Option (Bool) := (withK (fun (b1_1 : Bool) => (some b1_1)) fun k2 => (Option.bind (reredosref_In p0.Site 0 3) fun v3 => (if v3 = true then (Option.bind (reredosref_In p0.N 1 1048576) fun v5 => (k2 v5)) else (k2 false))))
def F55 : VFn := ⟨11, (.seq (.reg [vo 1 (.boxk 2 (.t 0)), vo 2 (.mv (cb false))]) (.seq (.wk (.reg [vo 3 (.fa 0 (.t 1)), vo 4 (.ld false 1 (.t 3)), vo 5 (.call 34 [(.t 4), (ci 0), (ci 3)]), vm 6 5, ⟨(some 7), .fa 1 (.t 1), (some (6, true))⟩, ⟨(some 8), .ld false 1 (.t 7), (some (6, true))⟩, ⟨(some 9), .call 34 [(.t 8), (ci 1), (ci 1048576)], (some (6, true))⟩, vo 10 (.pick (.t 6) (.t 9) (cb false)), vm 2 10])) .ret)), [.t 2]⟩
theorem low55 : lowF Try.prog 55 = some F55.strip := by kernel_rfl
theorem fok55 : fOk Try.prog 55 = true := by kernel_rfl
theorem reredosref_plainTxn_ok (G : Nat → Option (List D)) (p0 : Txn) (r : Bool) (h : reredosref_plainTxn p0 = some r) : FnRO Try.prog G 55 [.agg [.d (.i .i64 p0.Site), .d (.i .i64 p0.N)]] (fun rs => rs = [.one (.b r)]) := by
 refine FnRO.of' low55 fok55 (by simp [F55]) ?_
 rw [reredosref_plainTxn] at h
 simp only [F55, go_sem]
 obtain ⟨k2, hk2, h⟩ := withK_lk1 h
 try simp only [go_sem]
 refine join_lk Try.prog G _ _ (B := Bool) (fun b => k2 b = some r) (fun b => [(2, .one (.d (.b b)))]) (fun b => []) ?_ (fun b1_1 h => ?_)
 ·obtain ⟨v3, hv3, h⟩ := obi h
  try simp only [go_sem]
  refine CallV.ro false (reredosref_In_ok G p0.Site 0 3 v3 hv3) rfl ?_
  rintro rs rfl
  refine ⟨.inl rfl, ?_⟩
  rcases of_if h with ⟨hb4, h⟩ | ⟨hb4, h⟩
  ·obtain ⟨v5, hv5, h⟩ := obi h
   try simp only [hb4, go_sem]
   refine CallV.ro false (reredosref_In_ok G p0.N 1 1048576 v5 hv5) rfl ?_
   rintro rs rfl
   refine ⟨.inl rfl, ?_⟩
   try simp only [hb4, go_sem]
   exact joinQ_c (v5) h [] rfl (by simp only [hb4, go_sem, List.map_append, List.map_cons, List.map_nil, Option.some.injEq, Prod.mk.injEq, SC.d.injEq, D.l.injEq, List.map_set])
  ·try simp only [hb4, go_sem]
   exact joinQ_c (false) h [] rfl (by simp only [hb4, go_sem, List.map_append, List.map_cons, List.map_nil, Option.some.injEq, Prod.mk.injEq, SC.d.injEq, D.l.injEq, List.map_set])
 ·try dsimp only at h
  rw [hk2] at h
  simp only [Option.some.injEq] at h
  subst h
  try simp only [go_sem, List.map_append, List.map_cons, List.map_nil, List.map_set]
def reredosref_isOver_L1 (p0 : Store) (p1 : Txn) (k2 : Option (Bool)) : Nat → Nat → Option (Bool)
 | 0, _ => none
 | n4 + 1, a3_1 => (if (decide (a3_1 < p0.Over.length)) = true then (Option.bind (p0.Over[a3_1]?) fun x7 => (if ((x7.Site == p1.Site) && (x7.N == p1.N)) = true then (some true) else (reredosref_isOver_L1 p0 p1 k2 n4 (a3_1 + 1)))) else k2)
def reredosref_isOver (p0 : Store) (p1 : Txn) : Option (Bool) := (withK (some false) fun k2 => (reredosref_isOver_L1 p0 p1 k2 (p0.Over.length + 1) 0))
def F48 : VFn := ⟨20, (.seq (.reg [vo 2 (.box 4 (.t 0)), vo 3 (.boxk 2 (.t 1)), vo 4 (.mv (cb false))]) (.seq (.seq (.reg [vo 5 (.mv (ci 0))]) (.wk (.block 0 (.loop (.seq (.seq (.reg [vm 6 5, vo 7 (.fa 3 (.t 2)), vo 8 (.ld false 1 (.t 7)), vo 9 (.len (.t 8)), vo 10 (.bin .i .lss (.t 6) (.t 9))]) (.cond (.t 10) .skip (.exit 0))) (.seq (.block 1 (.seq (.draw [vd (vo 13 (.fa 3 (.t 2))) [], vd (vo 14 (.ld false 1 (.t 13))) [0], vd (vm 15 5) [], vd (vo 16 (.ia 2 (.t 14) (.t 15))) [1, 0, 2], vd (vo 17 (.ld true 2 (.t 16))) [3, 1, 0, 2], vd (vo 18 (.ld true 2 (.t 3))) [], vd (vo 19 (.eqs false [.i, .i] (.t 17) (.t 18))) [4, 3, 1, 0, 2, 5]]) (.cond (.t 19) (.seq (.reg [vo 4 (.mv (cb true))]) .ret) .skip))) (.reg [vm 11 5, vo 12 (.bin .i .add (.t 11) (ci 1)), vm 5 12]))))))) (.seq (.reg [vo 4 (.mv (cb false))]) .ret))), [.t 4]⟩
theorem low48 : lowF Try.prog 48 = some F48.strip := by kernel_rfl
theorem fok48 : fOk Try.prog 48 = true := by kernel_rfl
theorem reredosref_isOver_ok (G : Nat → Option (List D)) (p0 : Store) (p1 : Txn) (r : Bool) (h : reredosref_isOver p0 p1 = some r) : FnRO Try.prog G 48 [.agg [.d (.l 3 (p0.Items.map Item.enc)), .d (.l 6 (p0.Locks.map Lock.enc)), .d (.l 3 (p0.Doubts.map Doubt.enc)), .d (.l 2 (p0.Over.map Txn.enc))], .agg [.d (.i .i64 p1.Site), .d (.i .i64 p1.N)]] (fun rs => rs = [.one (.b r)]) := by
 refine FnRO.of' low48 fok48 (by simp [F48]) ?_
 rw [reredosref_isOver] at h
 simp only [F48, go_sem]
 obtain ⟨k2, hk2, h⟩ := withK_lk0 h
 try simp only [go_sem]
 refine join_lk Try.prog G _ _ (B := Unit) (fun b => k2 = some r) (fun b => []) (fun b => []) ?_ (fun b h => ?_)
 ·try simp only [go_sem]
  refine loop_lk Try.prog G _ _ (A := Nat) (fun n a => reredosref_isOver_L1 p0 p1 k2 n a = some r) (fun a => [(2, .one (.p (.q 0 0 0))), (3, .one (.d (.k (Txn.enc p1)))), (5, .one (.d (.i .i64 ((a : Nat) : Int))))]) (fun a => [some (.box p0.bx)]) (p0.Over.length + 1) (0) h (wk_c _ _ _ [some 0] rfl (by simp only [go_sem, List.map_append, List.map_cons, List.map_nil, Option.some.injEq, Prod.mk.injEq, SC.d.injEq, D.l.injEq, List.map_set])) (fun a h => by simp only [reredosref_isOver_L1, reduceCtorEq] at h) ?_
  intro n4 a3_1 h
  try dsimp only at h
  rw [reredosref_isOver_L1] at h
  try simp only [go_sem]
  intro hl5
  rcases of_if h with ⟨hb6, h⟩ | ⟨hb6, h⟩
  ·have hkhb6 := of_decide_eq_true hb6
   obtain ⟨x7, hx7, h⟩ := obi h
   have hkx7 := gtx hx7
   try simp only [List.length_take, List.length_drop, List.length_append, List.length_set, List.length_map, List.length_cons, List.length_nil, Nat.zero_add] at hkx7
   rcases of_if h with ⟨hb8, h⟩ | ⟨hb8, h⟩
   ·try simp only [hb6, hkhb6, hx7, hkx7, hb8, go_sem]
    simp only [Option.some.injEq] at h
    subst h
    try simp only [hb6, hkhb6, hx7, hkx7, hb8, go_sem, List.map_append, List.map_cons, List.map_nil, List.map_set]
   ·try simp only [hb6, hkhb6, hx7, hkx7, hb8, go_sem]
    have hw9 := wrap_succ_max hkx7 hl5
    try simp only [hb6, hkhb6, hx7, hkx7, hb8, hw9, go_sem]
    exact loopQ_c (a3_1 + 1) h [some 0] rfl (by simp only [hb6, hkhb6, hx7, hkx7, hb8, hw9, go_sem, List.map_append, List.map_cons, List.map_nil, Option.some.injEq, Prod.mk.injEq, SC.d.injEq, D.l.injEq, List.map_set])
  ·try simp only [hb6, go_sem]
   exact joinQ_c () h [] rfl (by simp only [hb6, go_sem, List.map_append, List.map_cons, List.map_nil, Option.some.injEq, Prod.mk.injEq, SC.d.injEq, D.l.injEq, List.map_set])
 ·try dsimp only at h
  rw [hk2] at h
  simp only [Option.some.injEq] at h
  subst h
  try simp only [go_sem, List.map_append, List.map_cons, List.map_nil, List.map_set]
def reredosref_StoreMay_L1 (p0 : Store) (k4 : Option (Bool)) : Nat → Nat → Option (Bool)
 | 0, _ => none
 | n6 + 1, a5_1 => (if (decide (a5_1 < p0.Items.length)) = true then (Option.bind (p0.Items[a5_1]?) fun x9 => (Option.bind (reredosref_In x9.Key 0 7) fun v10 => (if (!v10) = true then (some false) else (Option.bind (reredosref_In x9.Value 0 1073741824) fun v12 => (if (!v12) = true then (some false) else (Option.bind (reredosref_In x9.Version 1 1048576) fun v14 => (if (!v14) = true then (some false) else (if (decide (((a5_1 : Nat) : Int) > 0)) = true then (if 0 ≤ IntKind.i64.wrap (((a5_1 : Nat) : Int) - 1) then (Option.bind (p0.Items[(IntKind.i64.wrap (((a5_1 : Nat) : Int) - 1)).toNat]?) fun x17 => (if (decide (x9.Key ≤ x17.Key)) = true then (some false) else (reredosref_StoreMay_L1 p0 k4 n6 (a5_1 + 1)))) else none) else (reredosref_StoreMay_L1 p0 k4 n6 (a5_1 + 1)))))))))) else k4)
def reredosref_StoreMay_L3 (p0 : Store) (a24_1 : Nat) (x28 : Lock) (k41 : Option (Bool)) : Nat → Nat → Option (Bool)
 | 0, _ => none
 | n43 + 1, a42_1 => (if (decide (a42_1 < a24_1)) = true then (Option.bind (p0.Locks[a42_1]?) fun x45 => (if (x28.Key == x45.Key) = true then (if ((x28.Txn.Site == x45.Txn.Site) && (x28.Txn.N == x45.Txn.N)) = true then (some false) else (if x45.Write = true then (some false) else (reredosref_StoreMay_L3 p0 a24_1 x28 k41 n43 (a42_1 + 1)))) else (reredosref_StoreMay_L3 p0 a24_1 x28 k41 n43 (a42_1 + 1)))) else k41)
def reredosref_StoreMay_L4 (p0 : Store) (a24_1 : Nat) (x28 : Lock) (k53 : Option (Bool)) : Nat → Nat → Option (Bool)
 | 0, _ => none
 | n55 + 1, a54_1 => (if (decide (a54_1 < a24_1)) = true then (Option.bind (p0.Locks[a54_1]?) fun x57 => (if (x28.Key == x57.Key) = true then (if ((x28.Txn.Site == x57.Txn.Site) && (x28.Txn.N == x57.Txn.N)) = true then (some false) else (some false)) else (reredosref_StoreMay_L4 p0 a24_1 x28 k53 n55 (a54_1 + 1)))) else k53)
def reredosref_StoreMay_L2 (p0 : Store) (k23 : Option (Bool)) : Nat → Nat → Option (Bool)
 | 0, _ => none
 | n25 + 1, a24_1 => (if (decide (a24_1 < p0.Locks.length)) = true then (Option.bind (p0.Locks[a24_1]?) fun x28 => (Option.bind (reredosref_doubtOf p0 x28.Txn) fun v29 => (if (decide (v29 < 0)) = true then (some false) else (Option.bind (reredosref_In x28.Key 0 7) fun v31 => (if (!v31) = true then (some false) else (Option.bind (reredosref_In x28.Value 0 1073741824) fun v33 => (if (!v33) = true then (some false) else (Option.bind (reredosref_In x28.Ask 0 1048576) fun v35 => (if (!v35) = true then (some false) else (if (!x28.Write) = true then (if (x28.Value != 0) = true then (some false) else (if (x28.Ask != 0) = true then (some false) else (withK (reredosref_StoreMay_L2 p0 k23 n25 (a24_1 + 1)) fun k41 => (reredosref_StoreMay_L3 p0 a24_1 x28 k41 (a24_1 + 1) 0)))) else (withK (reredosref_StoreMay_L2 p0 k23 n25 (a24_1 + 1)) fun k53 => (reredosref_StoreMay_L4 p0 a24_1 x28 k53 (a24_1 + 1) 0)))))))))))) else k23)
def reredosref_StoreMay_L6 (p0 : Store) (x68 : Doubt) (k70 : Bool → Option (Bool)) : Nat → Bool → Nat → Option (Bool)
 | 0, _, _ => none
 | n72 + 1, a71_1, a71_2 => (if (decide (a71_2 < p0.Locks.length)) = true then (if a71_1 = true then (reredosref_StoreMay_L6 p0 x68 k70 n72 true (a71_2 + 1)) else (Option.bind (p0.Locks[a71_2]?) fun x77 => (reredosref_StoreMay_L6 p0 x68 k70 n72 ((x77.Txn.Site == x68.Txn.Site) && (x77.Txn.N == x68.Txn.N)) (a71_2 + 1)))) else (k70 a71_1))
def reredosref_StoreMay_L5 (p0 : Store) (k63 : Option (Bool)) : Nat → Nat → Option (Bool)
 | 0, _ => none
 | n65 + 1, a64_1 => (if (decide (a64_1 < p0.Doubts.length)) = true then (Option.bind (p0.Doubts[a64_1]?) fun x68 => (withK (fun (b69_1 : Bool) => (Option.bind (reredosref_plainTxn x68.Txn) fun v79 => (if (!v79) = true then (some false) else (Option.bind (reredosref_In x68.Age 0 1048576) fun v81 => (if (!v81) = true then (some false) else (if (!b69_1) = true then (some false) else (Option.bind (reredosref_doubtOf p0 x68.Txn) fun v84 => (if (v84 != ((a64_1 : Nat) : Int)) = true then (some false) else (Option.bind (reredosref_isOver p0 x68.Txn) fun v86 => (if v86 = true then (some false) else (reredosref_StoreMay_L5 p0 k63 n65 (a64_1 + 1)))))))))))) fun k70 => (reredosref_StoreMay_L6 p0 x68 k70 (p0.Locks.length + 1) false 0))) else k63)
def reredosref_StoreMay_L8 (p0 : Store) (a91_1 : Nat) (k96 : Option (Bool)) : Nat → Nat → Option (Bool)
 | 0, _ => none
 | n98 + 1, a97_1 => (if (decide (a97_1 < a91_1)) = true then (Option.bind (p0.Over[a97_1]?) fun x100 => (Option.bind (p0.Over[a91_1]?) fun x101 => (if ((x100.Site == x101.Site) && (x100.N == x101.N)) = true then (some false) else (reredosref_StoreMay_L8 p0 a91_1 k96 n98 (a97_1 + 1))))) else k96)
def reredosref_StoreMay_L7 (p0 : Store) (k90 : Option (Bool)) : Nat → Nat → Option (Bool)
 | 0, _ => none
 | n92 + 1, a91_1 => (if (decide (a91_1 < p0.Over.length)) = true then (withK (Option.bind (p0.Over[a91_1]?) fun x104 => (Option.bind (reredosref_plainTxn x104) fun v105 => (if (!v105) = true then (some false) else (reredosref_StoreMay_L7 p0 k90 n92 (a91_1 + 1))))) fun k96 => (reredosref_StoreMay_L8 p0 a91_1 k96 (a91_1 + 1) 0)) else k90)
def reredosref_StoreMay (p0 : Store) : Option (Bool) := (if (decide (((p0.Locks.length : Nat) : Int) > 24)) = true then (some false) else (withK (withK (withK (withK (some true) fun k90 => (reredosref_StoreMay_L7 p0 k90 (p0.Over.length + 1) 0)) fun k63 => (reredosref_StoreMay_L5 p0 k63 (p0.Doubts.length + 1) 0)) fun k23 => (reredosref_StoreMay_L2 p0 k23 (p0.Locks.length + 1) 0)) fun k4 => (reredosref_StoreMay_L1 p0 k4 (p0.Items.length + 1) 0)))
def F35 : VFn := ⟨232, (.seq (.reg [vo 1 (.box 4 (.t 0)), vo 2 (.mv (cb false))]) (.seq (.seq (.reg [vo 15 (.fa 1 (.t 1)), vo 16 (.ld false 1 (.t 15)), vo 17 (.len (.t 16)), vo 18 (.bin .i .gtr (.t 17) (ci 24))]) (.cond (.t 18) (.seq (.reg [vo 2 (.mv (cb false))]) .ret) .skip)) (.seq (.seq (.reg [vo 3 (.mv (ci 0))]) (.wk (.block 0 (.loop (.seq (.seq (.reg [vm 19 3, vo 20 (.fa 0 (.t 1)), vo 21 (.ld false 1 (.t 20)), vo 22 (.len (.t 21)), vo 23 (.bin .i .lss (.t 19) (.t 22))]) (.cond (.t 23) .skip (.exit 0))) (.seq (.block 1 (.seq (.reg [vo 26 (.fa 0 (.t 1)), vo 27 (.ld false 1 (.t 26)), vm 28 3, vo 29 (.ia 3 (.t 27) (.t 28)), vo 30 (.ld true 3 (.t 29)), vo 4 (.alloc [(zi 0), (zi 0), (zi 0)]), vu (.st 3 (.t 4) (.t 30))]) (.seq (.draw [vd (vo 31 (.fa 0 (.t 4))) [], vd (vo 32 (.ld false 1 (.t 31))) [0], vd (vo 33 (.call 34 [(.t 32), (ci 0), (ci 7)])) [1, 0], vd (vo 34 (.un .not (.t 33))) [2, 1, 0], vd (vm 35 34) [3, 2, 1, 0], vd (⟨(some 36), .fa 1 (.t 4), (some (35, false))⟩) [4, 3, 2, 1, 0], vd (⟨(some 37), .ld false 1 (.t 36), (some (35, false))⟩) [5, 4, 3, 2, 1, 0], vd (⟨(some 38), .call 34 [(.t 37), (ci 0), (ci 1073741824)], (some (35, false))⟩) [6, 5, 4, 3, 2, 1, 0], vd (⟨(some 39), .un .not (.t 38), (some (35, false))⟩) [7, 6, 5, 4, 3, 2, 1, 0], vd (vo 40 (.pick (.t 35) (cb true) (.t 39))) [4, 3, 2, 1, 0, 8, 7, 6, 5], vd (vm 41 40) [9, 4, 3, 2, 1, 0, 8, 7, 6, 5], vd (⟨(some 42), .fa 2 (.t 4), (some (41, false))⟩) [10, 9, 4, 3, 2, 1, 0, 8, 7, 6, 5], vd (⟨(some 43), .ld false 1 (.t 42), (some (41, false))⟩) [11, 10, 9, 4, 3, 2, 1, 0, 8, 7, 6, 5], vd (⟨(some 44), .call 34 [(.t 43), (ci 1), (ci 1048576)], (some (41, false))⟩) [12, 11, 10, 9, 4, 3, 2, 1, 0, 8, 7, 6, 5], vd (⟨(some 45), .un .not (.t 44), (some (41, false))⟩) [13, 12, 11, 10, 9, 4, 3, 2, 1, 0, 8, 7, 6, 5], vd (vo 46 (.pick (.t 41) (cb true) (.t 45))) [10, 9, 4, 3, 2, 1, 0, 8, 7, 6, 5, 14, 13, 12, 11], vd (vm 47 46) [15, 10, 9, 4, 3, 2, 1, 0, 8, 7, 6, 5, 14, 13, 12, 11], vd (⟨(some 48), .mv (.t 3), (some (47, false))⟩) [16, 15, 10, 9, 4, 3, 2, 1, 0, 8, 7, 6, 5, 14, 13, 12, 11], vd (⟨(some 49), .bin .i .gtr (.t 48) (ci 0), (some (47, false))⟩) [17, 16, 15, 10, 9, 4, 3, 2, 1, 0, 8, 7, 6, 5, 14, 13, 12, 11], vd (⟨(some 50), .mv (.t 49), (some (47, false))⟩) [18, 17, 16, 15, 10, 9, 4, 3, 2, 1, 0, 8, 7, 6, 5, 14, 13, 12, 11], vd (⟨(some 51), .fa 0 (.t 4), (some (50, true))⟩) [19, 18, 17, 16, 15, 10, 9, 4, 3, 2, 1, 0, 8, 7, 6, 5, 14, 13, 12, 11], vd (⟨(some 52), .ld false 1 (.t 51), (some (50, true))⟩) [20, 19, 18, 17, 16, 15, 10, 9, 4, 3, 2, 1, 0, 8, 7, 6, 5, 14, 13, 12, 11], vd (⟨(some 53), .fa 0 (.t 1), (some (50, true))⟩) [19, 18, 17, 16, 15, 10, 9, 4, 3, 2, 1, 0, 8, 7, 6, 5, 14, 13, 12, 11], vd (⟨(some 54), .ld false 1 (.t 53), (some (50, true))⟩) [22, 19, 18, 17, 16, 15, 10, 9, 4, 3, 2, 1, 0, 8, 7, 6, 5, 14, 13, 12, 11], vd (⟨(some 55), .mv (.t 3), (some (50, true))⟩) [19, 18, 17, 16, 15, 10, 9, 4, 3, 2, 1, 0, 8, 7, 6, 5, 14, 13, 12, 11], vd (⟨(some 56), .bin .i .sub (.t 55) (ci 1), (some (50, true))⟩) [24, 19, 18, 17, 16, 15, 10, 9, 4, 3, 2, 1, 0, 8, 7, 6, 5, 14, 13, 12, 11], vd (⟨(some 57), .ia 3 (.t 54) (.t 56), (some (50, true))⟩) [23, 22, 19, 18, 17, 16, 15, 10, 9, 4, 3, 2, 1, 0, 8, 7, 6, 5, 14, 13, 12, 11, 25, 24], vd (⟨(some 58), .fa 0 (.t 57), (some (50, true))⟩) [26, 23, 22, 19, 18, 17, 16, 15, 10, 9, 4, 3, 2, 1, 0, 8, 7, 6, 5, 14, 13, 12, 11, 25, 24], vd (⟨(some 59), .ld false 1 (.t 58), (some (50, true))⟩) [27, 26, 23, 22, 19, 18, 17, 16, 15, 10, 9, 4, 3, 2, 1, 0, 8, 7, 6, 5, 14, 13, 12, 11, 25, 24], vd (⟨(some 60), .bin .i .leq (.t 52) (.t 59), (some (50, true))⟩) [21, 20, 19, 18, 17, 16, 15, 10, 9, 4, 3, 2, 1, 0, 8, 7, 6, 5, 14, 13, 12, 11, 28, 27, 26, 23, 22, 25, 24], vd (⟨(some 61), .pick (.t 50) (.t 60) (cb false), (some (47, false))⟩) [19, 18, 17, 16, 15, 10, 9, 4, 3, 2, 1, 0, 8, 7, 6, 5, 14, 13, 12, 11, 29, 21, 20, 28, 27, 26, 23, 22, 25, 24], vd (vo 62 (.pick (.t 47) (cb true) (.t 61))) [16, 15, 10, 9, 4, 3, 2, 1, 0, 8, 7, 6, 5, 14, 13, 12, 11, 30, 19, 18, 17, 29, 21, 20, 28, 27, 26, 23, 22, 25, 24]]) (.cond (.t 62) (.seq (.reg [vo 2 (.mv (cb false))]) .ret) .skip)))) (.reg [vm 24 3, vo 25 (.bin .i .add (.t 24) (ci 1)), vm 3 25]))))))) (.seq (.seq (.reg [vo 5 (.mv (ci 0))]) (.wk (.block 2 (.loop (.seq (.seq (.reg [vm 63 5, vo 64 (.fa 1 (.t 1)), vo 65 (.ld false 1 (.t 64)), vo 66 (.len (.t 65)), vo 67 (.bin .i .lss (.t 63) (.t 66))]) (.cond (.t 67) .skip (.exit 2))) (.seq (.block 3 (.seq (.reg [vo 70 (.fa 1 (.t 1)), vo 71 (.ld false 1 (.t 70)), vm 72 5, vo 73 (.ia 6 (.t 71) (.t 72)), vo 74 (.ld true 6 (.t 73)), vo 6 (.alloc [(zi 0), (zi 0), (zi 0), (.d (.b false)), (zi 0), (zi 0)]), vu (.st 6 (.t 6) (.t 74))]) (.seq (.seq (.reg [vo 75 (.ld true 4 (.t 1)), vo 76 (.fa 0 (.t 6)), vo 77 (.ld true 2 (.t 76)), vo 78 (.call 54 [(.t 75), (.t 77)]), vo 79 (.bin .i .lss (.t 78) (ci 0)), vm 80 79, ⟨(some 81), .fa 2 (.t 6), (some (80, false))⟩, ⟨(some 82), .ld false 1 (.t 81), (some (80, false))⟩, ⟨(some 83), .call 34 [(.t 82), (ci 0), (ci 7)], (some (80, false))⟩, ⟨(some 84), .un .not (.t 83), (some (80, false))⟩, vo 85 (.pick (.t 80) (cb true) (.t 84)), vm 86 85, ⟨(some 87), .fa 4 (.t 6), (some (86, false))⟩, ⟨(some 88), .ld false 1 (.t 87), (some (86, false))⟩, ⟨(some 89), .call 34 [(.t 88), (ci 0), (ci 1073741824)], (some (86, false))⟩, ⟨(some 90), .un .not (.t 89), (some (86, false))⟩, vo 91 (.pick (.t 86) (cb true) (.t 90)), vm 92 91, ⟨(some 93), .fa 5 (.t 6), (some (92, false))⟩, ⟨(some 94), .ld false 1 (.t 93), (some (92, false))⟩, ⟨(some 95), .call 34 [(.t 94), (ci 0), (ci 1048576)], (some (92, false))⟩, ⟨(some 96), .un .not (.t 95), (some (92, false))⟩, vo 97 (.pick (.t 92) (cb true) (.t 96)), vm 98 97, ⟨(some 99), .fa 3 (.t 6), (some (98, false))⟩, ⟨(some 100), .ld false 1 (.t 99), (some (98, false))⟩, ⟨(some 101), .un .not (.t 100), (some (98, false))⟩, ⟨(some 102), .mv (.t 101), (some (98, false))⟩, ⟨(some 103), .fa 4 (.t 6), (some (102, true))⟩, ⟨(some 104), .ld false 1 (.t 103), (some (102, true))⟩, ⟨(some 105), .bin .i .neq (.t 104) (ci 0), (some (102, true))⟩, ⟨(some 106), .mv (.t 105), (some (102, true))⟩, ⟨(some 107), .fa 5 (.t 6), (some (106, false))⟩, ⟨(some 108), .ld false 1 (.t 107), (some (106, false))⟩, ⟨(some 109), .bin .i .neq (.t 108) (ci 0), (some (106, false))⟩, ⟨(some 110), .pick (.t 106) (cb true) (.t 109), (some (102, true))⟩, ⟨(some 111), .pick (.t 102) (.t 110) (cb false), (some (98, false))⟩, vo 112 (.pick (.t 98) (cb true) (.t 111))]) (.cond (.t 112) (.seq (.reg [vo 2 (.mv (cb false))]) .ret) .skip)) (.seq (.reg [vo 7 (.mv (ci 0))]) (.wk (.block 4 (.loop (.seq (.seq (.reg [vm 113 7, vm 114 5, vo 115 (.bin .i .lss (.t 113) (.t 114))]) (.cond (.t 115) .skip (.exit 4))) (.seq (.block 5 (.seq (.reg [vo 118 (.fa 1 (.t 1)), vo 119 (.ld false 1 (.t 118)), vm 120 7, vo 121 (.ia 6 (.t 119) (.t 120)), vo 122 (.ld true 6 (.t 121)), vo 8 (.alloc [(zi 0), (zi 0), (zi 0), (.d (.b false)), (zi 0), (zi 0)]), vu (.st 6 (.t 8) (.t 122))]) (.seq (.reg [vo 123 (.fa 2 (.t 6)), vo 124 (.ld false 1 (.t 123)), vo 125 (.fa 2 (.t 8)), vo 126 (.ld false 1 (.t 125)), vo 127 (.bin .i .eql (.t 124) (.t 126)), vm 128 127, ⟨(some 129), .fa 0 (.t 6), (some (128, true))⟩, ⟨(some 130), .ld true 2 (.t 129), (some (128, true))⟩, ⟨(some 131), .fa 0 (.t 8), (some (128, true))⟩, ⟨(some 132), .ld true 2 (.t 131), (some (128, true))⟩, ⟨(some 133), .eqs false [.i, .i] (.t 130) (.t 132), (some (128, true))⟩, ⟨(some 134), .mv (.t 133), (some (128, true))⟩, ⟨(some 135), .fa 3 (.t 6), (some (134, false))⟩, ⟨(some 136), .ld false 1 (.t 135), (some (134, false))⟩, ⟨(some 137), .pick (.t 134) (cb true) (.t 136), (some (128, true))⟩, ⟨(some 138), .mv (.t 137), (some (128, true))⟩, ⟨(some 139), .fa 3 (.t 8), (some (138, false))⟩, ⟨(some 140), .ld false 1 (.t 139), (some (138, false))⟩, ⟨(some 141), .pick (.t 138) (cb true) (.t 140), (some (128, true))⟩, vo 142 (.pick (.t 128) (.t 141) (cb false))]) (.cond (.t 142) (.seq (.reg [vo 2 (.mv (cb false))]) .ret) .skip)))) (.reg [vm 116 7, vo 117 (.bin .i .add (.t 116) (ci 1)), vm 7 117])))))))))) (.reg [vm 68 5, vo 69 (.bin .i .add (.t 68) (ci 1)), vm 5 69]))))))) (.seq (.seq (.reg [vo 9 (.mv (ci 0))]) (.wk (.block 6 (.loop (.seq (.seq (.reg [vm 143 9, vo 144 (.fa 2 (.t 1)), vo 145 (.ld false 1 (.t 144)), vo 146 (.len (.t 145)), vo 147 (.bin .i .lss (.t 143) (.t 146))]) (.cond (.t 147) .skip (.exit 6))) (.seq (.block 7 (.seq (.reg [vo 150 (.fa 2 (.t 1)), vo 151 (.ld false 1 (.t 150)), vm 152 9, vo 153 (.ia 3 (.t 151) (.t 152)), vo 154 (.ld true 3 (.t 153)), vo 10 (.alloc [(zi 0), (zi 0), (zi 0)]), vu (.st 3 (.t 10) (.t 154))]) (.seq (.reg [vo 11 (.mv (cb false))]) (.seq (.seq (.reg [vo 12 (.mv (ci 0))]) (.wk (.block 8 (.loop (.seq (.seq (.reg [vm 155 12, vo 156 (.fa 1 (.t 1)), vo 157 (.ld false 1 (.t 156)), vo 158 (.len (.t 157)), vo 159 (.bin .i .lss (.t 155) (.t 158))]) (.cond (.t 159) .skip (.exit 8))) (.seq (.block 9 (.draw [vd (vm 162 11) [], vd (vm 163 162) [0], vd (⟨(some 164), .fa 1 (.t 1), (some (163, false))⟩) [1, 0], vd (⟨(some 165), .ld false 1 (.t 164), (some (163, false))⟩) [2, 1, 0], vd (⟨(some 166), .mv (.t 12), (some (163, false))⟩) [1, 0], vd (⟨(some 167), .ia 6 (.t 165) (.t 166), (some (163, false))⟩) [3, 2, 1, 0, 4], vd (⟨(some 168), .fa 0 (.t 167), (some (163, false))⟩) [5, 3, 2, 1, 0, 4], vd (⟨(some 169), .ld true 2 (.t 168), (some (163, false))⟩) [6, 5, 3, 2, 1, 0, 4], vd (⟨(some 170), .fa 0 (.t 10), (some (163, false))⟩) [1, 0], vd (⟨(some 171), .ld true 2 (.t 170), (some (163, false))⟩) [8, 1, 0], vd (⟨(some 172), .eqs false [.i, .i] (.t 169) (.t 171), (some (163, false))⟩) [7, 6, 5, 3, 2, 1, 0, 4, 9, 8], vd (vo 173 (.pick (.t 163) (cb true) (.t 172))) [1, 0, 10, 7, 6, 5, 3, 2, 4, 9, 8], vd (vm 11 173) [11, 1, 0, 10, 7, 6, 5, 3, 2, 4, 9, 8]])) (.reg [vm 160 12, vo 161 (.bin .i .add (.t 160) (ci 1)), vm 12 161]))))))) (.seq (.reg [vo 174 (.fa 0 (.t 10)), vo 175 (.ld true 2 (.t 174)), vo 176 (.call 55 [(.t 175)]), vo 177 (.un .not (.t 176)), vm 178 177, ⟨(some 179), .fa 2 (.t 10), (some (178, false))⟩, ⟨(some 180), .ld false 1 (.t 179), (some (178, false))⟩, ⟨(some 181), .call 34 [(.t 180), (ci 0), (ci 1048576)], (some (178, false))⟩, ⟨(some 182), .un .not (.t 181), (some (178, false))⟩, vo 183 (.pick (.t 178) (cb true) (.t 182)), vm 184 183, ⟨(some 185), .mv (.t 11), (some (184, false))⟩, ⟨(some 186), .un .not (.t 185), (some (184, false))⟩, vo 187 (.pick (.t 184) (cb true) (.t 186)), vm 188 187, ⟨(some 189), .ld true 4 (.t 1), (some (188, false))⟩, ⟨(some 190), .fa 0 (.t 10), (some (188, false))⟩, ⟨(some 191), .ld true 2 (.t 190), (some (188, false))⟩, ⟨(some 192), .call 54 [(.t 189), (.t 191)], (some (188, false))⟩, ⟨(some 193), .mv (.t 9), (some (188, false))⟩, ⟨(some 194), .bin .i .neq (.t 192) (.t 193), (some (188, false))⟩, vo 195 (.pick (.t 188) (cb true) (.t 194)), vm 196 195, ⟨(some 197), .ld true 4 (.t 1), (some (196, false))⟩, ⟨(some 198), .fa 0 (.t 10), (some (196, false))⟩, ⟨(some 199), .ld true 2 (.t 198), (some (196, false))⟩, ⟨(some 200), .call 48 [(.t 197), (.t 199)], (some (196, false))⟩, vo 201 (.pick (.t 196) (cb true) (.t 200))]) (.cond (.t 201) (.seq (.reg [vo 2 (.mv (cb false))]) .ret) .skip)))))) (.reg [vm 148 9, vo 149 (.bin .i .add (.t 148) (ci 1)), vm 9 149]))))))) (.seq (.seq (.reg [vo 13 (.mv (ci 0))]) (.wk (.block 10 (.loop (.seq (.seq (.reg [vm 202 13, vo 203 (.fa 3 (.t 1)), vo 204 (.ld false 1 (.t 203)), vo 205 (.len (.t 204)), vo 206 (.bin .i .lss (.t 202) (.t 205))]) (.cond (.t 206) .skip (.exit 10))) (.seq (.block 11 (.seq (.seq (.reg [vo 14 (.mv (ci 0))]) (.wk (.block 12 (.loop (.seq (.seq (.reg [vm 209 14, vm 210 13, vo 211 (.bin .i .lss (.t 209) (.t 210))]) (.cond (.t 211) .skip (.exit 12))) (.seq (.block 13 (.seq (.draw [vd (vo 214 (.fa 3 (.t 1))) [], vd (vo 215 (.ld false 1 (.t 214))) [0], vd (vm 216 14) [], vd (vo 217 (.ia 2 (.t 215) (.t 216))) [1, 0, 2], vd (vo 218 (.ld true 2 (.t 217))) [3, 1, 0, 2], vd (vo 219 (.fa 3 (.t 1))) [], vd (vo 220 (.ld false 1 (.t 219))) [5], vd (vm 221 13) [], vd (vo 222 (.ia 2 (.t 220) (.t 221))) [6, 5, 7], vd (vo 223 (.ld true 2 (.t 222))) [8, 6, 5, 7], vd (vo 224 (.eqs false [.i, .i] (.t 218) (.t 223))) [4, 3, 1, 0, 2, 9, 8, 6, 5, 7]]) (.cond (.t 224) (.seq (.reg [vo 2 (.mv (cb false))]) .ret) .skip))) (.reg [vm 212 14, vo 213 (.bin .i .add (.t 212) (ci 1)), vm 14 213]))))))) (.seq (.reg [vo 225 (.fa 3 (.t 1)), vo 226 (.ld false 1 (.t 225)), vm 227 13, vo 228 (.ia 2 (.t 226) (.t 227)), vo 229 (.ld true 2 (.t 228)), vo 230 (.call 55 [(.t 229)]), vo 231 (.un .not (.t 230))]) (.cond (.t 231) (.seq (.reg [vo 2 (.mv (cb false))]) .ret) .skip)))) (.reg [vm 207 13, vo 208 (.bin .i .add (.t 207) (ci 1)), vm 13 208]))))))) (.seq (.reg [vo 2 (.mv (cb true))]) .ret))))))), [.t 2]⟩
theorem low35 : lowF Try.prog 35 = some F35.strip := by kernel_rfl
theorem fok35 : fOk Try.prog 35 = true := by kernel_rfl
theorem reredosref_StoreMay_ok (G : Nat → Option (List D)) (p0 : Store) (r : Bool) (h : reredosref_StoreMay p0 = some r) : FnRO Try.prog G 35 [.agg [.d (.l 3 (p0.Items.map Item.enc)), .d (.l 6 (p0.Locks.map Lock.enc)), .d (.l 3 (p0.Doubts.map Doubt.enc)), .d (.l 2 (p0.Over.map Txn.enc))]] (fun rs => rs = [.one (.b r)]) := by
 refine FnRO.of' low35 fok35 (by simp [F35]) ?_
 rw [reredosref_StoreMay] at h
 simp only [F35, go_sem]
 try simp only [go_sem]
 intro hl1
 rcases of_if h with ⟨hb2, h⟩ | ⟨hb2, h⟩
 ·simp only [Option.some.injEq] at h
  subst h
  try simp only [hb2, go_sem, List.map_append, List.map_cons, List.map_nil, List.map_set]
 ·obtain ⟨k4, hk4, h⟩ := withK_lk0 h
  try simp only [hb2, go_sem]
  refine join_lk Try.prog G _ _ (B := Unit) (fun b => k4 = some r) (fun b => [(1, .one (.p (.q 0 0 0)))]) (fun b => [some (.box p0.bx)]) ?_ (fun b h => ?_)
  ·try simp only [hb2, go_sem]
   refine loop_lk Try.prog G _ _ (A := Nat) (fun n a => reredosref_StoreMay_L1 p0 k4 n a = some r) (fun a => [(1, .one (.p (.q 0 0 0))), (3, .one (.d (.i .i64 ((a : Nat) : Int))))]) (fun a => [some (.box p0.bx)]) (p0.Items.length + 1) (0) h (wk_c _ _ _ [some 0] rfl (by simp only [hb2, go_sem, List.map_append, List.map_cons, List.map_nil, Option.some.injEq, Prod.mk.injEq, SC.d.injEq, D.l.injEq, List.map_set])) (fun a h => by simp only [reredosref_StoreMay_L1, reduceCtorEq] at h) ?_
   intro n6 a5_1 h
   try dsimp only at h
   rw [reredosref_StoreMay_L1] at h
   try simp only [go_sem]
   intro hl7
   rcases of_if h with ⟨hb8, h⟩ | ⟨hb8, h⟩
   ·have hkhb8 := of_decide_eq_true hb8
    obtain ⟨x9, hx9, h⟩ := obi h
    have hkx9 := gtx hx9
    try simp only [List.length_take, List.length_drop, List.length_append, List.length_set, List.length_map, List.length_cons, List.length_nil, Nat.zero_add] at hkx9
    obtain ⟨v10, hv10, h⟩ := obi h
    try simp only [hb8, hkhb8, hx9, hkx9, go_sem]
    refine ⟨_, _, CallD.ro false (reredosref_In_ok G x9.Key 0 7 v10 hv10) rfl (.inl rfl) rfl, ?_⟩
    rcases of_if h with ⟨hb11, h⟩ | ⟨hb11, h⟩
    ·have hkhb11 := not_eq_t hb11
     simp only [Option.some.injEq] at h
     subst h
     try simp only [hb8, hkhb8, hx9, hkx9, hb11, hkhb11, go_sem, List.map_append, List.map_cons, List.map_nil, List.map_set]
    ·have hkhb11 := not_eq_f hb11
     obtain ⟨v12, hv12, h⟩ := obi h
     try simp only [hb8, hkhb8, hx9, hkx9, hb11, hkhb11, go_sem]
     refine ⟨_, _, CallD.ro false (reredosref_In_ok G x9.Value 0 1073741824 v12 hv12) rfl (.inl rfl) rfl, ?_⟩
     rcases of_if h with ⟨hb13, h⟩ | ⟨hb13, h⟩
     ·have hkhb13 := not_eq_t hb13
      simp only [Option.some.injEq] at h
      subst h
      try simp only [hb8, hkhb8, hx9, hkx9, hb11, hkhb11, hb13, hkhb13, go_sem, List.map_append, List.map_cons, List.map_nil, List.map_set]
     ·have hkhb13 := not_eq_f hb13
      obtain ⟨v14, hv14, h⟩ := obi h
      try simp only [hb8, hkhb8, hx9, hkx9, hb11, hkhb11, hb13, hkhb13, go_sem]
      refine ⟨_, _, CallD.ro false (reredosref_In_ok G x9.Version 1 1048576 v14 hv14) rfl (.inl rfl) rfl, ?_⟩
      rcases of_if h with ⟨hb15, h⟩ | ⟨hb15, h⟩
      ·have hkhb15 := not_eq_t hb15
       simp only [Option.some.injEq] at h
       subst h
       try simp only [hb8, hkhb8, hx9, hkx9, hb11, hkhb11, hb13, hkhb13, hb15, hkhb15, go_sem, List.map_append, List.map_cons, List.map_nil, List.map_set]
      ·have hkhb15 := not_eq_f hb15
       rcases of_if h with ⟨hb16, h⟩ | ⟨hb16, h⟩
       ·obtain ⟨hn18, h⟩ := of_chk h
        obtain ⟨x17, hx17, h⟩ := obi h
        have hkx17 := gtx hx17
        try simp only [List.length_take, List.length_drop, List.length_append, List.length_set, List.length_map, List.length_cons, List.length_nil, Nat.zero_add] at hkx17
        have hk2x17 : IntKind.i64.wrap (((a5_1 : Nat) : Int) - 1) < ((p0.Items.length : Nat) : Int) := by omega
        rcases of_if h with ⟨hb19, h⟩ | ⟨hb19, h⟩
        ·simp only [Option.some.injEq] at h
         subst h
         try simp only [hb8, hkhb8, hx9, hkx9, hb11, hkhb11, hb13, hkhb13, hb15, hkhb15, hb16, hx17, hkx17, hn18, hk2x17, hb19, go_sem, List.map_append, List.map_cons, List.map_nil, List.map_set]
        ·have hw20 := wrap_succ_max hkx9 hl7
         try simp only [hb8, hkhb8, hx9, hkx9, hb11, hkhb11, hb13, hkhb13, hb15, hkhb15, hb16, hx17, hkx17, hn18, hk2x17, hb19, hw20, go_sem]
         exact loopQ_c (a5_1 + 1) h [some 0] rfl (by simp only [hb8, hkhb8, hx9, hkx9, hb11, hkhb11, hb13, hkhb13, hb15, hkhb15, hb16, hx17, hkx17, hn18, hk2x17, hb19, hw20, go_sem, List.map_append, List.map_cons, List.map_nil, Option.some.injEq, Prod.mk.injEq, SC.d.injEq, D.l.injEq, List.map_set])
       ·have hw21 := wrap_succ_max hkx9 hl7
        try simp only [hb8, hkhb8, hx9, hkx9, hb11, hkhb11, hb13, hkhb13, hb15, hkhb15, hb16, hw21, go_sem]
        exact loopQ_c (a5_1 + 1) h [some 0] rfl (by simp only [hb8, hkhb8, hx9, hkx9, hb11, hkhb11, hb13, hkhb13, hb15, hkhb15, hb16, hw21, go_sem, List.map_append, List.map_cons, List.map_nil, Option.some.injEq, Prod.mk.injEq, SC.d.injEq, D.l.injEq, List.map_set])
   ·try simp only [hb8, go_sem]
    exact joinQ_c () h [some 0] rfl (by simp only [hb8, go_sem, List.map_append, List.map_cons, List.map_nil, Option.some.injEq, Prod.mk.injEq, SC.d.injEq, D.l.injEq, List.map_set])
  ·try dsimp only at h
   rw [hk4] at h
   obtain ⟨k23, hk23, h⟩ := withK_lk0 h
   try simp only [go_sem]
   refine join_lk Try.prog G _ _ (B := Unit) (fun b => k23 = some r) (fun b => [(1, .one (.p (.q 0 0 0)))]) (fun b => [some (.box p0.bx)]) ?_ (fun b h => ?_)
   ·try simp only [go_sem]
    refine loop_lk Try.prog G _ _ (A := Nat) (fun n a => reredosref_StoreMay_L2 p0 k23 n a = some r) (fun a => [(1, .one (.p (.q 0 0 0))), (5, .one (.d (.i .i64 ((a : Nat) : Int))))]) (fun a => [some (.box p0.bx)]) (p0.Locks.length + 1) (0) h (wk_c _ _ _ [some 0] rfl (by simp only [go_sem, List.map_append, List.map_cons, List.map_nil, Option.some.injEq, Prod.mk.injEq, SC.d.injEq, D.l.injEq, List.map_set])) (fun a h => by simp only [reredosref_StoreMay_L2, reduceCtorEq] at h) ?_
    intro n25 a24_1 h
    try dsimp only at h
    rw [reredosref_StoreMay_L2] at h
    try simp only [go_sem]
    intro hl26
    rcases of_if h with ⟨hb27, h⟩ | ⟨hb27, h⟩
    ·have hkhb27 := of_decide_eq_true hb27
     obtain ⟨x28, hx28, h⟩ := obi h
     have hkx28 := gtx hx28
     try simp only [List.length_take, List.length_drop, List.length_append, List.length_set, List.length_map, List.length_cons, List.length_nil, Nat.zero_add] at hkx28
     obtain ⟨v29, hv29, h⟩ := obi h
     try simp only [hb27, hkhb27, hx28, hkx28, go_sem]
     refine CallV.ro false (reredosref_doubtOf_ok G p0 x28.Txn v29 hv29) rfl ?_
     rintro rs rfl
     refine ⟨.inl rfl, ?_⟩
     rcases of_if h with ⟨hb30, h⟩ | ⟨hb30, h⟩
     ·have hkhb30 := of_decide_eq_true hb30
      simp only [Option.some.injEq] at h
      subst h
      try simp only [hb27, hkhb27, hx28, hkx28, hb30, hkhb30, go_sem, List.map_append, List.map_cons, List.map_nil, List.map_set]
     ·obtain ⟨v31, hv31, h⟩ := obi h
      try simp only [hb27, hkhb27, hx28, hkx28, hb30, go_sem]
      refine CallV.ro false (reredosref_In_ok G x28.Key 0 7 v31 hv31) rfl ?_
      rintro rs rfl
      refine ⟨.inl rfl, ?_⟩
      rcases of_if h with ⟨hb32, h⟩ | ⟨hb32, h⟩
      ·have hkhb32 := not_eq_t hb32
       simp only [Option.some.injEq] at h
       subst h
       try simp only [hb27, hkhb27, hx28, hkx28, hb30, hb32, hkhb32, go_sem, List.map_append, List.map_cons, List.map_nil, List.map_set]
      ·have hkhb32 := not_eq_f hb32
       obtain ⟨v33, hv33, h⟩ := obi h
       try simp only [hb27, hkhb27, hx28, hkx28, hb30, hb32, hkhb32, go_sem]
       refine CallV.ro false (reredosref_In_ok G x28.Value 0 1073741824 v33 hv33) rfl ?_
       rintro rs rfl
       refine ⟨.inl rfl, ?_⟩
       rcases of_if h with ⟨hb34, h⟩ | ⟨hb34, h⟩
       ·have hkhb34 := not_eq_t hb34
        simp only [Option.some.injEq] at h
        subst h
        try simp only [hb27, hkhb27, hx28, hkx28, hb30, hb32, hkhb32, hb34, hkhb34, go_sem, List.map_append, List.map_cons, List.map_nil, List.map_set]
       ·have hkhb34 := not_eq_f hb34
        obtain ⟨v35, hv35, h⟩ := obi h
        try simp only [hb27, hkhb27, hx28, hkx28, hb30, hb32, hkhb32, hb34, hkhb34, go_sem]
        refine CallV.ro false (reredosref_In_ok G x28.Ask 0 1048576 v35 hv35) rfl ?_
        rintro rs rfl
        refine ⟨.inl rfl, ?_⟩
        rcases of_if h with ⟨hb36, h⟩ | ⟨hb36, h⟩
        ·have hkhb36 := not_eq_t hb36
         simp only [Option.some.injEq] at h
         subst h
         try simp only [hb27, hkhb27, hx28, hkx28, hb30, hb32, hkhb32, hb34, hkhb34, hb36, hkhb36, go_sem, List.map_append, List.map_cons, List.map_nil, List.map_set]
        ·have hkhb36 := not_eq_f hb36
         rcases of_if h with ⟨hb37, h⟩ | ⟨hb37, h⟩
         ·have hkhb37 := not_eq_t hb37
          rcases of_if h with ⟨hb38, h⟩ | ⟨hb38, h⟩
          ·simp only [Option.some.injEq] at h
           subst h
           try simp only [hb27, hkhb27, hx28, hkx28, hb30, hb32, hkhb32, hb34, hkhb34, hb36, hkhb36, hb37, hkhb37, hb38, go_sem, List.map_append, List.map_cons, List.map_nil, List.map_set]
          ·rcases of_if h with ⟨hb39, h⟩ | ⟨hb39, h⟩
           ·simp only [Option.some.injEq] at h
            subst h
            try simp only [hb27, hkhb27, hx28, hkx28, hb30, hb32, hkhb32, hb34, hkhb34, hb36, hkhb36, hb37, hkhb37, hb38, hb39, go_sem, List.map_append, List.map_cons, List.map_nil, List.map_set]
           ·obtain ⟨k41, hk41, h⟩ := withK_lk0 h
            try simp only [hb27, hkhb27, hx28, hkx28, hb30, hb32, hkhb32, hb34, hkhb34, hb36, hkhb36, hb37, hkhb37, hb38, hb39, go_sem]
            refine join_lk Try.prog G _ _ (B := Unit) (fun b => k41 = some r) (fun b => [(1, .one (.p (.q 0 0 0))), (5, .one (.d (.i .i64 ((a24_1 : Nat) : Int)))), (81, .one (.p (.q 1 0 2))), (82, .one (zi x28.Key)), (83, .one (.d (.b true))), (84, .one (.d (.b false))), (87, .one (.p (.q 1 0 4))), (88, .one (zi x28.Value)), (89, .one (.d (.b true))), (90, .one (.d (.b false))), (93, .one (.p (.q 1 0 5))), (94, .one (zi x28.Ask)), (95, .one (.d (.b true))), (96, .one (.d (.b false))), (99, .one (.p (.q 1 0 3))), (100, .one (.d (.b false))), (101, .one (.d (.b true))), (102, .one (.d (.b true))), (103, .one (.p (.q 1 0 4))), (104, .one (zi x28.Value)), (105, .one (.d (.b false))), (106, .one (.d (.b false))), (107, .one (.p (.q 1 0 5))), (108, .one (zi x28.Ask)), (109, .one (.d (.b false))), (110, .one (.d (.b false))), (111, .one (.d (.b false)))]) (fun b => [some (.box p0.bx), some (.box [zi x28.Txn.Site, zi x28.Txn.N, zi x28.Key, .d (.b false), zi x28.Value, zi x28.Ask])]) ?_ (fun b h => ?_)
            ·try simp only [hb27, hkhb27, hx28, hkx28, hb30, hb32, hkhb32, hb34, hkhb34, hb36, hkhb36, hb37, hkhb37, hb38, hb39, go_sem]
             refine loop_lk Try.prog G _ _ (A := Nat) (fun n a => reredosref_StoreMay_L3 p0 a24_1 x28 k41 n a = some r) (fun a => [(1, .one (.p (.q 0 0 0))), (5, .one (.d (.i .i64 ((a24_1 : Nat) : Int)))), (6, .one (.p (.q 1 0 0))), (7, .one (.d (.i .i64 ((a : Nat) : Int)))), (81, .one (.p (.q 1 0 2))), (82, .one (zi x28.Key)), (83, .one (.d (.b true))), (84, .one (.d (.b false))), (87, .one (.p (.q 1 0 4))), (88, .one (zi x28.Value)), (89, .one (.d (.b true))), (90, .one (.d (.b false))), (93, .one (.p (.q 1 0 5))), (94, .one (zi x28.Ask)), (95, .one (.d (.b true))), (96, .one (.d (.b false))), (99, .one (.p (.q 1 0 3))), (100, .one (.d (.b false))), (101, .one (.d (.b true))), (102, .one (.d (.b true))), (103, .one (.p (.q 1 0 4))), (104, .one (zi x28.Value)), (105, .one (.d (.b false))), (106, .one (.d (.b false))), (107, .one (.p (.q 1 0 5))), (108, .one (zi x28.Ask)), (109, .one (.d (.b false))), (110, .one (.d (.b false))), (111, .one (.d (.b false)))]) (fun a => [some (.box p0.bx), some (.box [zi x28.Txn.Site, zi x28.Txn.N, zi x28.Key, .d (.b false), zi x28.Value, zi x28.Ask])]) (a24_1 + 1) (0) h (wk_c _ _ _ [some 0, some 1] rfl (by simp only [hb27, hkhb27, hx28, hkx28, hb30, hb32, hkhb32, hb34, hkhb34, hb36, hkhb36, hb37, hkhb37, hb38, hb39, go_sem, List.map_append, List.map_cons, List.map_nil, Option.some.injEq, Prod.mk.injEq, SC.d.injEq, D.l.injEq, List.map_set])) (fun a h => by simp only [reredosref_StoreMay_L3, reduceCtorEq] at h) ?_
             intro n43 a42_1 h
             try dsimp only at h
             rw [reredosref_StoreMay_L3] at h
             rcases of_if h with ⟨hb44, h⟩ | ⟨hb44, h⟩
             ·have hkhb44 := of_decide_eq_true hb44
              obtain ⟨x45, hx45, h⟩ := obi h
              have hkx45 := gtx hx45
              try simp only [List.length_take, List.length_drop, List.length_append, List.length_set, List.length_map, List.length_cons, List.length_nil, Nat.zero_add] at hkx45
              rcases of_if h with ⟨hb46, h⟩ | ⟨hb46, h⟩
              ·rcases of_if h with ⟨hb47, h⟩ | ⟨hb47, h⟩
               ·try simp only [hkhb27, hx28, hkx28, hkhb32, hkhb34, hkhb36, hkhb37, hb44, hkhb44, hx45, hkx45, hb46, hb47, go_sem]
                simp only [Option.some.injEq] at h
                subst h
                try simp only [hkhb27, hx28, hkx28, hkhb32, hkhb34, hkhb36, hkhb37, hb44, hkhb44, hx45, hkx45, hb46, hb47, go_sem, List.map_append, List.map_cons, List.map_nil, List.map_set]
               ·try simp only [hkhb27, hx28, hkx28, hkhb32, hkhb34, hkhb36, hkhb37, hb44, hkhb44, hx45, hkx45, hb46, hb47, go_sem]
                rcases of_if h with ⟨hb48, h⟩ | ⟨hb48, h⟩
                ·simp only [Option.some.injEq] at h
                 subst h
                 try simp only [hkhb27, hx28, hkx28, hkhb32, hkhb34, hkhb36, hkhb37, hb44, hkhb44, hx45, hkx45, hb46, hb47, hb48, go_sem, List.map_append, List.map_cons, List.map_nil, List.map_set]
                ·have hw49 := wrap_succ_max hkx45 hl26
                 try simp only [hkhb27, hx28, hkx28, hkhb32, hkhb34, hkhb36, hkhb37, hb44, hkhb44, hx45, hkx45, hb46, hb47, hb48, hw49, go_sem]
                 exact loopQ_c (a42_1 + 1) h [some 0, some 1] rfl (by simp only [hkhb27, hx28, hkx28, hkhb32, hkhb34, hkhb36, hkhb37, hb44, hkhb44, hx45, hkx45, hb46, hb47, hb48, hw49, go_sem, List.map_append, List.map_cons, List.map_nil, Option.some.injEq, Prod.mk.injEq, SC.d.injEq, D.l.injEq, List.map_set])
              ·have hw50 := wrap_succ_max hkx45 hl26
               try simp only [hkhb27, hx28, hkx28, hkhb32, hkhb34, hkhb36, hkhb37, hb44, hkhb44, hx45, hkx45, hb46, hw50, go_sem]
               exact loopQ_c (a42_1 + 1) h [some 0, some 1] rfl (by simp only [hkhb27, hx28, hkx28, hkhb32, hkhb34, hkhb36, hkhb37, hb44, hkhb44, hx45, hkx45, hb46, hw50, go_sem, List.map_append, List.map_cons, List.map_nil, Option.some.injEq, Prod.mk.injEq, SC.d.injEq, D.l.injEq, List.map_set])
             ·try simp only [hkhb27, hx28, hkx28, hkhb32, hkhb34, hkhb36, hkhb37, hb44, go_sem]
              exact joinQ_c () h [some 0, some 1] rfl (by simp only [hkhb27, hx28, hkx28, hkhb32, hkhb34, hkhb36, hkhb37, hb44, go_sem, List.map_append, List.map_cons, List.map_nil, Option.some.injEq, Prod.mk.injEq, SC.d.injEq, D.l.injEq, List.map_set])
            ·try dsimp only at h
             rw [hk41] at h
             have hw51 := wrap_succ_max hkx28 hl26
             try simp only [hkhb27, hx28, hkx28, hkhb32, hkhb34, hkhb36, hkhb37, hw51, go_sem]
             exact loopQ_c (a24_1 + 1) h [some 0] rfl (by simp only [hkhb27, hx28, hkx28, hkhb32, hkhb34, hkhb36, hkhb37, hw51, go_sem, List.map_append, List.map_cons, List.map_nil, Option.some.injEq, Prod.mk.injEq, SC.d.injEq, D.l.injEq, List.map_set])
         ·have hkhb37 := not_eq_f hb37
          obtain ⟨k53, hk53, h⟩ := withK_lk0 h
          try simp only [hb27, hkhb27, hx28, hkx28, hb30, hb32, hkhb32, hb34, hkhb34, hb36, hkhb36, hb37, hkhb37, go_sem]
          refine join_lk Try.prog G _ _ (B := Unit) (fun b => k53 = some r) (fun b => [(1, .one (.p (.q 0 0 0))), (5, .one (.d (.i .i64 ((a24_1 : Nat) : Int)))), (81, .one (.p (.q 1 0 2))), (82, .one (zi x28.Key)), (83, .one (.d (.b true))), (84, .one (.d (.b false))), (87, .one (.p (.q 1 0 4))), (88, .one (zi x28.Value)), (89, .one (.d (.b true))), (90, .one (.d (.b false))), (93, .one (.p (.q 1 0 5))), (94, .one (zi x28.Ask)), (95, .one (.d (.b true))), (96, .one (.d (.b false))), (99, .one (.p (.q 1 0 3))), (100, .one (.d (.b true))), (101, .one (.d (.b false))), (102, .one (.d (.b false))), (111, .one (.d (.b false)))]) (fun b => [some (.box p0.bx), some (.box [zi x28.Txn.Site, zi x28.Txn.N, zi x28.Key, .d (.b true), zi x28.Value, zi x28.Ask])]) ?_ (fun b h => ?_)
          ·try simp only [hb27, hkhb27, hx28, hkx28, hb30, hb32, hkhb32, hb34, hkhb34, hb36, hkhb36, hb37, hkhb37, go_sem]
           refine loop_lk Try.prog G _ _ (A := Nat) (fun n a => reredosref_StoreMay_L4 p0 a24_1 x28 k53 n a = some r) (fun a => [(1, .one (.p (.q 0 0 0))), (5, .one (.d (.i .i64 ((a24_1 : Nat) : Int)))), (6, .one (.p (.q 1 0 0))), (7, .one (.d (.i .i64 ((a : Nat) : Int)))), (81, .one (.p (.q 1 0 2))), (82, .one (zi x28.Key)), (83, .one (.d (.b true))), (84, .one (.d (.b false))), (87, .one (.p (.q 1 0 4))), (88, .one (zi x28.Value)), (89, .one (.d (.b true))), (90, .one (.d (.b false))), (93, .one (.p (.q 1 0 5))), (94, .one (zi x28.Ask)), (95, .one (.d (.b true))), (96, .one (.d (.b false))), (99, .one (.p (.q 1 0 3))), (100, .one (.d (.b true))), (101, .one (.d (.b false))), (102, .one (.d (.b false))), (111, .one (.d (.b false)))]) (fun a => [some (.box p0.bx), some (.box [zi x28.Txn.Site, zi x28.Txn.N, zi x28.Key, .d (.b true), zi x28.Value, zi x28.Ask])]) (a24_1 + 1) (0) h (wk_c _ _ _ [some 0, some 1] rfl (by simp only [hb27, hkhb27, hx28, hkx28, hb30, hb32, hkhb32, hb34, hkhb34, hb36, hkhb36, hb37, hkhb37, go_sem, List.map_append, List.map_cons, List.map_nil, Option.some.injEq, Prod.mk.injEq, SC.d.injEq, D.l.injEq, List.map_set])) (fun a h => by simp only [reredosref_StoreMay_L4, reduceCtorEq] at h) ?_
           intro n55 a54_1 h
           try dsimp only at h
           rw [reredosref_StoreMay_L4] at h
           rcases of_if h with ⟨hb56, h⟩ | ⟨hb56, h⟩
           ·have hkhb56 := of_decide_eq_true hb56
            obtain ⟨x57, hx57, h⟩ := obi h
            have hkx57 := gtx hx57
            try simp only [List.length_take, List.length_drop, List.length_append, List.length_set, List.length_map, List.length_cons, List.length_nil, Nat.zero_add] at hkx57
            rcases of_if h with ⟨hb58, h⟩ | ⟨hb58, h⟩
            ·rcases of_if h with ⟨hb59, h⟩ | ⟨hb59, h⟩
             ·try simp only [hkhb27, hx28, hkx28, hkhb32, hkhb34, hkhb36, hkhb37, hb56, hkhb56, hx57, hkx57, hb58, hb59, go_sem]
              simp only [Option.some.injEq] at h
              subst h
              try simp only [hkhb27, hx28, hkx28, hkhb32, hkhb34, hkhb36, hkhb37, hb56, hkhb56, hx57, hkx57, hb58, hb59, go_sem, List.map_append, List.map_cons, List.map_nil, List.map_set]
             ·try simp only [hkhb27, hx28, hkx28, hkhb32, hkhb34, hkhb36, hkhb37, hb56, hkhb56, hx57, hkx57, hb58, hb59, go_sem]
              simp only [Option.some.injEq] at h
              subst h
              try simp only [hkhb27, hx28, hkx28, hkhb32, hkhb34, hkhb36, hkhb37, hb56, hkhb56, hx57, hkx57, hb58, hb59, go_sem, List.map_append, List.map_cons, List.map_nil, List.map_set]
            ·have hw60 := wrap_succ_max hkx57 hl26
             try simp only [hkhb27, hx28, hkx28, hkhb32, hkhb34, hkhb36, hkhb37, hb56, hkhb56, hx57, hkx57, hb58, hw60, go_sem]
             exact loopQ_c (a54_1 + 1) h [some 0, some 1] rfl (by simp only [hkhb27, hx28, hkx28, hkhb32, hkhb34, hkhb36, hkhb37, hb56, hkhb56, hx57, hkx57, hb58, hw60, go_sem, List.map_append, List.map_cons, List.map_nil, Option.some.injEq, Prod.mk.injEq, SC.d.injEq, D.l.injEq, List.map_set])
           ·try simp only [hkhb27, hx28, hkx28, hkhb32, hkhb34, hkhb36, hkhb37, hb56, go_sem]
            exact joinQ_c () h [some 0, some 1] rfl (by simp only [hkhb27, hx28, hkx28, hkhb32, hkhb34, hkhb36, hkhb37, hb56, go_sem, List.map_append, List.map_cons, List.map_nil, Option.some.injEq, Prod.mk.injEq, SC.d.injEq, D.l.injEq, List.map_set])
          ·try dsimp only at h
           rw [hk53] at h
           have hw61 := wrap_succ_max hkx28 hl26
           try simp only [hkhb27, hx28, hkx28, hkhb32, hkhb34, hkhb36, hkhb37, hw61, go_sem]
           exact loopQ_c (a24_1 + 1) h [some 0] rfl (by simp only [hkhb27, hx28, hkx28, hkhb32, hkhb34, hkhb36, hkhb37, hw61, go_sem, List.map_append, List.map_cons, List.map_nil, Option.some.injEq, Prod.mk.injEq, SC.d.injEq, D.l.injEq, List.map_set])
    ·try simp only [hb27, go_sem]
     exact joinQ_c () h [some 0] rfl (by simp only [hb27, go_sem, List.map_append, List.map_cons, List.map_nil, Option.some.injEq, Prod.mk.injEq, SC.d.injEq, D.l.injEq, List.map_set])
   ·try dsimp only at h
    rw [hk23] at h
    obtain ⟨k63, hk63, h⟩ := withK_lk0 h
    try simp only [go_sem]
    refine join_lk Try.prog G _ _ (B := Unit) (fun b => k63 = some r) (fun b => [(1, .one (.p (.q 0 0 0)))]) (fun b => [some (.box p0.bx)]) ?_ (fun b h => ?_)
    ·try simp only [go_sem]
     refine loop_lk Try.prog G _ _ (A := Nat) (fun n a => reredosref_StoreMay_L5 p0 k63 n a = some r) (fun a => [(1, .one (.p (.q 0 0 0))), (9, .one (.d (.i .i64 ((a : Nat) : Int))))]) (fun a => [some (.box p0.bx)]) (p0.Doubts.length + 1) (0) h (wk_c _ _ _ [some 0] rfl (by simp only [go_sem, List.map_append, List.map_cons, List.map_nil, Option.some.injEq, Prod.mk.injEq, SC.d.injEq, D.l.injEq, List.map_set])) (fun a h => by simp only [reredosref_StoreMay_L5, reduceCtorEq] at h) ?_
     intro n65 a64_1 h
     try dsimp only at h
     rw [reredosref_StoreMay_L5] at h
     try simp only [go_sem]
     intro hl66
     rcases of_if h with ⟨hb67, h⟩ | ⟨hb67, h⟩
     ·have hkhb67 := of_decide_eq_true hb67
      obtain ⟨x68, hx68, h⟩ := obi h
      have hkx68 := gtx hx68
      try simp only [List.length_take, List.length_drop, List.length_append, List.length_set, List.length_map, List.length_cons, List.length_nil, Nat.zero_add] at hkx68
      obtain ⟨k70, hk70, h⟩ := withK_lk1 h
      try simp only [hb67, hkhb67, hx68, hkx68, go_sem]
      refine join_lk Try.prog G _ _ (B := Bool) (fun b => k70 b = some r) (fun b => [(1, .one (.p (.q 0 0 0))), (9, .one (.d (.i .i64 ((a64_1 : Nat) : Int)))), (10, .one (.p (.q 1 0 0))), (11, .one (.d (.b b)))]) (fun b => [some (.box p0.bx), some (.box x68.bx)]) ?_ (fun b69_1 h => ?_)
      ·try simp only [hb67, hkhb67, hx68, hkx68, go_sem]
       refine loop_lk Try.prog G _ _ (A := Bool × Nat) (fun n a => reredosref_StoreMay_L6 p0 x68 k70 n a.1 a.2 = some r) (fun a => [(1, .one (.p (.q 0 0 0))), (9, .one (.d (.i .i64 ((a64_1 : Nat) : Int)))), (10, .one (.p (.q 1 0 0))), (11, .one (.d (.b a.1))), (12, .one (.d (.i .i64 ((a.2 : Nat) : Int))))]) (fun a => [some (.box p0.bx), some (.box x68.bx)]) (p0.Locks.length + 1) (false, 0) h (wk_c _ _ _ [some 0, some 1] rfl (by simp only [hb67, hkhb67, hx68, hkx68, go_sem, List.map_append, List.map_cons, List.map_nil, Option.some.injEq, Prod.mk.injEq, SC.d.injEq, D.l.injEq, List.map_set])) (fun a h => by simp only [reredosref_StoreMay_L6, reduceCtorEq] at h) ?_
       intro n72 a h
       obtain ⟨a71_1, a71_2⟩ := a
       try dsimp only at h
       rw [reredosref_StoreMay_L6] at h
       try simp only [hkhb67, hx68, hkx68, go_sem]
       intro hl73
       rcases of_if h with ⟨hb74, h⟩ | ⟨hb74, h⟩
       ·have hkhb74 := of_decide_eq_true hb74
        rcases of_if h with ⟨hb75, h⟩ | ⟨hb75, h⟩
        ·have hw76 := wrap_succ_max hkhb74 hl73
         try simp only [hkhb67, hx68, hkx68, hb74, hkhb74, hb75, hw76, go_sem]
         exact loopQ_c (true, a71_2 + 1) h [some 0, some 1] rfl (by simp only [hkhb67, hx68, hkx68, hb74, hkhb74, hb75, hw76, go_sem, List.map_append, List.map_cons, List.map_nil, Option.some.injEq, Prod.mk.injEq, SC.d.injEq, D.l.injEq, List.map_set])
        ·obtain ⟨x77, hx77, h⟩ := obi h
         have hkx77 := gtx hx77
         try simp only [List.length_take, List.length_drop, List.length_append, List.length_set, List.length_map, List.length_cons, List.length_nil, Nat.zero_add] at hkx77
         have hw78 := wrap_succ_max hkx77 hl73
         try simp only [hkhb67, hx68, hkx68, hb74, hkhb74, hb75, hx77, hkx77, hw78, go_sem]
         exact loopQ_c ((x77.Txn.Site == x68.Txn.Site) && (x77.Txn.N == x68.Txn.N), a71_2 + 1) h [some 0, some 1] rfl (by simp only [hkhb67, hx68, hkx68, hb74, hkhb74, hb75, hx77, hkx77, hw78, go_sem, List.map_append, List.map_cons, List.map_nil, Option.some.injEq, Prod.mk.injEq, SC.d.injEq, D.l.injEq, List.map_set])
       ·try simp only [hkhb67, hx68, hkx68, hb74, go_sem]
        exact joinQ_c (a71_1) h [some 0, some 1] rfl (by simp only [hkhb67, hx68, hkx68, hb74, go_sem, List.map_append, List.map_cons, List.map_nil, Option.some.injEq, Prod.mk.injEq, SC.d.injEq, D.l.injEq, List.map_set])
      ·try dsimp only at h
       rw [hk70] at h
       obtain ⟨v79, hv79, h⟩ := obi h
       try simp only [hkhb67, hx68, hkx68, go_sem]
       refine CallV.ro false (reredosref_plainTxn_ok G x68.Txn v79 hv79) rfl ?_
       rintro rs rfl
       refine ⟨.inl rfl, ?_⟩
       rcases of_if h with ⟨hb80, h⟩ | ⟨hb80, h⟩
       ·have hkhb80 := not_eq_t hb80
        simp only [Option.some.injEq] at h
        subst h
        try simp only [hkhb67, hx68, hkx68, hb80, hkhb80, go_sem, List.map_append, List.map_cons, List.map_nil, List.map_set]
       ·have hkhb80 := not_eq_f hb80
        obtain ⟨v81, hv81, h⟩ := obi h
        try simp only [hkhb67, hx68, hkx68, hb80, hkhb80, go_sem]
        refine CallV.ro false (reredosref_In_ok G x68.Age 0 1048576 v81 hv81) rfl ?_
        rintro rs rfl
        refine ⟨.inl rfl, ?_⟩
        rcases of_if h with ⟨hb82, h⟩ | ⟨hb82, h⟩
        ·have hkhb82 := not_eq_t hb82
         simp only [Option.some.injEq] at h
         subst h
         try simp only [hkhb67, hx68, hkx68, hb80, hkhb80, hb82, hkhb82, go_sem, List.map_append, List.map_cons, List.map_nil, List.map_set]
        ·have hkhb82 := not_eq_f hb82
         rcases of_if h with ⟨hb83, h⟩ | ⟨hb83, h⟩
         ·have hkhb83 := not_eq_t hb83
          simp only [Option.some.injEq] at h
          subst h
          try simp only [hkhb67, hx68, hkx68, hb80, hkhb80, hb82, hkhb82, hb83, hkhb83, go_sem, List.map_append, List.map_cons, List.map_nil, List.map_set]
         ·have hkhb83 := not_eq_f hb83
          obtain ⟨v84, hv84, h⟩ := obi h
          try simp only [hkhb67, hx68, hkx68, hb80, hkhb80, hb82, hkhb82, hb83, hkhb83, go_sem]
          refine CallV.ro false (reredosref_doubtOf_ok G p0 x68.Txn v84 hv84) rfl ?_
          rintro rs rfl
          refine ⟨.inl rfl, ?_⟩
          rcases of_if h with ⟨hb85, h⟩ | ⟨hb85, h⟩
          ·simp only [Option.some.injEq] at h
           subst h
           try simp only [hkhb67, hx68, hkx68, hb80, hkhb80, hb82, hkhb82, hb83, hkhb83, hb85, go_sem, List.map_append, List.map_cons, List.map_nil, List.map_set]
          ·obtain ⟨v86, hv86, h⟩ := obi h
           try simp only [hkhb67, hx68, hkx68, hb80, hkhb80, hb82, hkhb82, hb83, hkhb83, hb85, go_sem]
           refine CallV.ro false (reredosref_isOver_ok G p0 x68.Txn v86 hv86) rfl ?_
           rintro rs rfl
           refine ⟨.inl rfl, ?_⟩
           rcases of_if h with ⟨hb87, h⟩ | ⟨hb87, h⟩
           ·simp only [Option.some.injEq] at h
            subst h
            try simp only [hkhb67, hx68, hkx68, hb80, hkhb80, hb82, hkhb82, hb83, hkhb83, hb85, hb87, go_sem, List.map_append, List.map_cons, List.map_nil, List.map_set]
           ·have hw88 := wrap_succ_max hkx68 hl66
            try simp only [hkhb67, hx68, hkx68, hb80, hkhb80, hb82, hkhb82, hb83, hkhb83, hb85, hb87, hw88, go_sem]
            exact loopQ_c (a64_1 + 1) h [some 0] rfl (by simp only [hkhb67, hx68, hkx68, hb80, hkhb80, hb82, hkhb82, hb83, hkhb83, hb85, hb87, hw88, go_sem, List.map_append, List.map_cons, List.map_nil, Option.some.injEq, Prod.mk.injEq, SC.d.injEq, D.l.injEq, List.map_set])
     ·try simp only [hb67, go_sem]
      exact joinQ_c () h [some 0] rfl (by simp only [hb67, go_sem, List.map_append, List.map_cons, List.map_nil, Option.some.injEq, Prod.mk.injEq, SC.d.injEq, D.l.injEq, List.map_set])
    ·try dsimp only at h
     rw [hk63] at h
     obtain ⟨k90, hk90, h⟩ := withK_lk0 h
     try simp only [go_sem]
     refine join_lk Try.prog G _ _ (B := Unit) (fun b => k90 = some r) (fun b => []) (fun b => []) ?_ (fun b h => ?_)
     ·try simp only [go_sem]
      refine loop_lk Try.prog G _ _ (A := Nat) (fun n a => reredosref_StoreMay_L7 p0 k90 n a = some r) (fun a => [(1, .one (.p (.q 0 0 0))), (13, .one (.d (.i .i64 ((a : Nat) : Int))))]) (fun a => [some (.box p0.bx)]) (p0.Over.length + 1) (0) h (wk_c _ _ _ [some 0] rfl (by simp only [go_sem, List.map_append, List.map_cons, List.map_nil, Option.some.injEq, Prod.mk.injEq, SC.d.injEq, D.l.injEq, List.map_set])) (fun a h => by simp only [reredosref_StoreMay_L7, reduceCtorEq] at h) ?_
      intro n92 a91_1 h
      try dsimp only at h
      rw [reredosref_StoreMay_L7] at h
      try simp only [go_sem]
      intro hl93
      rcases of_if h with ⟨hb94, h⟩ | ⟨hb94, h⟩
      ·have hkhb94 := of_decide_eq_true hb94
       obtain ⟨k96, hk96, h⟩ := withK_lk0 h
       try simp only [hb94, hkhb94, go_sem]
       refine join_lk Try.prog G _ _ (B := Unit) (fun b => k96 = some r) (fun b => [(1, .one (.p (.q 0 0 0))), (13, .one (.d (.i .i64 ((a91_1 : Nat) : Int))))]) (fun b => [some (.box p0.bx)]) ?_ (fun b h => ?_)
       ·try simp only [hb94, hkhb94, go_sem]
        refine loop_lk Try.prog G _ _ (A := Nat) (fun n a => reredosref_StoreMay_L8 p0 a91_1 k96 n a = some r) (fun a => [(1, .one (.p (.q 0 0 0))), (13, .one (.d (.i .i64 ((a91_1 : Nat) : Int)))), (14, .one (.d (.i .i64 ((a : Nat) : Int))))]) (fun a => [some (.box p0.bx)]) (a91_1 + 1) (0) h (wk_c _ _ _ [some 0] rfl (by simp only [hb94, hkhb94, go_sem, List.map_append, List.map_cons, List.map_nil, Option.some.injEq, Prod.mk.injEq, SC.d.injEq, D.l.injEq, List.map_set])) (fun a h => by simp only [reredosref_StoreMay_L8, reduceCtorEq] at h) ?_
        intro n98 a97_1 h
        try dsimp only at h
        rw [reredosref_StoreMay_L8] at h
        rcases of_if h with ⟨hb99, h⟩ | ⟨hb99, h⟩
        ·have hkhb99 := of_decide_eq_true hb99
         obtain ⟨x100, hx100, h⟩ := obi h
         have hkx100 := gtx hx100
         try simp only [List.length_take, List.length_drop, List.length_append, List.length_set, List.length_map, List.length_cons, List.length_nil, Nat.zero_add] at hkx100
         obtain ⟨x101, hx101, h⟩ := obi h
         have hkx101 := gtx hx101
         try simp only [List.length_take, List.length_drop, List.length_append, List.length_set, List.length_map, List.length_cons, List.length_nil, Nat.zero_add] at hkx101
         rcases of_if h with ⟨hb102, h⟩ | ⟨hb102, h⟩
         ·try simp only [hkhb94, hb99, hkhb99, hx100, hkx100, hx101, hkx101, hb102, go_sem]
          simp only [Option.some.injEq] at h
          subst h
          try simp only [hkhb94, hb99, hkhb99, hx100, hkx100, hx101, hkx101, hb102, go_sem, List.map_append, List.map_cons, List.map_nil, List.map_set]
         ·try simp only [hkhb94, hb99, hkhb99, hx100, hkx100, hx101, hkx101, hb102, go_sem]
          have hw103 := wrap_succ_max hkx100 hl93
          try simp only [hkhb94, hb99, hkhb99, hx100, hkx100, hx101, hkx101, hb102, hw103, go_sem]
          exact loopQ_c (a97_1 + 1) h [some 0] rfl (by simp only [hkhb94, hb99, hkhb99, hx100, hkx100, hx101, hkx101, hb102, hw103, go_sem, List.map_append, List.map_cons, List.map_nil, Option.some.injEq, Prod.mk.injEq, SC.d.injEq, D.l.injEq, List.map_set])
        ·try simp only [hkhb94, hb99, go_sem]
         exact joinQ_c () h [some 0] rfl (by simp only [hkhb94, hb99, go_sem, List.map_append, List.map_cons, List.map_nil, Option.some.injEq, Prod.mk.injEq, SC.d.injEq, D.l.injEq, List.map_set])
       ·try dsimp only at h
        rw [hk96] at h
        obtain ⟨x104, hx104, h⟩ := obi h
        have hkx104 := gtx hx104
        try simp only [List.length_take, List.length_drop, List.length_append, List.length_set, List.length_map, List.length_cons, List.length_nil, Nat.zero_add] at hkx104
        obtain ⟨v105, hv105, h⟩ := obi h
        try simp only [hkhb94, hx104, hkx104, go_sem]
        refine CallV.ro false (reredosref_plainTxn_ok G x104 v105 hv105) rfl ?_
        rintro rs rfl
        refine ⟨.inl rfl, ?_⟩
        rcases of_if h with ⟨hb106, h⟩ | ⟨hb106, h⟩
        ·have hkhb106 := not_eq_t hb106
         simp only [Option.some.injEq] at h
         subst h
         try simp only [hkhb94, hx104, hkx104, hb106, hkhb106, go_sem, List.map_append, List.map_cons, List.map_nil, List.map_set]
        ·have hkhb106 := not_eq_f hb106
         have hw107 := wrap_succ_max hkx104 hl93
         try simp only [hkhb94, hx104, hkx104, hb106, hkhb106, hw107, go_sem]
         exact loopQ_c (a91_1 + 1) h [some 0] rfl (by simp only [hkhb94, hx104, hkx104, hb106, hkhb106, hw107, go_sem, List.map_append, List.map_cons, List.map_nil, Option.some.injEq, Prod.mk.injEq, SC.d.injEq, D.l.injEq, List.map_set])
      ·try simp only [hb94, go_sem]
       exact joinQ_c () h [] rfl (by simp only [hb94, go_sem, List.map_append, List.map_cons, List.map_nil, Option.some.injEq, Prod.mk.injEq, SC.d.injEq, D.l.injEq, List.map_set])
     ·try dsimp only at h
      rw [hk90] at h
      simp only [Option.some.injEq] at h
      subst h
      try simp only [go_sem, List.map_append, List.map_cons, List.map_nil, List.map_set]
def reredosref_siteFault_L1 (p3 : List Store) (k11 : Option (Int)) : Nat → Nat → Option (Int)
 | 0, _ => none
 | n13 + 1, a12_1 => (if (decide (a12_1 < p3.length)) = true then (Option.bind (p3[a12_1]?) fun x16 => (Option.bind (reredosref_StoreMay x16) fun v17 => (if (!v17) = true then (some 9) else (reredosref_siteFault_L1 p3 k11 n13 (a12_1 + 1))))) else k11)
def reredosref_siteFault (p0 : Config) (p1 : Int) (p2 : Int) (p3 : List Store) : Option (Int) := (Option.bind (reredosref_ConfigFault p0) fun v1 => (if (v1 != 0) = true then (some v1) else (Option.bind (reredosref_labelMay p0 p1) fun v3 => (if (!v3) = true then (some 6) else (Option.bind (reredosref_In p2 0 (IntKind.i64.wrap (p0.Sites - 1))) fun v5 => (if (!v5) = true then (some 2) else (if (((p3.length : Nat) : Int) != ((p0.Labels.length : Nat) : Int)) = true then (some 9) else (withK (some 0) fun k11 => (reredosref_siteFault_L1 p3 k11 (p3.length + 1) 0)))))))))
def F14 : VFn := ⟨44, (.seq (.reg [vo 4 (.boxk 3 (.t 0)), vo 8 (.mv (ci 0))]) (.seq (.reg [vo 11 (.ld true 3 (.t 4)), vo 12 (.call 32 [(.t 11)]), vm 9 12]) (.seq (.seq (.reg [vm 13 9, vo 14 (.bin .i .neq (.t 13) (ci 0))]) (.cond (.t 14) (.seq (.reg [vm 15 9, vm 8 15]) .ret) .skip)) (.seq (.seq (.reg [vo 16 (.ld true 3 (.t 4)), vm 17 1, vo 18 (.call 33 [(.t 16), (.t 17)]), vo 19 (.un .not (.t 18))]) (.cond (.t 19) (.seq (.reg [vo 8 (.mv (ci 6))]) .ret) .skip)) (.seq (.seq (.reg [vm 20 2, vo 21 (.fa 0 (.t 4)), vo 22 (.ld false 1 (.t 21)), vo 23 (.bin .i .sub (.t 22) (ci 1)), vo 24 (.call 34 [(.t 20), (ci 0), (.t 23)]), vo 25 (.un .not (.t 24))]) (.cond (.t 25) (.seq (.reg [vo 8 (.mv (ci 2))]) .ret) .skip)) (.seq (.seq (.reg [vm 26 3, vo 27 (.len (.t 26)), vo 28 (.fa 1 (.t 4)), vo 29 (.ld false 1 (.t 28)), vo 30 (.len (.t 29)), vo 31 (.bin .i .neq (.t 27) (.t 30))]) (.cond (.t 31) (.seq (.reg [vo 8 (.mv (ci 9))]) .ret) .skip)) (.seq (.seq (.reg [vo 10 (.mv (ci 0))]) (.wk (.block 0 (.loop (.seq (.seq (.reg [vm 32 10, vm 33 3, vo 34 (.len (.t 33)), vo 35 (.bin .i .lss (.t 32) (.t 34))]) (.cond (.t 35) .skip (.exit 0))) (.seq (.block 1 (.seq (.reg [vm 38 3, vm 39 10, vo 40 (.ia 4 (.t 38) (.t 39)), vo 41 (.ld true 4 (.t 40)), vo 42 (.call 35 [(.t 41)]), vo 43 (.un .not (.t 42))]) (.cond (.t 43) (.seq (.reg [vo 8 (.mv (ci 9))]) .ret) .skip))) (.reg [vm 36 10, vo 37 (.bin .i .add (.t 36) (ci 1)), vm 10 37]))))))) (.seq (.reg [vo 8 (.mv (ci 0))]) .ret)))))))), [.t 8]⟩
theorem low14 : lowF Try.prog 14 = some F14.strip := by kernel_rfl
theorem fok14 : fOk Try.prog 14 = true := by kernel_rfl
theorem reredosref_siteFault_ok (G : Nat → Option (List D)) (p0 : Config) (p1 : Int) (p2 : Int) (p3 : List Store) (r : Int) (h : reredosref_siteFault p0 p1 p2 p3 = some r) : FnRO Try.prog G 14 [.agg [.d (.i .i64 p0.Sites), .d (.l 2 (p0.Labels.map Label.enc)), .d (.i .i64 p0.Patience)], .one (.d (.i .i64 p1)), .one (.d (.i .i64 p2)), .one (.d (.l 4 (p3.map Store.enc)))] (fun rs => rs = [.one (.i .i64 r)]) := by
 refine FnRO.of' low14 fok14 (by simp [F14]) ?_
 rw [reredosref_siteFault] at h
 simp only [F14, go_sem]
 obtain ⟨v1, hv1, h⟩ := obi h
 try simp only [go_sem]
 refine CallV.ro false (reredosref_ConfigFault_ok G p0 v1 hv1) rfl ?_
 rintro rs rfl
 refine ⟨.inl rfl, ?_⟩
 rcases of_if h with ⟨hb2, h⟩ | ⟨hb2, h⟩
 ·simp only [Option.some.injEq] at h
  subst h
  try simp only [hb2, go_sem, List.map_append, List.map_cons, List.map_nil, List.map_set]
 ·obtain ⟨v3, hv3, h⟩ := obi h
  try simp only [hb2, go_sem]
  refine CallV.ro false (reredosref_labelMay_ok G p0 p1 v3 hv3) rfl ?_
  rintro rs rfl
  refine ⟨.inl rfl, ?_⟩
  rcases of_if h with ⟨hb4, h⟩ | ⟨hb4, h⟩
  ·have hkhb4 := not_eq_t hb4
   simp only [Option.some.injEq] at h
   subst h
   try simp only [hb2, hb4, hkhb4, go_sem, List.map_append, List.map_cons, List.map_nil, List.map_set]
  ·have hkhb4 := not_eq_f hb4
   obtain ⟨v5, hv5, h⟩ := obi h
   try simp only [hb2, hb4, hkhb4, go_sem]
   refine CallV.ro false (reredosref_In_ok G p2 0 (IntKind.i64.wrap (p0.Sites - 1)) v5 hv5) rfl ?_
   rintro rs rfl
   refine ⟨.inl rfl, ?_⟩
   rcases of_if h with ⟨hb6, h⟩ | ⟨hb6, h⟩
   ·have hkhb6 := not_eq_t hb6
    simp only [Option.some.injEq] at h
    subst h
    try simp only [hb2, hb4, hkhb4, hb6, hkhb6, go_sem, List.map_append, List.map_cons, List.map_nil, List.map_set]
   ·have hkhb6 := not_eq_f hb6
    try simp only [hb2, hb4, hkhb4, hb6, hkhb6, go_sem]
    intro hl7
    try simp only [hb2, hb4, hkhb4, hb6, hkhb6, go_sem]
    intro hl8
    rcases of_if h with ⟨hb9, h⟩ | ⟨hb9, h⟩
    ·simp only [Option.some.injEq] at h
     subst h
     try simp only [hb2, hb4, hkhb4, hb6, hkhb6, hb9, go_sem, List.map_append, List.map_cons, List.map_nil, List.map_set]
    ·obtain ⟨k11, hk11, h⟩ := withK_lk0 h
     try simp only [hb2, hb4, hkhb4, hb6, hkhb6, hb9, go_sem]
     refine join_lk Try.prog G _ _ (B := Unit) (fun b => k11 = some r) (fun b => []) (fun b => []) ?_ (fun b h => ?_)
     ·try simp only [hb2, hb4, hkhb4, hb6, hkhb6, hb9, go_sem]
      refine loop_lk Try.prog G _ _ (A := Nat) (fun n a => reredosref_siteFault_L1 p3 k11 n a = some r) (fun a => [(3, .one (.d (.l 4 (p3.map Store.enc)))), (10, .one (.d (.i .i64 ((a : Nat) : Int))))]) (fun a => []) (p3.length + 1) (0) h (wk_c _ _ _ [] rfl (by simp only [hb2, hb4, hkhb4, hb6, hkhb6, hb9, go_sem, List.map_append, List.map_cons, List.map_nil, Option.some.injEq, Prod.mk.injEq, SC.d.injEq, D.l.injEq, List.map_set])) (fun a h => by simp only [reredosref_siteFault_L1, reduceCtorEq] at h) ?_
      intro n13 a12_1 h
      try dsimp only at h
      rw [reredosref_siteFault_L1] at h
      try simp only [hkhb4, hkhb6, go_sem]
      intro hl14
      rcases of_if h with ⟨hb15, h⟩ | ⟨hb15, h⟩
      ·have hkhb15 := of_decide_eq_true hb15
       obtain ⟨x16, hx16, h⟩ := obi h
       have hkx16 := gtx hx16
       try simp only [List.length_take, List.length_drop, List.length_append, List.length_set, List.length_map, List.length_cons, List.length_nil, Nat.zero_add] at hkx16
       obtain ⟨v17, hv17, h⟩ := obi h
       try simp only [hkhb4, hkhb6, hb15, hkhb15, hx16, hkx16, go_sem]
       refine CallV.ro false (reredosref_StoreMay_ok G x16 v17 hv17) rfl ?_
       rintro rs rfl
       refine ⟨.inl rfl, ?_⟩
       rcases of_if h with ⟨hb18, h⟩ | ⟨hb18, h⟩
       ·have hkhb18 := not_eq_t hb18
        simp only [Option.some.injEq] at h
        subst h
        try simp only [hkhb4, hkhb6, hb15, hkhb15, hx16, hkx16, hb18, hkhb18, go_sem, List.map_append, List.map_cons, List.map_nil, List.map_set]
       ·have hkhb18 := not_eq_f hb18
        have hw19 := wrap_succ_max hkx16 hl14
        try simp only [hkhb4, hkhb6, hb15, hkhb15, hx16, hkx16, hb18, hkhb18, hw19, go_sem]
        exact loopQ_c (a12_1 + 1) h [] rfl (by simp only [hkhb4, hkhb6, hb15, hkhb15, hx16, hkx16, hb18, hkhb18, hw19, go_sem, List.map_append, List.map_cons, List.map_nil, Option.some.injEq, Prod.mk.injEq, SC.d.injEq, D.l.injEq, List.map_set])
      ·try simp only [hkhb4, hkhb6, hb15, go_sem]
       exact joinQ_c () h [] rfl (by simp only [hkhb4, hkhb6, hb15, go_sem, List.map_append, List.map_cons, List.map_nil, Option.some.injEq, Prod.mk.injEq, SC.d.injEq, D.l.injEq, List.map_set])
     ·try dsimp only at h
      rw [hk11] at h
      simp only [Option.some.injEq] at h
      subst h
      try simp only [hkhb4, hkhb6, go_sem, List.map_append, List.map_cons, List.map_nil, List.map_set]
def reredosref_askFault (p0 : Store) (p1 : Txn) (p2 : Int) : Option (Int) := (Option.bind (reredosref_StoreMay p0) fun v1 => (if (!v1) = true then (some 9) else (Option.bind (reredosref_plainTxn p1) fun v3 => (if (!v3) = true then (some 2) else (Option.bind (reredosref_In p2 0 7) fun v5 => (if (!v5) = true then (some 2) else (some 0)))))))
def F47 : VFn := ⟨18, (.seq (.reg [vo 3 (.boxk 4 (.t 0)), vo 4 (.boxk 2 (.t 1)), vo 6 (.mv (ci 0))]) (.seq (.seq (.reg [vo 7 (.ld true 4 (.t 3)), vo 8 (.call 35 [(.t 7)]), vo 9 (.un .not (.t 8))]) (.cond (.t 9) (.seq (.reg [vo 6 (.mv (ci 9))]) .ret) .skip)) (.seq (.seq (.reg [vo 10 (.ld true 2 (.t 4)), vo 11 (.call 55 [(.t 10)]), vo 12 (.un .not (.t 11)), vm 13 12, ⟨(some 14), .mv (.t 2), (some (13, false))⟩, ⟨(some 15), .call 34 [(.t 14), (ci 0), (ci 7)], (some (13, false))⟩, ⟨(some 16), .un .not (.t 15), (some (13, false))⟩, vo 17 (.pick (.t 13) (cb true) (.t 16))]) (.cond (.t 17) (.seq (.reg [vo 6 (.mv (ci 2))]) .ret) .skip)) (.seq (.reg [vo 6 (.mv (ci 0))]) .ret)))), [.t 6]⟩
theorem low47 : lowF Try.prog 47 = some F47.strip := by kernel_rfl
theorem fok47 : fOk Try.prog 47 = true := by kernel_rfl
theorem reredosref_askFault_ok (G : Nat → Option (List D)) (p0 : Store) (p1 : Txn) (p2 : Int) (r : Int) (h : reredosref_askFault p0 p1 p2 = some r) : FnRO Try.prog G 47 [.agg [.d (.l 3 (p0.Items.map Item.enc)), .d (.l 6 (p0.Locks.map Lock.enc)), .d (.l 3 (p0.Doubts.map Doubt.enc)), .d (.l 2 (p0.Over.map Txn.enc))], .agg [.d (.i .i64 p1.Site), .d (.i .i64 p1.N)], .one (.d (.i .i64 p2))] (fun rs => rs = [.one (.i .i64 r)]) := by
 refine FnRO.of' low47 fok47 (by simp [F47]) ?_
 rw [reredosref_askFault] at h
 simp only [F47, go_sem]
 obtain ⟨v1, hv1, h⟩ := obi h
 try simp only [go_sem]
 refine CallV.ro false (reredosref_StoreMay_ok G p0 v1 hv1) rfl ?_
 rintro rs rfl
 refine ⟨.inl rfl, ?_⟩
 rcases of_if h with ⟨hb2, h⟩ | ⟨hb2, h⟩
 ·have hkhb2 := not_eq_t hb2
  simp only [Option.some.injEq] at h
  subst h
  try simp only [hb2, hkhb2, go_sem, List.map_append, List.map_cons, List.map_nil, List.map_set]
 ·have hkhb2 := not_eq_f hb2
  obtain ⟨v3, hv3, h⟩ := obi h
  try simp only [hb2, hkhb2, go_sem]
  refine CallV.ro false (reredosref_plainTxn_ok G p1 v3 hv3) rfl ?_
  rintro rs rfl
  refine ⟨.inl rfl, ?_⟩
  rcases of_if h with ⟨hb4, h⟩ | ⟨hb4, h⟩
  ·have hkhb4 := not_eq_t hb4
   simp only [Option.some.injEq] at h
   subst h
   try simp only [hb2, hkhb2, hb4, hkhb4, go_sem, List.map_append, List.map_cons, List.map_nil, List.map_set]
  ·have hkhb4 := not_eq_f hb4
   obtain ⟨v5, hv5, h⟩ := obi h
   try simp only [hb2, hkhb2, hb4, hkhb4, go_sem]
   refine CallV.ro false (reredosref_In_ok G p2 0 7 v5 hv5) rfl ?_
   rintro rs rfl
   refine ⟨.inl rfl, ?_⟩
   rcases of_if h with ⟨hb6, h⟩ | ⟨hb6, h⟩
   ·have hkhb6 := not_eq_t hb6
    simp only [Option.some.injEq] at h
    subst h
    try simp only [hb2, hkhb2, hb4, hkhb4, hb6, hkhb6, go_sem, List.map_append, List.map_cons, List.map_nil, List.map_set]
   ·have hkhb6 := not_eq_f hb6
    simp only [Option.some.injEq] at h
    subst h
    try simp only [hb2, hkhb2, hb4, hkhb4, hb6, hkhb6, go_sem, List.map_append, List.map_cons, List.map_nil, List.map_set]
def reredosref_WritesOf_L1 (p0 : Store) (p1 : Txn) (k4 : Int → Option (Int × Int)) : Nat → Int → Nat → Option (Int × Int)
 | 0, _, _ => none
 | n6 + 1, a5_1, a5_2 => (if (decide (a5_2 < p0.Locks.length)) = true then (Option.bind (p0.Locks[a5_2]?) fun x9 => (if ((x9.Txn.Site == p1.Site) && (x9.Txn.N == p1.N)) = true then (withK (fun (b11_1 : Int) => (reredosref_WritesOf_L1 p0 p1 k4 n6 b11_1 (a5_2 + 1))) fun k12 => (if x9.Write = true then (k12 (IntKind.i64.wrap (a5_1 + 1))) else (k12 a5_1))) else (withK (reredosref_WritesOf_L1 p0 p1 k4 n6 a5_1 (a5_2 + 1)) fun k16 => k16))) else (k4 a5_1))
def reredosref_WritesOf (p0 : Store) (p1 : Txn) : Option (Int × Int) := (Option.bind (reredosref_askFault p0 p1 0) fun v1 => (if (v1 != 0) = true then (some (0, v1)) else (withK (fun (b3_1 : Int) => (some (b3_1, 0))) fun k4 => (reredosref_WritesOf_L1 p0 p1 k4 (p0.Locks.length + 1) 0 0))))
def F23 : VFn := ⟨41, (.seq (.reg [vo 2 (.boxk 4 (.t 0)), vo 3 (.boxk 2 (.t 1)), vo 4 (.mv (ci 0)), vo 5 (.mv (ci 0))]) (.seq (.reg [vo 9 (.ld true 4 (.t 2)), vo 10 (.ld true 2 (.t 3)), vo 11 (.call 47 [(.t 9), (.t 10), (ci 0)]), vm 6 11]) (.seq (.seq (.reg [vm 12 6, vo 13 (.bin .i .neq (.t 12) (ci 0))]) (.cond (.t 13) (.seq (.reg [vm 14 6, vo 4 (.mv (ci 0)), vm 5 14]) .ret) .skip)) (.seq (.reg [vo 7 (.mv (ci 0))]) (.seq (.seq (.reg [vo 8 (.mv (ci 0))]) (.wk (.block 0 (.loop (.seq (.seq (.reg [vm 15 8, vo 16 (.fa 1 (.t 2)), vo 17 (.ld false 1 (.t 16)), vo 18 (.len (.t 17)), vo 19 (.bin .i .lss (.t 15) (.t 18))]) (.cond (.t 19) .skip (.exit 0))) (.seq (.block 1 (.seq (.draw [vd (vo 22 (.fa 1 (.t 2))) [], vd (vo 23 (.ld false 1 (.t 22))) [0], vd (vm 24 8) [], vd (vo 25 (.ia 6 (.t 23) (.t 24))) [1, 0, 2], vd (vo 26 (.fa 0 (.t 25))) [3, 1, 0, 2], vd (vo 27 (.ld true 2 (.t 26))) [4, 3, 1, 0, 2], vd (vo 28 (.ld true 2 (.t 3))) [], vd (vo 29 (.eqs false [.i, .i] (.t 27) (.t 28))) [5, 4, 3, 1, 0, 2, 6], vd (vm 30 29) [7, 5, 4, 3, 1, 0, 2, 6], vd (⟨(some 31), .fa 1 (.t 2), (some (30, true))⟩) [8, 7, 5, 4, 3, 1, 0, 2, 6], vd (⟨(some 32), .ld false 1 (.t 31), (some (30, true))⟩) [9, 8, 7, 5, 4, 3, 1, 0, 2, 6], vd (⟨(some 33), .mv (.t 8), (some (30, true))⟩) [8, 7, 5, 4, 3, 1, 0, 2, 6], vd (⟨(some 34), .ia 6 (.t 32) (.t 33), (some (30, true))⟩) [10, 9, 8, 7, 5, 4, 3, 1, 0, 2, 6, 11], vd (⟨(some 35), .fa 3 (.t 34), (some (30, true))⟩) [12, 10, 9, 8, 7, 5, 4, 3, 1, 0, 2, 6, 11], vd (⟨(some 36), .ld false 1 (.t 35), (some (30, true))⟩) [13, 12, 10, 9, 8, 7, 5, 4, 3, 1, 0, 2, 6, 11], vd (vo 37 (.pick (.t 30) (.t 36) (cb false))) [8, 7, 5, 4, 3, 1, 0, 2, 6, 14, 13, 12, 10, 9, 11]]) (.wk (.cond (.t 37) (.reg [vm 38 7, vo 39 (.bin .i .add (.t 38) (ci 1)), vm 7 39]) .skip)))) (.reg [vm 20 8, vo 21 (.bin .i .add (.t 20) (ci 1)), vm 8 21]))))))) (.seq (.reg [vm 40 7, vm 4 40, vo 5 (.mv (ci 0))]) .ret)))))), [.t 4, .t 5]⟩
theorem low23 : lowF Try.prog 23 = some F23.strip := by kernel_rfl
theorem fok23 : fOk Try.prog 23 = true := by kernel_rfl
theorem reredosref_WritesOf_ok (G : Nat → Option (List D)) (p0 : Store) (p1 : Txn) (r : Int × Int) (h : reredosref_WritesOf p0 p1 = some r) : FnRO Try.prog G 23 [.agg [.d (.l 3 (p0.Items.map Item.enc)), .d (.l 6 (p0.Locks.map Lock.enc)), .d (.l 3 (p0.Doubts.map Doubt.enc)), .d (.l 2 (p0.Over.map Txn.enc))], .agg [.d (.i .i64 p1.Site), .d (.i .i64 p1.N)]] (fun rs => rs = [.one (.i .i64 r.1), .one (.i .i64 r.2)]) := by
 refine FnRO.of' low23 fok23 (by simp [F23]) ?_
 rw [reredosref_WritesOf] at h
 simp only [F23, go_sem]
 obtain ⟨v1, hv1, h⟩ := obi h
 try simp only [go_sem]
 refine CallV.ro false (reredosref_askFault_ok G p0 p1 0 v1 hv1) rfl ?_
 rintro rs rfl
 refine ⟨.inl rfl, ?_⟩
 rcases of_if h with ⟨hb2, h⟩ | ⟨hb2, h⟩
 ·simp only [Option.some.injEq] at h
  subst h
  try simp only [hb2, go_sem, List.map_append, List.map_cons, List.map_nil, List.map_set]
 ·obtain ⟨k4, hk4, h⟩ := withK_lk1 h
  try simp only [hb2, go_sem]
  refine join_lk Try.prog G _ _ (B := Int) (fun b => k4 b = some r) (fun b => [(7, .one (zi b))]) (fun b => []) ?_ (fun b3_1 h => ?_)
  ·try simp only [hb2, go_sem]
   refine loop_lk Try.prog G _ _ (A := Int × Nat) (fun n a => reredosref_WritesOf_L1 p0 p1 k4 n a.1 a.2 = some r) (fun a => [(2, .one (.d (.k (Store.enc p0)))), (3, .one (.d (.k (Txn.enc p1)))), (7, .one (zi a.1)), (8, .one (.d (.i .i64 ((a.2 : Nat) : Int))))]) (fun a => []) (p0.Locks.length + 1) (0, 0) h (wk_c _ _ _ [] rfl (by simp only [hb2, go_sem, List.map_append, List.map_cons, List.map_nil, Option.some.injEq, Prod.mk.injEq, SC.d.injEq, D.l.injEq, List.map_set])) (fun a h => by simp only [reredosref_WritesOf_L1, reduceCtorEq] at h) ?_
   intro n6 a h
   obtain ⟨a5_1, a5_2⟩ := a
   try dsimp only at h
   rw [reredosref_WritesOf_L1] at h
   try simp only [go_sem]
   intro hl7
   rcases of_if h with ⟨hb8, h⟩ | ⟨hb8, h⟩
   ·have hkhb8 := of_decide_eq_true hb8
    obtain ⟨x9, hx9, h⟩ := obi h
    have hkx9 := gtx hx9
    try simp only [List.length_take, List.length_drop, List.length_append, List.length_set, List.length_map, List.length_cons, List.length_nil, Nat.zero_add] at hkx9
    rcases of_if h with ⟨hb10, h⟩ | ⟨hb10, h⟩
    ·try simp only [hb8, hkhb8, hx9, hkx9, hb10, go_sem]
     obtain ⟨k12, hk12, h⟩ := withK_lk1 h
     try simp only [hb8, hkhb8, hx9, hkx9, hb10, go_sem]
     refine join_lk Try.prog G _ _ (B := Int) (fun b => k12 b = some r) (fun b => [(2, .one (.d (.k (Store.enc p0)))), (3, .one (.d (.k (Txn.enc p1)))), (7, .one (zi b)), (8, .one (.d (.i .i64 ((a5_2 : Nat) : Int)))), (31, .one (.p (.l 4 [(Store.enc p0)] 0 1))), (32, .one (.d (.l 6 (p0.Locks.map Lock.enc)))), (33, .one (.d (.i .i64 ((a5_2 : Nat) : Int)))), (34, .one (.p (.l 6 (p0.Locks.map Lock.enc) a5_2 0))), (35, .one (.p (.l 6 (p0.Locks.map Lock.enc) a5_2 3))), (36, .one (.d (.b x9.Write)))]) (fun b => []) ?_ (fun b11_1 h => ?_)
     ·rcases of_if h with ⟨hb13, h⟩ | ⟨hb13, h⟩
      ·try simp only [hb8, hkhb8, hx9, hkx9, hb10, hb13, go_sem]
       exact joinQ_c (IntKind.i64.wrap (a5_1 + 1)) h [] rfl (by simp only [hb8, hkhb8, hx9, hkx9, hb10, hb13, go_sem, List.map_append, List.map_cons, List.map_nil, Option.some.injEq, Prod.mk.injEq, SC.d.injEq, D.l.injEq, List.map_set])
      ·try simp only [hb8, hkhb8, hx9, hkx9, hb10, hb13, go_sem]
       exact joinQ_c (a5_1) h [] rfl (by simp only [hb8, hkhb8, hx9, hkx9, hb10, hb13, go_sem, List.map_append, List.map_cons, List.map_nil, Option.some.injEq, Prod.mk.injEq, SC.d.injEq, D.l.injEq, List.map_set])
     ·try dsimp only at h
      rw [hk12] at h
      have hw14 := wrap_succ_max hkx9 hl7
      try simp only [hkhb8, hx9, hkx9, hw14, go_sem]
      exact loopQ_c (b11_1, a5_2 + 1) h [] rfl (by simp only [hkhb8, hx9, hkx9, hw14, go_sem, List.map_append, List.map_cons, List.map_nil, Option.some.injEq, Prod.mk.injEq, SC.d.injEq, D.l.injEq, List.map_set])
    ·try simp only [hb8, hkhb8, hx9, hkx9, hb10, go_sem]
     obtain ⟨k16, hk16, h⟩ := withK_lk0 h
     try simp only [hb8, hkhb8, hx9, hkx9, hb10, go_sem]
     refine join_lk Try.prog G _ _ (B := Unit) (fun b => k16 = some r) (fun b => [(2, .one (.d (.k (Store.enc p0)))), (3, .one (.d (.k (Txn.enc p1)))), (7, .one (zi a5_1)), (8, .one (.d (.i .i64 ((a5_2 : Nat) : Int))))]) (fun b => []) ?_ (fun b h => ?_)
     ·try simp only [hb8, hkhb8, hx9, hkx9, hb10, go_sem]
      exact joinQ_c () h [] rfl (by simp only [hb8, hkhb8, hx9, hkx9, hb10, go_sem, List.map_append, List.map_cons, List.map_nil, Option.some.injEq, Prod.mk.injEq, SC.d.injEq, D.l.injEq, List.map_set])
     ·try dsimp only at h
      rw [hk16] at h
      have hw17 := wrap_succ_max hkx9 hl7
      try simp only [hkhb8, hx9, hkx9, hw17, go_sem]
      exact loopQ_c (a5_1, a5_2 + 1) h [] rfl (by simp only [hkhb8, hx9, hkx9, hw17, go_sem, List.map_append, List.map_cons, List.map_nil, Option.some.injEq, Prod.mk.injEq, SC.d.injEq, D.l.injEq, List.map_set])
   ·try simp only [hb8, go_sem]
    exact joinQ_c (a5_1) h [] rfl (by simp only [hb8, go_sem, List.map_append, List.map_cons, List.map_nil, Option.some.injEq, Prod.mk.injEq, SC.d.injEq, D.l.injEq, List.map_set])
  ·try dsimp only at h
   rw [hk4] at h
   simp only [Option.some.injEq] at h
   subst h
   try simp only [go_sem, List.map_append, List.map_cons, List.map_nil, List.map_set]
end Go.V.Dec
