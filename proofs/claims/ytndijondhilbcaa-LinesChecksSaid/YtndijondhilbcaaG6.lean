/- What Go's functions come to, as plain functions: part 6; no condition. -/
import Derived.Test.YtndijondhilbcaaG5
set_option linter.unusedVariables false
set_option linter.unusedSimpArgs false
namespace Go.V.Dec
open Go Go.Proofs
set_option maxRecDepth 100000
set_option maxHeartbeats 4000000
def reredoslaw_LinesChecks (p0 : Config) (p1 : Act) : Option (Bool) := (Option.bind (lines_Check p0 p1) fun v1 => (Option.bind (reredosref_ActFault p0 p1) fun v2 => (some (v1 == v2))))
def F5 : VFn := ⟨16, (.seq (.reg [⟨(some 2), .box 3 (.t 0), none⟩, ⟨(some 3), .box 12 (.t 1), none⟩, ⟨(some 4), .mv (.c (.one (.d (.b false)))), none⟩]) (.seq (.reg [⟨(some 7), .ld true 3 (.t 2), none⟩, ⟨(some 8), .ld true 12 (.t 3), none⟩, ⟨(some 9), .call 13 [(.t 7), (.t 8)], none⟩, ⟨(some 5), .mv (.t 9), none⟩]) (.seq (.reg [⟨(some 10), .ld true 3 (.t 2), none⟩, ⟨(some 11), .ld true 12 (.t 3), none⟩, ⟨(some 12), .call 14 [(.t 10), (.t 11)], none⟩, ⟨(some 6), .mv (.t 12), none⟩]) (.seq (.reg [⟨(some 13), .mv (.t 5), none⟩, ⟨(some 14), .mv (.t 6), none⟩, ⟨(some 15), .bin .i .eql (.t 13) (.t 14), none⟩, ⟨(some 4), .mv (.t 15), none⟩]) .ret)))), [.t 4]⟩
theorem low5 : lowF Try.prog 5 = some F5.strip := by kernel_rfl
theorem fok5 : fOk Try.prog 5 = true := by kernel_rfl
theorem reredoslaw_LinesChecks_ok (G : Nat → Option (List D)) (p0 : Config) (p1 : Act) (r : Bool) (h : reredoslaw_LinesChecks p0 p1 = some r) : FnRO Try.prog G 5 [.agg [.d (.i .i64 p0.Sites), .d (.l 2 (p0.Labels.map Label.enc)), .d (.i .i64 p0.Patience)], .agg [.d (.i .i64 p1.Kind), .d (.i .i64 p1.Site), .d (.i .i64 p1.To), .d (.i .i64 p1.Label), .d (.i .i64 p1.Pick), .d (.l 1 (p1.Keep.map encI)), .d (.i .i64 p1.Call.Kind), .d (.i .i64 p1.Call.N), .d (.i .i64 p1.Call.Label), .d (.i .i64 p1.Call.Key), .d (.i .i64 p1.Call.Value), .d (.s p1.Line)]] (fun rs => rs = [.one (.b r)]) := by
  refine FnRO.of' low5 fok5 (by simp [F5]) ?_
  rw [reredoslaw_LinesChecks] at h
  simp only [F5, go_sem, Nat.reduceAdd, Nat.reduceEqDiff, Nat.reduceLeDiff, Nat.reduceSub, reduceCtorEq, ↓reduceIte, Nat.reduceBEq, Int.reduceLT, Int.reduceLE, Int.reduceEq, Int.reduceBEq, Int.reduceBNe, Nat.reduceLT, Nat.reduceMul]
  obtain ⟨v1, hv1, h⟩ := Option.bind_eq_some_iff.1 h
  try simp only [go_sem, Nat.reduceAdd, Nat.reduceEqDiff, Nat.reduceLeDiff, Nat.reduceSub, reduceCtorEq, ↓reduceIte, Nat.reduceBEq, Int.reduceLT, Int.reduceLE, Int.reduceEq, Int.reduceBEq, Int.reduceBNe, Nat.reduceLT, Nat.reduceMul]
  refine CallV.ro false (lines_Check_ok G p0 p1 v1 hv1) rfl ?_
  rintro rs rfl
  refine ⟨.inl rfl, ?_⟩
  obtain ⟨v2, hv2, h⟩ := Option.bind_eq_some_iff.1 h
  try simp only [go_sem, Nat.reduceAdd, Nat.reduceEqDiff, Nat.reduceLeDiff, Nat.reduceSub, reduceCtorEq, ↓reduceIte, Nat.reduceBEq, Int.reduceLT, Int.reduceLE, Int.reduceEq, Int.reduceBEq, Int.reduceBNe, Nat.reduceLT, Nat.reduceMul]
  refine CallV.ro false (reredosref_ActFault_ok G p0 p1 v2 hv2) rfl ?_
  rintro rs rfl
  refine ⟨.inl rfl, ?_⟩
  simp only [Option.some.injEq] at h
  subst h
  try simp only [go_sem, Nat.reduceAdd, Nat.reduceEqDiff, Nat.reduceLeDiff, Nat.reduceSub, reduceCtorEq, ↓reduceIte, Nat.reduceBEq, Int.reduceLT, Int.reduceLE, Int.reduceEq, Int.reduceBEq, Int.reduceBNe, Nat.reduceLT, Nat.reduceMul, List.map_append, List.map_cons, List.map_nil, List.map_set]
end Go.V.Dec
