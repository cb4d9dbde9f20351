/- What Go's functions come to, as plain functions: part 5; no condition. -/
import Derived.Test.YtndijondhilbcaaG4
set_option linter.unusedVariables false
set_option linter.unusedSimpArgs false
namespace Go.V.Dec
open Go Go.Proofs
set_option maxRecDepth 100000
set_option maxHeartbeats 4000000
def reredosref_ActFault_L1 (p1 : Act) (k18 : Option (Int)) : Nat → Nat → Option (Int)
  | 0, _ => none
  | n20 + 1, a19_1 => (if (decide (a19_1 < p1.Keep.length)) = true then (Option.bind (p1.Keep[a19_1]?) fun x23 => (Option.bind (reredosref_In x23 0 6000) fun v24 => (if (!v24) = true then (some 2) else (reredosref_ActFault_L1 p1 k18 n20 (a19_1 + 1))))) else k18)
def reredosref_ActFault (p0 : Config) (p1 : Act) : Option (Int) := (Option.bind (reredosref_ConfigFault p0) fun v1 => (if (v1 != 0) = true then (some v1) else (Option.bind (reredosref_In p1.Kind 1 8) fun v3 => (if (!v3) = true then (some 3) else (Option.bind (reredosref_In p1.Site 0 (IntKind.i64.wrap (p0.Sites - 1))) fun v5 => (if (!v5) = true then (some 2) else (Option.bind (reredosref_In p1.To 0 (IntKind.i64.wrap (p0.Sites - 1))) fun v7 => (if (!v7) = true then (some 2) else (Option.bind (reredosref_labelMay p0 p1.Label) fun v9 => (if (!v9) = true then (some 2) else (Option.bind (reredosref_In p1.Pick 0 1048576) fun v11 => (if (!v11) = true then (some 2) else (if (decide (p1.Keep.length > p0.Labels.length)) = true then (some 2) else (if (decide (((p1.Line.size : Nat) : Int) > 60)) = true then (some 2) else (withK (Option.bind (reredosref_In p1.Kind 2 4) fun v27 => (if (p1.Kind == 5) = true then (if (p1.Site != 0) = true then (some 4) else (if (!v27) = true then (if (p1.To != 0) = true then (some 4) else (if (p1.Pick != 0) = true then (some 4) else (if (p1.Kind != 1) = true then (if (p1.Kind != 8) = true then (if (p1.Label != 0) = true then (some 4) else (if (p1.Kind != 6) = true then (if (decide (((p1.Keep.length : Nat) : Int) > 0)) = true then (some 4) else (if (!((p1.Call.Kind == 0) && ((p1.Call.N == 0) && ((p1.Call.Label == 0) && ((p1.Call.Key == 0) && (p1.Call.Value == 0)))))) = true then (some 4) else (if (!(p1.Line.toList == (⟨#[]⟩ : ByteArray).toList)) = true then (some 4) else (if (p1.Kind == 1) = true then (Option.bind (reredosref_callMay p1.Call) fun v42 => (some v42)) else (some 0))))) else (if (!((p1.Call.Kind == 0) && ((p1.Call.N == 0) && ((p1.Call.Label == 0) && ((p1.Call.Key == 0) && (p1.Call.Value == 0)))))) = true then (some 4) else (if (!(p1.Line.toList == (⟨#[]⟩ : ByteArray).toList)) = true then (some 4) else (if (p1.Kind == 1) = true then (Option.bind (reredosref_callMay p1.Call) fun v46 => (some v46)) else (some 0)))))) else (if (p1.Kind != 6) = true then (if (decide (((p1.Keep.length : Nat) : Int) > 0)) = true then (some 4) else (if (!((p1.Call.Kind == 0) && ((p1.Call.N == 0) && ((p1.Call.Label == 0) && ((p1.Call.Key == 0) && (p1.Call.Value == 0)))))) = true then (some 4) else (if (p1.Kind == 1) = true then (Option.bind (reredosref_callMay p1.Call) fun v52 => (some v52)) else (some 0)))) else (if (!((p1.Call.Kind == 0) && ((p1.Call.N == 0) && ((p1.Call.Label == 0) && ((p1.Call.Key == 0) && (p1.Call.Value == 0)))))) = true then (some 4) else (if (p1.Kind == 1) = true then (Option.bind (reredosref_callMay p1.Call) fun v55 => (some v55)) else (some 0))))) else (if (p1.Kind != 6) = true then (if (decide (((p1.Keep.length : Nat) : Int) > 0)) = true then (some 4) else (if (p1.Kind != 8) = true then (if (!(p1.Line.toList == (⟨#[]⟩ : ByteArray).toList)) = true then (some 4) else (if (p1.Kind == 1) = true then (Option.bind (reredosref_callMay p1.Call) fun v62 => (some v62)) else (some 0))) else (if (p1.Kind == 1) = true then (Option.bind (reredosref_callMay p1.Call) fun v64 => (some v64)) else (some 0)))) else (if (p1.Kind != 8) = true then (if (!(p1.Line.toList == (⟨#[]⟩ : ByteArray).toList)) = true then (some 4) else (if (p1.Kind == 1) = true then (Option.bind (reredosref_callMay p1.Call) fun v68 => (some v68)) else (some 0))) else (if (p1.Kind == 1) = true then (Option.bind (reredosref_callMay p1.Call) fun v70 => (some v70)) else (some 0))))))) else (if (p1.Kind != 6) = true then (if (decide (((p1.Keep.length : Nat) : Int) > 0)) = true then (some 4) else (if (p1.Kind != 1) = true then (if (!((p1.Call.Kind == 0) && ((p1.Call.N == 0) && ((p1.Call.Label == 0) && ((p1.Call.Key == 0) && (p1.Call.Value == 0)))))) = true then (some 4) else (if (p1.Kind != 8) = true then (if (!(p1.Line.toList == (⟨#[]⟩ : ByteArray).toList)) = true then (some 4) else (if (p1.Kind == 1) = true then (Option.bind (reredosref_callMay p1.Call) fun v79 => (some v79)) else (some 0))) else (if (p1.Kind == 1) = true then (Option.bind (reredosref_callMay p1.Call) fun v81 => (some v81)) else (some 0)))) else (if (p1.Kind != 8) = true then (if (!(p1.Line.toList == (⟨#[]⟩ : ByteArray).toList)) = true then (some 4) else (if (p1.Kind == 1) = true then (Option.bind (reredosref_callMay p1.Call) fun v85 => (some v85)) else (some 0))) else (if (p1.Kind == 1) = true then (Option.bind (reredosref_callMay p1.Call) fun v87 => (some v87)) else (some 0))))) else (if (p1.Kind != 1) = true then (if (!((p1.Call.Kind == 0) && ((p1.Call.N == 0) && ((p1.Call.Label == 0) && ((p1.Call.Key == 0) && (p1.Call.Value == 0)))))) = true then (some 4) else (if (p1.Kind != 8) = true then (if (!(p1.Line.toList == (⟨#[]⟩ : ByteArray).toList)) = true then (some 4) else (if (p1.Kind == 1) = true then (Option.bind (reredosref_callMay p1.Call) fun v93 => (some v93)) else (some 0))) else (if (p1.Kind == 1) = true then (Option.bind (reredosref_callMay p1.Call) fun v95 => (some v95)) else (some 0)))) else (if (p1.Kind != 8) = true then (if (!(p1.Line.toList == (⟨#[]⟩ : ByteArray).toList)) = true then (some 4) else (if (p1.Kind == 1) = true then (Option.bind (reredosref_callMay p1.Call) fun v99 => (some v99)) else (some 0))) else (if (p1.Kind == 1) = true then (Option.bind (reredosref_callMay p1.Call) fun v101 => (some v101)) else (some 0))))))) else (if (!v27) = true then (if (p1.To != 0) = true then (some 4) else (if (p1.Pick != 0) = true then (some 4) else (if (p1.Kind != 1) = true then (if (p1.Kind != 8) = true then (if (p1.Label != 0) = true then (some 4) else (if (p1.Kind != 6) = true then (if (decide (((p1.Keep.length : Nat) : Int) > 0)) = true then (some 4) else (if (!((p1.Call.Kind == 0) && ((p1.Call.N == 0) && ((p1.Call.Label == 0) && ((p1.Call.Key == 0) && (p1.Call.Value == 0)))))) = true then (some 4) else (if (!(p1.Line.toList == (⟨#[]⟩ : ByteArray).toList)) = true then (some 4) else (if (p1.Kind == 1) = true then (Option.bind (reredosref_callMay p1.Call) fun v114 => (some v114)) else (some 0))))) else (if (!((p1.Call.Kind == 0) && ((p1.Call.N == 0) && ((p1.Call.Label == 0) && ((p1.Call.Key == 0) && (p1.Call.Value == 0)))))) = true then (some 4) else (if (!(p1.Line.toList == (⟨#[]⟩ : ByteArray).toList)) = true then (some 4) else (if (p1.Kind == 1) = true then (Option.bind (reredosref_callMay p1.Call) fun v118 => (some v118)) else (some 0)))))) else (if (p1.Kind != 6) = true then (if (decide (((p1.Keep.length : Nat) : Int) > 0)) = true then (some 4) else (if (!((p1.Call.Kind == 0) && ((p1.Call.N == 0) && ((p1.Call.Label == 0) && ((p1.Call.Key == 0) && (p1.Call.Value == 0)))))) = true then (some 4) else (if (p1.Kind == 1) = true then (Option.bind (reredosref_callMay p1.Call) fun v124 => (some v124)) else (some 0)))) else (if (!((p1.Call.Kind == 0) && ((p1.Call.N == 0) && ((p1.Call.Label == 0) && ((p1.Call.Key == 0) && (p1.Call.Value == 0)))))) = true then (some 4) else (if (p1.Kind == 1) = true then (Option.bind (reredosref_callMay p1.Call) fun v127 => (some v127)) else (some 0))))) else (if (p1.Kind != 6) = true then (if (decide (((p1.Keep.length : Nat) : Int) > 0)) = true then (some 4) else (if (p1.Kind != 8) = true then (if (!(p1.Line.toList == (⟨#[]⟩ : ByteArray).toList)) = true then (some 4) else (if (p1.Kind == 1) = true then (Option.bind (reredosref_callMay p1.Call) fun v134 => (some v134)) else (some 0))) else (if (p1.Kind == 1) = true then (Option.bind (reredosref_callMay p1.Call) fun v136 => (some v136)) else (some 0)))) else (if (p1.Kind != 8) = true then (if (!(p1.Line.toList == (⟨#[]⟩ : ByteArray).toList)) = true then (some 4) else (if (p1.Kind == 1) = true then (Option.bind (reredosref_callMay p1.Call) fun v140 => (some v140)) else (some 0))) else (if (p1.Kind == 1) = true then (Option.bind (reredosref_callMay p1.Call) fun v142 => (some v142)) else (some 0))))))) else (if (p1.Kind != 6) = true then (if (decide (((p1.Keep.length : Nat) : Int) > 0)) = true then (some 4) else (if (p1.Kind != 1) = true then (if (!((p1.Call.Kind == 0) && ((p1.Call.N == 0) && ((p1.Call.Label == 0) && ((p1.Call.Key == 0) && (p1.Call.Value == 0)))))) = true then (some 4) else (if (p1.Kind != 8) = true then (if (!(p1.Line.toList == (⟨#[]⟩ : ByteArray).toList)) = true then (some 4) else (if (p1.Kind == 1) = true then (Option.bind (reredosref_callMay p1.Call) fun v151 => (some v151)) else (some 0))) else (if (p1.Kind == 1) = true then (Option.bind (reredosref_callMay p1.Call) fun v153 => (some v153)) else (some 0)))) else (if (p1.Kind != 8) = true then (if (!(p1.Line.toList == (⟨#[]⟩ : ByteArray).toList)) = true then (some 4) else (if (p1.Kind == 1) = true then (Option.bind (reredosref_callMay p1.Call) fun v157 => (some v157)) else (some 0))) else (if (p1.Kind == 1) = true then (Option.bind (reredosref_callMay p1.Call) fun v159 => (some v159)) else (some 0))))) else (if (p1.Kind != 1) = true then (if (!((p1.Call.Kind == 0) && ((p1.Call.N == 0) && ((p1.Call.Label == 0) && ((p1.Call.Key == 0) && (p1.Call.Value == 0)))))) = true then (some 4) else (if (p1.Kind != 8) = true then (if (!(p1.Line.toList == (⟨#[]⟩ : ByteArray).toList)) = true then (some 4) else (if (p1.Kind == 1) = true then (Option.bind (reredosref_callMay p1.Call) fun v165 => (some v165)) else (some 0))) else (if (p1.Kind == 1) = true then (Option.bind (reredosref_callMay p1.Call) fun v167 => (some v167)) else (some 0)))) else (if (p1.Kind != 8) = true then (if (!(p1.Line.toList == (⟨#[]⟩ : ByteArray).toList)) = true then (some 4) else (if (p1.Kind == 1) = true then (Option.bind (reredosref_callMay p1.Call) fun v171 => (some v171)) else (some 0))) else (if (p1.Kind == 1) = true then (Option.bind (reredosref_callMay p1.Call) fun v173 => (some v173)) else (some 0)))))))) fun k18 => (reredosref_ActFault_L1 p1 k18 (p1.Keep.length + 1) 0))))))))))))))))
def F14 : VFn := ⟨157, (.seq (.reg [⟨(some 2), .box 3 (.t 0), none⟩, ⟨(some 3), .box 12 (.t 1), none⟩, ⟨(some 4), .mv (.c (.one (.d (.i .i64 0)))), none⟩]) (.seq (.reg [⟨(some 8), .ld true 3 (.t 2), none⟩, ⟨(some 9), .call 26 [(.t 8)], none⟩, ⟨(some 5), .mv (.t 9), none⟩]) (.seq (.seq (.reg [⟨(some 10), .mv (.t 5), none⟩, ⟨(some 11), .bin .i .neq (.t 10) (.c (.one (.d (.i .i64 0)))), none⟩]) (.cond (.t 11) (.seq (.reg [⟨(some 12), .mv (.t 5), none⟩, ⟨(some 4), .mv (.t 12), none⟩]) .ret) .skip)) (.seq (.seq (.reg [⟨(some 13), .fa 0 (.t 3), none⟩, ⟨(some 14), .ld false 1 (.t 13), none⟩, ⟨(some 15), .call 27 [(.t 14), (.c (.one (.d (.i .i64 1)))), (.c (.one (.d (.i .i64 8))))], none⟩, ⟨(some 16), .un .not (.t 15), none⟩]) (.cond (.t 16) (.seq (.reg [⟨(some 4), .mv (.c (.one (.d (.i .i64 3)))), none⟩]) .ret) .skip)) (.seq (.seq (.reg [⟨(some 17), .fa 1 (.t 3), none⟩, ⟨(some 18), .ld false 1 (.t 17), none⟩, ⟨(some 19), .fa 0 (.t 2), none⟩, ⟨(some 20), .ld false 1 (.t 19), none⟩, ⟨(some 21), .bin .i .sub (.t 20) (.c (.one (.d (.i .i64 1)))), none⟩, ⟨(some 22), .call 27 [(.t 18), (.c (.one (.d (.i .i64 0)))), (.t 21)], none⟩, ⟨(some 23), .un .not (.t 22), none⟩, ⟨(some 24), .mv (.t 23), none⟩, ⟨(some 25), .fa 2 (.t 3), (some (24, false))⟩, ⟨(some 26), .ld false 1 (.t 25), (some (24, false))⟩, ⟨(some 27), .fa 0 (.t 2), (some (24, false))⟩, ⟨(some 28), .ld false 1 (.t 27), (some (24, false))⟩, ⟨(some 29), .bin .i .sub (.t 28) (.c (.one (.d (.i .i64 1)))), (some (24, false))⟩, ⟨(some 30), .call 27 [(.t 26), (.c (.one (.d (.i .i64 0)))), (.t 29)], (some (24, false))⟩, ⟨(some 31), .un .not (.t 30), (some (24, false))⟩, ⟨(some 32), .pick (.t 24) (.c (.one (.d (.b true)))) (.t 31), none⟩, ⟨(some 33), .mv (.t 32), none⟩, ⟨(some 34), .ld true 3 (.t 2), (some (33, false))⟩, ⟨(some 35), .fa 3 (.t 3), (some (33, false))⟩, ⟨(some 36), .ld false 1 (.t 35), (some (33, false))⟩, ⟨(some 37), .call 38 [(.t 34), (.t 36)], (some (33, false))⟩, ⟨(some 38), .un .not (.t 37), (some (33, false))⟩, ⟨(some 39), .pick (.t 33) (.c (.one (.d (.b true)))) (.t 38), none⟩, ⟨(some 40), .mv (.t 39), none⟩, ⟨(some 41), .fa 4 (.t 3), (some (40, false))⟩, ⟨(some 42), .ld false 1 (.t 41), (some (40, false))⟩, ⟨(some 43), .call 27 [(.t 42), (.c (.one (.d (.i .i64 0)))), (.c (.one (.d (.i .i64 1048576))))], (some (40, false))⟩, ⟨(some 44), .un .not (.t 43), (some (40, false))⟩, ⟨(some 45), .pick (.t 40) (.c (.one (.d (.b true)))) (.t 44), none⟩, ⟨(some 46), .mv (.t 45), none⟩, ⟨(some 47), .fa 5 (.t 3), (some (46, false))⟩, ⟨(some 48), .ld false 1 (.t 47), (some (46, false))⟩, ⟨(some 49), .len (.t 48), (some (46, false))⟩, ⟨(some 50), .fa 1 (.t 2), (some (46, false))⟩, ⟨(some 51), .ld false 1 (.t 50), (some (46, false))⟩, ⟨(some 52), .len (.t 51), (some (46, false))⟩, ⟨(some 53), .bin .i .gtr (.t 49) (.t 52), (some (46, false))⟩, ⟨(some 54), .pick (.t 46) (.c (.one (.d (.b true)))) (.t 53), none⟩, ⟨(some 55), .mv (.t 54), none⟩, ⟨(some 56), .fa 11 (.t 3), (some (55, false))⟩, ⟨(some 57), .ld false 1 (.t 56), (some (55, false))⟩, ⟨(some 58), .lens (.t 57), (some (55, false))⟩, ⟨(some 59), .bin .i .gtr (.t 58) (.c (.one (.d (.i .i64 60)))), (some (55, false))⟩, ⟨(some 60), .pick (.t 55) (.c (.one (.d (.b true)))) (.t 59), none⟩]) (.cond (.t 60) (.seq (.reg [⟨(some 4), .mv (.c (.one (.d (.i .i64 2)))), none⟩]) .ret) .skip)) (.seq (.seq (.reg [⟨(some 6), .mv (.c (.one (.d (.i .i64 0)))), none⟩]) (.wk (.block 0 (.loop (.seq (.seq (.reg [⟨(some 61), .mv (.t 6), none⟩, ⟨(some 62), .fa 5 (.t 3), none⟩, ⟨(some 63), .ld false 1 (.t 62), none⟩, ⟨(some 64), .len (.t 63), none⟩, ⟨(some 65), .bin .i .lss (.t 61) (.t 64), none⟩]) (.cond (.t 65) .skip (.exit 0))) (.seq (.block 1 (.seq (.reg [⟨(some 68), .fa 5 (.t 3), none⟩, ⟨(some 69), .ld false 1 (.t 68), none⟩, ⟨(some 70), .mv (.t 6), none⟩, ⟨(some 71), .ia 1 (.t 69) (.t 70), none⟩, ⟨(some 72), .ld false 1 (.t 71), none⟩, ⟨(some 73), .call 27 [(.t 72), (.c (.one (.d (.i .i64 0)))), (.c (.one (.d (.i .i64 6000))))], none⟩, ⟨(some 74), .un .not (.t 73), none⟩]) (.cond (.t 74) (.seq (.reg [⟨(some 4), .mv (.c (.one (.d (.i .i64 2)))), none⟩]) .ret) .skip))) (.reg [⟨(some 66), .mv (.t 6), none⟩, ⟨(some 67), .bin .i .add (.t 66) (.c (.one (.d (.i .i64 1)))), none⟩, ⟨(some 6), .mv (.t 67), none⟩]))))))) (.seq (.reg [⟨(some 75), .fa 0 (.t 3), none⟩, ⟨(some 76), .ld false 1 (.t 75), none⟩, ⟨(some 77), .call 27 [(.t 76), (.c (.one (.d (.i .i64 2)))), (.c (.one (.d (.i .i64 4))))], none⟩, ⟨(some 7), .mv (.t 77), none⟩]) (.seq (.seq (.reg [⟨(some 78), .fa 0 (.t 3), none⟩, ⟨(some 79), .ld false 1 (.t 78), none⟩, ⟨(some 80), .bin .i .eql (.t 79) (.c (.one (.d (.i .i64 5)))), none⟩, ⟨(some 81), .mv (.t 80), none⟩, ⟨(some 82), .fa 1 (.t 3), (some (81, true))⟩, ⟨(some 83), .ld false 1 (.t 82), (some (81, true))⟩, ⟨(some 84), .bin .i .neq (.t 83) (.c (.one (.d (.i .i64 0)))), (some (81, true))⟩, ⟨(some 85), .pick (.t 81) (.t 84) (.c (.one (.d (.b false)))), none⟩, ⟨(some 86), .mv (.t 85), none⟩, ⟨(some 87), .mv (.t 7), (some (86, false))⟩, ⟨(some 88), .un .not (.t 87), (some (86, false))⟩, ⟨(some 89), .mv (.t 88), (some (86, false))⟩, ⟨(some 90), .fa 2 (.t 3), (some (89, true))⟩, ⟨(some 91), .ld false 1 (.t 90), (some (89, true))⟩, ⟨(some 92), .bin .i .neq (.t 91) (.c (.one (.d (.i .i64 0)))), (some (89, true))⟩, ⟨(some 93), .mv (.t 92), (some (89, true))⟩, ⟨(some 94), .fa 4 (.t 3), (some (93, false))⟩, ⟨(some 95), .ld false 1 (.t 94), (some (93, false))⟩, ⟨(some 96), .bin .i .neq (.t 95) (.c (.one (.d (.i .i64 0)))), (some (93, false))⟩, ⟨(some 97), .pick (.t 93) (.c (.one (.d (.b true)))) (.t 96), (some (89, true))⟩, ⟨(some 98), .pick (.t 89) (.t 97) (.c (.one (.d (.b false)))), (some (86, false))⟩, ⟨(some 99), .pick (.t 86) (.c (.one (.d (.b true)))) (.t 98), none⟩, ⟨(some 100), .mv (.t 99), none⟩, ⟨(some 101), .mv (.t 7), (some (100, false))⟩, ⟨(some 102), .un .not (.t 101), (some (100, false))⟩, ⟨(some 103), .mv (.t 102), (some (100, false))⟩, ⟨(some 104), .fa 0 (.t 3), (some (103, true))⟩, ⟨(some 105), .ld false 1 (.t 104), (some (103, true))⟩, ⟨(some 106), .bin .i .neq (.t 105) (.c (.one (.d (.i .i64 1)))), (some (103, true))⟩, ⟨(some 107), .pick (.t 103) (.t 106) (.c (.one (.d (.b false)))), (some (100, false))⟩, ⟨(some 108), .mv (.t 107), (some (100, false))⟩, ⟨(some 109), .fa 0 (.t 3), (some (108, true))⟩, ⟨(some 110), .ld false 1 (.t 109), (some (108, true))⟩, ⟨(some 111), .bin .i .neq (.t 110) (.c (.one (.d (.i .i64 8)))), (some (108, true))⟩, ⟨(some 112), .pick (.t 108) (.t 111) (.c (.one (.d (.b false)))), (some (100, false))⟩, ⟨(some 113), .mv (.t 112), (some (100, false))⟩, ⟨(some 114), .fa 3 (.t 3), (some (113, true))⟩, ⟨(some 115), .ld false 1 (.t 114), (some (113, true))⟩, ⟨(some 116), .bin .i .neq (.t 115) (.c (.one (.d (.i .i64 0)))), (some (113, true))⟩, ⟨(some 117), .pick (.t 113) (.t 116) (.c (.one (.d (.b false)))), (some (100, false))⟩, ⟨(some 118), .pick (.t 100) (.c (.one (.d (.b true)))) (.t 117), none⟩, ⟨(some 119), .mv (.t 118), none⟩, ⟨(some 120), .fa 0 (.t 3), (some (119, false))⟩, ⟨(some 121), .ld false 1 (.t 120), (some (119, false))⟩, ⟨(some 122), .bin .i .neq (.t 121) (.c (.one (.d (.i .i64 6)))), (some (119, false))⟩, ⟨(some 123), .mv (.t 122), (some (119, false))⟩, ⟨(some 124), .fa 5 (.t 3), (some (123, true))⟩, ⟨(some 125), .ld false 1 (.t 124), (some (123, true))⟩, ⟨(some 126), .len (.t 125), (some (123, true))⟩, ⟨(some 127), .bin .i .gtr (.t 126) (.c (.one (.d (.i .i64 0)))), (some (123, true))⟩, ⟨(some 128), .pick (.t 123) (.t 127) (.c (.one (.d (.b false)))), (some (119, false))⟩, ⟨(some 129), .pick (.t 119) (.c (.one (.d (.b true)))) (.t 128), none⟩, ⟨(some 130), .mv (.t 129), none⟩, ⟨(some 131), .fa 0 (.t 3), (some (130, false))⟩, ⟨(some 132), .ld false 1 (.t 131), (some (130, false))⟩, ⟨(some 133), .bin .i .neq (.t 132) (.c (.one (.d (.i .i64 1)))), (some (130, false))⟩, ⟨(some 134), .mv (.t 133), (some (130, false))⟩, ⟨(some 135), .fa 6 (.t 3), (some (134, true))⟩, ⟨(some 136), .ld true 5 (.t 135), (some (134, true))⟩, ⟨(some 137), .build [(.d (.i .i64 0)), (.d (.i .i64 0)), (.d (.i .i64 0)), (.d (.i .i64 0)), (.d (.i .i64 0))] [], (some (134, true))⟩, ⟨(some 138), .eqs true [.i, .i, .i, .i, .i] (.t 136) (.t 137), (some (134, true))⟩, ⟨(some 139), .pick (.t 134) (.t 138) (.c (.one (.d (.b false)))), (some (130, false))⟩, ⟨(some 140), .pick (.t 130) (.c (.one (.d (.b true)))) (.t 139), none⟩, ⟨(some 141), .mv (.t 140), none⟩, ⟨(some 142), .fa 0 (.t 3), (some (141, false))⟩, ⟨(some 143), .ld false 1 (.t 142), (some (141, false))⟩, ⟨(some 144), .bin .i .neq (.t 143) (.c (.one (.d (.i .i64 8)))), (some (141, false))⟩, ⟨(some 145), .mv (.t 144), (some (141, false))⟩, ⟨(some 146), .fa 11 (.t 3), (some (145, true))⟩, ⟨(some 147), .ld false 1 (.t 146), (some (145, true))⟩, ⟨(some 148), .bin .s .neq (.t 147) (.c (.one (.d (.s ⟨#[]⟩)))), (some (145, true))⟩, ⟨(some 149), .pick (.t 145) (.t 148) (.c (.one (.d (.b false)))), (some (141, false))⟩, ⟨(some 150), .pick (.t 141) (.c (.one (.d (.b true)))) (.t 149), none⟩]) (.cond (.t 150) (.seq (.reg [⟨(some 4), .mv (.c (.one (.d (.i .i64 4)))), none⟩]) .ret) .skip)) (.seq (.seq (.reg [⟨(some 151), .fa 0 (.t 3), none⟩, ⟨(some 152), .ld false 1 (.t 151), none⟩, ⟨(some 153), .bin .i .eql (.t 152) (.c (.one (.d (.i .i64 1)))), none⟩]) (.cond (.t 153) (.seq (.reg [⟨(some 154), .fa 6 (.t 3), none⟩, ⟨(some 155), .ld true 5 (.t 154), none⟩, ⟨(some 156), .call 39 [(.t 155)], none⟩, ⟨(some 4), .mv (.t 156), none⟩]) .ret) .skip)) (.seq (.reg [⟨(some 4), .mv (.c (.one (.d (.i .i64 0)))), none⟩]) .ret)))))))))), [.t 4]⟩
theorem low14 : lowF Try.prog 14 = some F14.strip := by kernel_rfl
theorem fok14 : fOk Try.prog 14 = true := by kernel_rfl
theorem reredosref_ActFault_ok (G : Nat → Option (List D)) (p0 : Config) (p1 : Act) (r : Int) (h : reredosref_ActFault p0 p1 = some r) : FnRO Try.prog G 14 [.agg [.d (.i .i64 p0.Sites), .d (.l 2 (p0.Labels.map Label.enc)), .d (.i .i64 p0.Patience)], .agg [.d (.i .i64 p1.Kind), .d (.i .i64 p1.Site), .d (.i .i64 p1.To), .d (.i .i64 p1.Label), .d (.i .i64 p1.Pick), .d (.l 1 (p1.Keep.map encI)), .d (.i .i64 p1.Call.Kind), .d (.i .i64 p1.Call.N), .d (.i .i64 p1.Call.Label), .d (.i .i64 p1.Call.Key), .d (.i .i64 p1.Call.Value), .d (.s p1.Line)]] (fun rs => rs = [.one (.i .i64 r)]) := by
  refine FnRO.of' low14 fok14 (by simp [F14]) ?_
  rw [reredosref_ActFault] at h
  simp only [F14, go_sem, Nat.reduceAdd, Nat.reduceEqDiff, Nat.reduceLeDiff, Nat.reduceSub, reduceCtorEq, ↓reduceIte, Nat.reduceBEq, Int.reduceLT, Int.reduceLE, Int.reduceEq, Int.reduceBEq, Int.reduceBNe, Nat.reduceLT, Nat.reduceMul]
  obtain ⟨v1, hv1, h⟩ := Option.bind_eq_some_iff.1 h
  try simp only [go_sem, Nat.reduceAdd, Nat.reduceEqDiff, Nat.reduceLeDiff, Nat.reduceSub, reduceCtorEq, ↓reduceIte, Nat.reduceBEq, Int.reduceLT, Int.reduceLE, Int.reduceEq, Int.reduceBEq, Int.reduceBNe, Nat.reduceLT, Nat.reduceMul]
  refine CallV.ro false (reredosref_ConfigFault_ok G p0 v1 hv1) rfl ?_
  rintro rs rfl
  refine ⟨.inl rfl, ?_⟩
  rcases of_if h with ⟨hb2, h⟩ | ⟨hb2, h⟩
  · simp only [Option.some.injEq] at h
    subst h
    try simp only [hb2, go_sem, Nat.reduceAdd, Nat.reduceEqDiff, Nat.reduceLeDiff, Nat.reduceSub, reduceCtorEq, ↓reduceIte, Nat.reduceBEq, Int.reduceLT, Int.reduceLE, Int.reduceEq, Int.reduceBEq, Int.reduceBNe, Nat.reduceLT, Nat.reduceMul, List.map_append, List.map_cons, List.map_nil, List.map_set]
  · obtain ⟨v3, hv3, h⟩ := Option.bind_eq_some_iff.1 h
    try simp only [hb2, go_sem, Nat.reduceAdd, Nat.reduceEqDiff, Nat.reduceLeDiff, Nat.reduceSub, reduceCtorEq, ↓reduceIte, Nat.reduceBEq, Int.reduceLT, Int.reduceLE, Int.reduceEq, Int.reduceBEq, Int.reduceBNe, Nat.reduceLT, Nat.reduceMul]
    refine CallV.ro false (reredosref_In_ok G p1.Kind 1 8 v3 hv3) rfl ?_
    rintro rs rfl
    refine ⟨.inl rfl, ?_⟩
    rcases of_if h with ⟨hb4, h⟩ | ⟨hb4, h⟩
    · have hkhb4 := not_eq_t hb4
      simp only [Option.some.injEq] at h
      subst h
      try simp only [hb2, hb4, hkhb4, go_sem, Nat.reduceAdd, Nat.reduceEqDiff, Nat.reduceLeDiff, Nat.reduceSub, reduceCtorEq, ↓reduceIte, Nat.reduceBEq, Int.reduceLT, Int.reduceLE, Int.reduceEq, Int.reduceBEq, Int.reduceBNe, Nat.reduceLT, Nat.reduceMul, List.map_append, List.map_cons, List.map_nil, List.map_set]
    · have hkhb4 := not_eq_f hb4
      obtain ⟨v5, hv5, h⟩ := Option.bind_eq_some_iff.1 h
      try simp only [hb2, hb4, hkhb4, go_sem, Nat.reduceAdd, Nat.reduceEqDiff, Nat.reduceLeDiff, Nat.reduceSub, reduceCtorEq, ↓reduceIte, Nat.reduceBEq, Int.reduceLT, Int.reduceLE, Int.reduceEq, Int.reduceBEq, Int.reduceBNe, Nat.reduceLT, Nat.reduceMul]
      refine CallV.ro false (reredosref_In_ok G p1.Site 0 (IntKind.i64.wrap (p0.Sites - 1)) v5 hv5) rfl ?_
      rintro rs rfl
      refine ⟨.inl rfl, ?_⟩
      rcases of_if h with ⟨hb6, h⟩ | ⟨hb6, h⟩
      · have hkhb6 := not_eq_t hb6
        simp only [Option.some.injEq] at h
        subst h
        try simp only [hb2, hb4, hkhb4, hb6, hkhb6, go_sem, Nat.reduceAdd, Nat.reduceEqDiff, Nat.reduceLeDiff, Nat.reduceSub, reduceCtorEq, ↓reduceIte, Nat.reduceBEq, Int.reduceLT, Int.reduceLE, Int.reduceEq, Int.reduceBEq, Int.reduceBNe, Nat.reduceLT, Nat.reduceMul, List.map_append, List.map_cons, List.map_nil, List.map_set]
      · have hkhb6 := not_eq_f hb6
        obtain ⟨v7, hv7, h⟩ := Option.bind_eq_some_iff.1 h
        try simp only [hb2, hb4, hkhb4, hb6, hkhb6, go_sem, Nat.reduceAdd, Nat.reduceEqDiff, Nat.reduceLeDiff, Nat.reduceSub, reduceCtorEq, ↓reduceIte, Nat.reduceBEq, Int.reduceLT, Int.reduceLE, Int.reduceEq, Int.reduceBEq, Int.reduceBNe, Nat.reduceLT, Nat.reduceMul]
        refine CallV.ro false (reredosref_In_ok G p1.To 0 (IntKind.i64.wrap (p0.Sites - 1)) v7 hv7) rfl ?_
        rintro rs rfl
        refine ⟨.inl rfl, ?_⟩
        rcases of_if h with ⟨hb8, h⟩ | ⟨hb8, h⟩
        · have hkhb8 := not_eq_t hb8
          simp only [Option.some.injEq] at h
          subst h
          try simp only [hb2, hb4, hkhb4, hb6, hkhb6, hb8, hkhb8, go_sem, Nat.reduceAdd, Nat.reduceEqDiff, Nat.reduceLeDiff, Nat.reduceSub, reduceCtorEq, ↓reduceIte, Nat.reduceBEq, Int.reduceLT, Int.reduceLE, Int.reduceEq, Int.reduceBEq, Int.reduceBNe, Nat.reduceLT, Nat.reduceMul, List.map_append, List.map_cons, List.map_nil, List.map_set]
        · have hkhb8 := not_eq_f hb8
          obtain ⟨v9, hv9, h⟩ := Option.bind_eq_some_iff.1 h
          try simp only [hb2, hb4, hkhb4, hb6, hkhb6, hb8, hkhb8, go_sem, Nat.reduceAdd, Nat.reduceEqDiff, Nat.reduceLeDiff, Nat.reduceSub, reduceCtorEq, ↓reduceIte, Nat.reduceBEq, Int.reduceLT, Int.reduceLE, Int.reduceEq, Int.reduceBEq, Int.reduceBNe, Nat.reduceLT, Nat.reduceMul]
          refine CallV.ro false (reredosref_labelMay_ok G p0 p1.Label v9 hv9) rfl ?_
          rintro rs rfl
          refine ⟨.inl rfl, ?_⟩
          rcases of_if h with ⟨hb10, h⟩ | ⟨hb10, h⟩
          · have hkhb10 := not_eq_t hb10
            simp only [Option.some.injEq] at h
            subst h
            try simp only [hb2, hb4, hkhb4, hb6, hkhb6, hb8, hkhb8, hb10, hkhb10, go_sem, Nat.reduceAdd, Nat.reduceEqDiff, Nat.reduceLeDiff, Nat.reduceSub, reduceCtorEq, ↓reduceIte, Nat.reduceBEq, Int.reduceLT, Int.reduceLE, Int.reduceEq, Int.reduceBEq, Int.reduceBNe, Nat.reduceLT, Nat.reduceMul, List.map_append, List.map_cons, List.map_nil, List.map_set]
          · have hkhb10 := not_eq_f hb10
            obtain ⟨v11, hv11, h⟩ := Option.bind_eq_some_iff.1 h
            try simp only [hb2, hb4, hkhb4, hb6, hkhb6, hb8, hkhb8, hb10, hkhb10, go_sem, Nat.reduceAdd, Nat.reduceEqDiff, Nat.reduceLeDiff, Nat.reduceSub, reduceCtorEq, ↓reduceIte, Nat.reduceBEq, Int.reduceLT, Int.reduceLE, Int.reduceEq, Int.reduceBEq, Int.reduceBNe, Nat.reduceLT, Nat.reduceMul]
            refine CallV.ro false (reredosref_In_ok G p1.Pick 0 1048576 v11 hv11) rfl ?_
            rintro rs rfl
            refine ⟨.inl rfl, ?_⟩
            rcases of_if h with ⟨hb12, h⟩ | ⟨hb12, h⟩
            · have hkhb12 := not_eq_t hb12
              simp only [Option.some.injEq] at h
              subst h
              try simp only [hb2, hb4, hkhb4, hb6, hkhb6, hb8, hkhb8, hb10, hkhb10, hb12, hkhb12, go_sem, Nat.reduceAdd, Nat.reduceEqDiff, Nat.reduceLeDiff, Nat.reduceSub, reduceCtorEq, ↓reduceIte, Nat.reduceBEq, Int.reduceLT, Int.reduceLE, Int.reduceEq, Int.reduceBEq, Int.reduceBNe, Nat.reduceLT, Nat.reduceMul, List.map_append, List.map_cons, List.map_nil, List.map_set]
            · have hkhb12 := not_eq_f hb12
              try simp only [hb2, hb4, hkhb4, hb6, hkhb6, hb8, hkhb8, hb10, hkhb10, hb12, hkhb12, go_sem, Nat.reduceAdd, Nat.reduceEqDiff, Nat.reduceLeDiff, Nat.reduceSub, reduceCtorEq, ↓reduceIte, Nat.reduceBEq, Int.reduceLT, Int.reduceLE, Int.reduceEq, Int.reduceBEq, Int.reduceBNe, Nat.reduceLT, Nat.reduceMul]
              intro hl13
              try simp only [hb2, hb4, hkhb4, hb6, hkhb6, hb8, hkhb8, hb10, hkhb10, hb12, hkhb12, go_sem, Nat.reduceAdd, Nat.reduceEqDiff, Nat.reduceLeDiff, Nat.reduceSub, reduceCtorEq, ↓reduceIte, Nat.reduceBEq, Int.reduceLT, Int.reduceLE, Int.reduceEq, Int.reduceBEq, Int.reduceBNe, Nat.reduceLT, Nat.reduceMul]
              intro hl14
              rcases of_if h with ⟨hb15, h⟩ | ⟨hb15, h⟩
              · simp only [Option.some.injEq] at h
                subst h
                try simp only [hb2, hb4, hkhb4, hb6, hkhb6, hb8, hkhb8, hb10, hkhb10, hb12, hkhb12, hb15, go_sem, Nat.reduceAdd, Nat.reduceEqDiff, Nat.reduceLeDiff, Nat.reduceSub, reduceCtorEq, ↓reduceIte, Nat.reduceBEq, Int.reduceLT, Int.reduceLE, Int.reduceEq, Int.reduceBEq, Int.reduceBNe, Nat.reduceLT, Nat.reduceMul, List.map_append, List.map_cons, List.map_nil, List.map_set]
              · rcases of_if h with ⟨hb16, h⟩ | ⟨hb16, h⟩
                · simp only [Option.some.injEq] at h
                  subst h
                  try simp only [hb2, hb4, hkhb4, hb6, hkhb6, hb8, hkhb8, hb10, hkhb10, hb12, hkhb12, hb15, hb16, go_sem, Nat.reduceAdd, Nat.reduceEqDiff, Nat.reduceLeDiff, Nat.reduceSub, reduceCtorEq, ↓reduceIte, Nat.reduceBEq, Int.reduceLT, Int.reduceLE, Int.reduceEq, Int.reduceBEq, Int.reduceBNe, Nat.reduceLT, Nat.reduceMul, List.map_append, List.map_cons, List.map_nil, List.map_set]
                · obtain ⟨k18, hk18, h⟩ := withK_lk0 h
                  try simp only [hb2, hb4, hkhb4, hb6, hkhb6, hb8, hkhb8, hb10, hkhb10, hb12, hkhb12, hb15, hb16, go_sem, Nat.reduceAdd, Nat.reduceEqDiff, Nat.reduceLeDiff, Nat.reduceSub, reduceCtorEq, ↓reduceIte, Nat.reduceBEq, Int.reduceLT, Int.reduceLE, Int.reduceEq, Int.reduceBEq, Int.reduceBNe, Nat.reduceLT, Nat.reduceMul]
                  refine join_lk Try.prog G _ _ (B := Unit) (fun b => k18 = some r) (fun b => [(3, .one (.p (.q 0 0 0)))]) (fun b => [some (.box [.d (.i .i64 p1.Kind), .d (.i .i64 p1.Site), .d (.i .i64 p1.To), .d (.i .i64 p1.Label), .d (.i .i64 p1.Pick), .d (.l 1 (p1.Keep.map encI)), .d (.i .i64 p1.Call.Kind), .d (.i .i64 p1.Call.N), .d (.i .i64 p1.Call.Label), .d (.i .i64 p1.Call.Key), .d (.i .i64 p1.Call.Value), .d (.s p1.Line)])]) ?_ (fun b h => ?_)
                  · try simp only [hb2, hb4, hkhb4, hb6, hkhb6, hb8, hkhb8, hb10, hkhb10, hb12, hkhb12, hb15, hb16, go_sem, Nat.reduceAdd, Nat.reduceEqDiff, Nat.reduceLeDiff, Nat.reduceSub, reduceCtorEq, ↓reduceIte, Nat.reduceBEq, Int.reduceLT, Int.reduceLE, Int.reduceEq, Int.reduceBEq, Int.reduceBNe, Nat.reduceLT, Nat.reduceMul]
                    refine loop_lk Try.prog G _ _ (A := Nat) (fun n a => reredosref_ActFault_L1 p1 k18 n a = some r) (fun a => [(3, .one (.p (.q 0 0 0))), (6, .one (.d (.i .i64 ((a : Nat) : Int))))]) (fun a => [some (.box [.d (.i .i64 p1.Kind), .d (.i .i64 p1.Site), .d (.i .i64 p1.To), .d (.i .i64 p1.Label), .d (.i .i64 p1.Pick), .d (.l 1 (p1.Keep.map encI)), .d (.i .i64 p1.Call.Kind), .d (.i .i64 p1.Call.N), .d (.i .i64 p1.Call.Label), .d (.i .i64 p1.Call.Key), .d (.i .i64 p1.Call.Value), .d (.s p1.Line)])]) (p1.Keep.length + 1) (0) h (wk_i _ _ _ [some 1] rfl (by simp only [hb2, hb4, hkhb4, hb6, hkhb6, hb8, hkhb8, hb10, hkhb10, hb12, hkhb12, hb15, hb16, go_sem, Nat.reduceAdd, Nat.reduceEqDiff, Nat.reduceLeDiff, Nat.reduceSub, reduceCtorEq, ↓reduceIte, Nat.reduceBEq, Int.reduceLT, Int.reduceLE, Int.reduceEq, Int.reduceBEq, Int.reduceBNe, Nat.reduceLT, Nat.reduceMul, slotsWk, objsWk, objWk, optVOWk, SV.wk, SC.wk, cellsWk, VO.wk, Ptr.wk, ptrsWk, SC.isNl, List.map_append, List.map_cons, List.map_nil, Option.some.injEq, Prod.mk.injEq, SC.d.injEq, D.l.injEq, List.map_set]) (by simp only [hb2, hb4, hkhb4, hb6, hkhb6, hb8, hkhb8, hb10, hkhb10, hb12, hkhb12, hb15, hb16, go_sem, Nat.reduceAdd, Nat.reduceEqDiff, Nat.reduceLeDiff, Nat.reduceSub, reduceCtorEq, ↓reduceIte, Nat.reduceBEq, Int.reduceLT, Int.reduceLE, Int.reduceEq, Int.reduceBEq, Int.reduceBNe, Nat.reduceLT, Nat.reduceMul, slotsWk, objsWk, objWk, optVOWk, SV.wk, SC.wk, cellsWk, VO.wk, Ptr.wk, ptrsWk, SC.isNl, List.map_append, List.map_cons, List.map_nil, Option.some.injEq, Prod.mk.injEq, SC.d.injEq, D.l.injEq, List.map_set])) (fun a h => by simp only [reredosref_ActFault_L1, reduceCtorEq] at h) ?_
                    intro n20 a19_1 h
                    try dsimp only at h
                    rw [reredosref_ActFault_L1] at h
                    try simp only [hkhb4, hkhb6, hkhb8, hkhb10, hkhb12, go_sem, Nat.reduceAdd, Nat.reduceEqDiff, Nat.reduceLeDiff, Nat.reduceSub, reduceCtorEq, ↓reduceIte, Nat.reduceBEq, Int.reduceLT, Int.reduceLE, Int.reduceEq, Int.reduceBEq, Int.reduceBNe, Nat.reduceLT, Nat.reduceMul]
                    intro hl21
                    rcases of_if h with ⟨hb22, h⟩ | ⟨hb22, h⟩
                    · have hkhb22 := of_decide_eq_true hb22
                      obtain ⟨x23, hx23, h⟩ := Option.bind_eq_some_iff.1 h
                      have hkx23 := (List.getElem?_eq_some_iff.1 hx23).1
                      try simp only [List.length_take, List.length_drop, List.length_append, List.length_set, List.length_map, List.length_cons, List.length_nil, Nat.zero_add] at hkx23
                      obtain ⟨v24, hv24, h⟩ := Option.bind_eq_some_iff.1 h
                      try simp only [hkhb4, hkhb6, hkhb8, hkhb10, hkhb12, hb22, hkhb22, hx23, hkx23, go_sem, Nat.reduceAdd, Nat.reduceEqDiff, Nat.reduceLeDiff, Nat.reduceSub, reduceCtorEq, ↓reduceIte, Nat.reduceBEq, Int.reduceLT, Int.reduceLE, Int.reduceEq, Int.reduceBEq, Int.reduceBNe, Nat.reduceLT, Nat.reduceMul]
                      refine CallV.ro false (reredosref_In_ok G x23 0 6000 v24 hv24) rfl ?_
                      rintro rs rfl
                      refine ⟨.inl rfl, ?_⟩
                      rcases of_if h with ⟨hb25, h⟩ | ⟨hb25, h⟩
                      · have hkhb25 := not_eq_t hb25
                        simp only [Option.some.injEq] at h
                        subst h
                        try simp only [hkhb4, hkhb6, hkhb8, hkhb10, hkhb12, hb22, hkhb22, hx23, hkx23, hb25, hkhb25, go_sem, Nat.reduceAdd, Nat.reduceEqDiff, Nat.reduceLeDiff, Nat.reduceSub, reduceCtorEq, ↓reduceIte, Nat.reduceBEq, Int.reduceLT, Int.reduceLE, Int.reduceEq, Int.reduceBEq, Int.reduceBNe, Nat.reduceLT, Nat.reduceMul, List.map_append, List.map_cons, List.map_nil, List.map_set]
                      · have hkhb25 := not_eq_f hb25
                        have hw26 := wrap_succ_max hkx23 hl21
                        try simp only [hkhb4, hkhb6, hkhb8, hkhb10, hkhb12, hb22, hkhb22, hx23, hkx23, hb25, hkhb25, hw26, go_sem, Nat.reduceAdd, Nat.reduceEqDiff, Nat.reduceLeDiff, Nat.reduceSub, reduceCtorEq, ↓reduceIte, Nat.reduceBEq, Int.reduceLT, Int.reduceLE, Int.reduceEq, Int.reduceBEq, Int.reduceBNe, Nat.reduceLT, Nat.reduceMul]
                        exact loopQ_i (a19_1 + 1) h [some 0] rfl (by simp only [hkhb4, hkhb6, hkhb8, hkhb10, hkhb12, hb22, hkhb22, hx23, hkx23, hb25, hkhb25, hw26, go_sem, Nat.reduceAdd, Nat.reduceEqDiff, Nat.reduceLeDiff, Nat.reduceSub, reduceCtorEq, ↓reduceIte, Nat.reduceBEq, Int.reduceLT, Int.reduceLE, Int.reduceEq, Int.reduceBEq, Int.reduceBNe, Nat.reduceLT, Nat.reduceMul, slotsWk, objsWk, objWk, optVOWk, SV.wk, SC.wk, cellsWk, VO.wk, Ptr.wk, ptrsWk, SC.isNl, List.map_append, List.map_cons, List.map_nil, Option.some.injEq, Prod.mk.injEq, SC.d.injEq, D.l.injEq, List.map_set]) (by simp only [hkhb4, hkhb6, hkhb8, hkhb10, hkhb12, hb22, hkhb22, hx23, hkx23, hb25, hkhb25, hw26, go_sem, Nat.reduceAdd, Nat.reduceEqDiff, Nat.reduceLeDiff, Nat.reduceSub, reduceCtorEq, ↓reduceIte, Nat.reduceBEq, Int.reduceLT, Int.reduceLE, Int.reduceEq, Int.reduceBEq, Int.reduceBNe, Nat.reduceLT, Nat.reduceMul, slotsWk, objsWk, objWk, optVOWk, SV.wk, SC.wk, cellsWk, VO.wk, Ptr.wk, ptrsWk, SC.isNl, List.map_append, List.map_cons, List.map_nil, Option.some.injEq, Prod.mk.injEq, SC.d.injEq, D.l.injEq, List.map_set])
                    · try simp only [hkhb4, hkhb6, hkhb8, hkhb10, hkhb12, hb22, go_sem, Nat.reduceAdd, Nat.reduceEqDiff, Nat.reduceLeDiff, Nat.reduceSub, reduceCtorEq, ↓reduceIte, Nat.reduceBEq, Int.reduceLT, Int.reduceLE, Int.reduceEq, Int.reduceBEq, Int.reduceBNe, Nat.reduceLT, Nat.reduceMul]
                      exact joinQ_i () h [some 0] rfl (by simp only [hkhb4, hkhb6, hkhb8, hkhb10, hkhb12, hb22, go_sem, Nat.reduceAdd, Nat.reduceEqDiff, Nat.reduceLeDiff, Nat.reduceSub, reduceCtorEq, ↓reduceIte, Nat.reduceBEq, Int.reduceLT, Int.reduceLE, Int.reduceEq, Int.reduceBEq, Int.reduceBNe, Nat.reduceLT, Nat.reduceMul, slotsWk, objsWk, objWk, optVOWk, SV.wk, SC.wk, cellsWk, VO.wk, Ptr.wk, ptrsWk, SC.isNl, List.map_append, List.map_cons, List.map_nil, Option.some.injEq, Prod.mk.injEq, SC.d.injEq, D.l.injEq, List.map_set]) (by simp only [hkhb4, hkhb6, hkhb8, hkhb10, hkhb12, hb22, go_sem, Nat.reduceAdd, Nat.reduceEqDiff, Nat.reduceLeDiff, Nat.reduceSub, reduceCtorEq, ↓reduceIte, Nat.reduceBEq, Int.reduceLT, Int.reduceLE, Int.reduceEq, Int.reduceBEq, Int.reduceBNe, Nat.reduceLT, Nat.reduceMul, slotsWk, objsWk, objWk, optVOWk, SV.wk, SC.wk, cellsWk, VO.wk, Ptr.wk, ptrsWk, SC.isNl, List.map_append, List.map_cons, List.map_nil, Option.some.injEq, Prod.mk.injEq, SC.d.injEq, D.l.injEq, List.map_set])
                  · try dsimp only at h
                    rw [hk18] at h
                    obtain ⟨v27, hv27, h⟩ := Option.bind_eq_some_iff.1 h
                    try simp only [hkhb4, hkhb6, hkhb8, hkhb10, hkhb12, go_sem, Nat.reduceAdd, Nat.reduceEqDiff, Nat.reduceLeDiff, Nat.reduceSub, reduceCtorEq, ↓reduceIte, Nat.reduceBEq, Int.reduceLT, Int.reduceLE, Int.reduceEq, Int.reduceBEq, Int.reduceBNe, Nat.reduceLT, Nat.reduceMul]
                    refine CallV.ro false (reredosref_In_ok G p1.Kind 2 4 v27 hv27) rfl ?_
                    rintro rs rfl
                    refine ⟨.inl rfl, ?_⟩
                    rcases of_if h with ⟨hb28, h⟩ | ⟨hb28, h⟩
                    · rcases of_if h with ⟨hb29, h⟩ | ⟨hb29, h⟩
                      · simp only [Option.some.injEq] at h
                        subst h
                        try simp only [hkhb4, hkhb6, hkhb8, hkhb10, hkhb12, hb28, hb29, go_sem, Nat.reduceAdd, Nat.reduceEqDiff, Nat.reduceLeDiff, Nat.reduceSub, reduceCtorEq, ↓reduceIte, Nat.reduceBEq, Int.reduceLT, Int.reduceLE, Int.reduceEq, Int.reduceBEq, Int.reduceBNe, Nat.reduceLT, Nat.reduceMul, List.map_append, List.map_cons, List.map_nil, List.map_set]
                      · rcases of_if h with ⟨hb30, h⟩ | ⟨hb30, h⟩
                        · have hkhb30 := not_eq_t hb30
                          rcases of_if h with ⟨hb31, h⟩ | ⟨hb31, h⟩
                          · simp only [Option.some.injEq] at h
                            subst h
                            try simp only [hkhb4, hkhb6, hkhb8, hkhb10, hkhb12, hb28, hb29, hb30, hkhb30, hb31, go_sem, Nat.reduceAdd, Nat.reduceEqDiff, Nat.reduceLeDiff, Nat.reduceSub, reduceCtorEq, ↓reduceIte, Nat.reduceBEq, Int.reduceLT, Int.reduceLE, Int.reduceEq, Int.reduceBEq, Int.reduceBNe, Nat.reduceLT, Nat.reduceMul, List.map_append, List.map_cons, List.map_nil, List.map_set]
                          · rcases of_if h with ⟨hb32, h⟩ | ⟨hb32, h⟩
                            · simp only [Option.some.injEq] at h
                              subst h
                              try simp only [hkhb4, hkhb6, hkhb8, hkhb10, hkhb12, hb28, hb29, hb30, hkhb30, hb31, hb32, go_sem, Nat.reduceAdd, Nat.reduceEqDiff, Nat.reduceLeDiff, Nat.reduceSub, reduceCtorEq, ↓reduceIte, Nat.reduceBEq, Int.reduceLT, Int.reduceLE, Int.reduceEq, Int.reduceBEq, Int.reduceBNe, Nat.reduceLT, Nat.reduceMul, List.map_append, List.map_cons, List.map_nil, List.map_set]
                            · rcases of_if h with ⟨hb33, h⟩ | ⟨hb33, h⟩
                              · rcases of_if h with ⟨hb34, h⟩ | ⟨hb34, h⟩
                                · rcases of_if h with ⟨hb35, h⟩ | ⟨hb35, h⟩
                                  · simp only [Option.some.injEq] at h
                                    subst h
                                    try simp only [hkhb4, hkhb6, hkhb8, hkhb10, hkhb12, hb28, hb29, hb30, hkhb30, hb31, hb32, hb33, hb34, hb35, go_sem, Nat.reduceAdd, Nat.reduceEqDiff, Nat.reduceLeDiff, Nat.reduceSub, reduceCtorEq, ↓reduceIte, Nat.reduceBEq, Int.reduceLT, Int.reduceLE, Int.reduceEq, Int.reduceBEq, Int.reduceBNe, Nat.reduceLT, Nat.reduceMul, List.map_append, List.map_cons, List.map_nil, List.map_set]
                                  · rcases of_if h with ⟨hb36, h⟩ | ⟨hb36, h⟩
                                    · try simp only [hkhb4, hkhb6, hkhb8, hkhb10, hkhb12, hb28, hb29, hb30, hkhb30, hb31, hb32, hb33, hb34, hb35, hb36, go_sem, Nat.reduceAdd, Nat.reduceEqDiff, Nat.reduceLeDiff, Nat.reduceSub, reduceCtorEq, ↓reduceIte, Nat.reduceBEq, Int.reduceLT, Int.reduceLE, Int.reduceEq, Int.reduceBEq, Int.reduceBNe, Nat.reduceLT, Nat.reduceMul]
                                      intro hl37
                                      rcases of_if h with ⟨hb38, h⟩ | ⟨hb38, h⟩
                                      · simp only [Option.some.injEq] at h
                                        subst h
                                        try simp only [hkhb4, hkhb6, hkhb8, hkhb10, hkhb12, hb28, hb29, hb30, hkhb30, hb31, hb32, hb33, hb34, hb35, hb36, hb38, go_sem, Nat.reduceAdd, Nat.reduceEqDiff, Nat.reduceLeDiff, Nat.reduceSub, reduceCtorEq, ↓reduceIte, Nat.reduceBEq, Int.reduceLT, Int.reduceLE, Int.reduceEq, Int.reduceBEq, Int.reduceBNe, Nat.reduceLT, Nat.reduceMul, List.map_append, List.map_cons, List.map_nil, List.map_set]
                                      · rcases of_if h with ⟨hb39, h⟩ | ⟨hb39, h⟩
                                        · have hkhb39 := not_eq_t hb39
                                          simp only [Option.some.injEq] at h
                                          subst h
                                          try simp only [hkhb4, hkhb6, hkhb8, hkhb10, hkhb12, hb28, hb29, hb30, hkhb30, hb31, hb32, hb33, hb34, hb35, hb36, hb38, hb39, hkhb39, go_sem, Nat.reduceAdd, Nat.reduceEqDiff, Nat.reduceLeDiff, Nat.reduceSub, reduceCtorEq, ↓reduceIte, Nat.reduceBEq, Int.reduceLT, Int.reduceLE, Int.reduceEq, Int.reduceBEq, Int.reduceBNe, Nat.reduceLT, Nat.reduceMul, List.map_append, List.map_cons, List.map_nil, List.map_set]
                                        · have hkhb39 := not_eq_f hb39
                                          rcases of_if h with ⟨hb40, h⟩ | ⟨hb40, h⟩
                                          · have hkhb40 := not_eq_t hb40
                                            simp only [Option.some.injEq] at h
                                            subst h
                                            try simp only [hkhb4, hkhb6, hkhb8, hkhb10, hkhb12, hb28, hb29, hb30, hkhb30, hb31, hb32, hb33, hb34, hb35, hb36, hb38, hb39, hkhb39, hb40, hkhb40, go_sem, Nat.reduceAdd, Nat.reduceEqDiff, Nat.reduceLeDiff, Nat.reduceSub, reduceCtorEq, ↓reduceIte, Nat.reduceBEq, Int.reduceLT, Int.reduceLE, Int.reduceEq, Int.reduceBEq, Int.reduceBNe, Nat.reduceLT, Nat.reduceMul, List.map_append, List.map_cons, List.map_nil, List.map_set]
                                          · have hkhb40 := not_eq_f hb40
                                            rcases of_if h with ⟨hb41, h⟩ | ⟨hb41, h⟩
                                            · obtain ⟨v42, hv42, h⟩ := Option.bind_eq_some_iff.1 h
                                              try simp only [hkhb4, hkhb6, hkhb8, hkhb10, hkhb12, hb28, hb29, hb30, hkhb30, hb31, hb32, hb33, hb34, hb35, hb36, hb38, hb39, hkhb39, hb40, hkhb40, hb41, go_sem, Nat.reduceAdd, Nat.reduceEqDiff, Nat.reduceLeDiff, Nat.reduceSub, reduceCtorEq, ↓reduceIte, Nat.reduceBEq, Int.reduceLT, Int.reduceLE, Int.reduceEq, Int.reduceBEq, Int.reduceBNe, Nat.reduceLT, Nat.reduceMul]
                                              refine CallV.ro false (reredosref_callMay_ok G p1.Call v42 hv42) rfl ?_
                                              rintro rs rfl
                                              refine ⟨.inl rfl, ?_⟩
                                              simp only [Option.some.injEq] at h
                                              subst h
                                              try simp only [hkhb4, hkhb6, hkhb8, hkhb10, hkhb12, hb28, hb29, hb30, hkhb30, hb31, hb32, hb33, hb34, hb35, hb36, hb38, hb39, hkhb39, hb40, hkhb40, hb41, go_sem, Nat.reduceAdd, Nat.reduceEqDiff, Nat.reduceLeDiff, Nat.reduceSub, reduceCtorEq, ↓reduceIte, Nat.reduceBEq, Int.reduceLT, Int.reduceLE, Int.reduceEq, Int.reduceBEq, Int.reduceBNe, Nat.reduceLT, Nat.reduceMul, List.map_append, List.map_cons, List.map_nil, List.map_set]
                                            · simp only [Option.some.injEq] at h
                                              subst h
                                              try simp only [hkhb4, hkhb6, hkhb8, hkhb10, hkhb12, hb28, hb29, hb30, hkhb30, hb31, hb32, hb33, hb34, hb35, hb36, hb38, hb39, hkhb39, hb40, hkhb40, hb41, go_sem, Nat.reduceAdd, Nat.reduceEqDiff, Nat.reduceLeDiff, Nat.reduceSub, reduceCtorEq, ↓reduceIte, Nat.reduceBEq, Int.reduceLT, Int.reduceLE, Int.reduceEq, Int.reduceBEq, Int.reduceBNe, Nat.reduceLT, Nat.reduceMul, List.map_append, List.map_cons, List.map_nil, List.map_set]
                                    · rcases of_if h with ⟨hb43, h⟩ | ⟨hb43, h⟩
                                      · have hkhb43 := not_eq_t hb43
                                        simp only [Option.some.injEq] at h
                                        subst h
                                        try simp only [hkhb4, hkhb6, hkhb8, hkhb10, hkhb12, hb28, hb29, hb30, hkhb30, hb31, hb32, hb33, hb34, hb35, hb36, hb43, hkhb43, go_sem, Nat.reduceAdd, Nat.reduceEqDiff, Nat.reduceLeDiff, Nat.reduceSub, reduceCtorEq, ↓reduceIte, Nat.reduceBEq, Int.reduceLT, Int.reduceLE, Int.reduceEq, Int.reduceBEq, Int.reduceBNe, Nat.reduceLT, Nat.reduceMul, List.map_append, List.map_cons, List.map_nil, List.map_set]
                                      · have hkhb43 := not_eq_f hb43
                                        rcases of_if h with ⟨hb44, h⟩ | ⟨hb44, h⟩
                                        · have hkhb44 := not_eq_t hb44
                                          simp only [Option.some.injEq] at h
                                          subst h
                                          try simp only [hkhb4, hkhb6, hkhb8, hkhb10, hkhb12, hb28, hb29, hb30, hkhb30, hb31, hb32, hb33, hb34, hb35, hb36, hb43, hkhb43, hb44, hkhb44, go_sem, Nat.reduceAdd, Nat.reduceEqDiff, Nat.reduceLeDiff, Nat.reduceSub, reduceCtorEq, ↓reduceIte, Nat.reduceBEq, Int.reduceLT, Int.reduceLE, Int.reduceEq, Int.reduceBEq, Int.reduceBNe, Nat.reduceLT, Nat.reduceMul, List.map_append, List.map_cons, List.map_nil, List.map_set]
                                        · have hkhb44 := not_eq_f hb44
                                          rcases of_if h with ⟨hb45, h⟩ | ⟨hb45, h⟩
                                          · obtain ⟨v46, hv46, h⟩ := Option.bind_eq_some_iff.1 h
                                            try simp only [hkhb4, hkhb6, hkhb8, hkhb10, hkhb12, hb28, hb29, hb30, hkhb30, hb31, hb32, hb33, hb34, hb35, hb36, hb43, hkhb43, hb44, hkhb44, hb45, go_sem, Nat.reduceAdd, Nat.reduceEqDiff, Nat.reduceLeDiff, Nat.reduceSub, reduceCtorEq, ↓reduceIte, Nat.reduceBEq, Int.reduceLT, Int.reduceLE, Int.reduceEq, Int.reduceBEq, Int.reduceBNe, Nat.reduceLT, Nat.reduceMul]
                                            refine CallV.ro false (reredosref_callMay_ok G p1.Call v46 hv46) rfl ?_
                                            rintro rs rfl
                                            refine ⟨.inl rfl, ?_⟩
                                            simp only [Option.some.injEq] at h
                                            subst h
                                            try simp only [hkhb4, hkhb6, hkhb8, hkhb10, hkhb12, hb28, hb29, hb30, hkhb30, hb31, hb32, hb33, hb34, hb35, hb36, hb43, hkhb43, hb44, hkhb44, hb45, go_sem, Nat.reduceAdd, Nat.reduceEqDiff, Nat.reduceLeDiff, Nat.reduceSub, reduceCtorEq, ↓reduceIte, Nat.reduceBEq, Int.reduceLT, Int.reduceLE, Int.reduceEq, Int.reduceBEq, Int.reduceBNe, Nat.reduceLT, Nat.reduceMul, List.map_append, List.map_cons, List.map_nil, List.map_set]
                                          · simp only [Option.some.injEq] at h
                                            subst h
                                            try simp only [hkhb4, hkhb6, hkhb8, hkhb10, hkhb12, hb28, hb29, hb30, hkhb30, hb31, hb32, hb33, hb34, hb35, hb36, hb43, hkhb43, hb44, hkhb44, hb45, go_sem, Nat.reduceAdd, Nat.reduceEqDiff, Nat.reduceLeDiff, Nat.reduceSub, reduceCtorEq, ↓reduceIte, Nat.reduceBEq, Int.reduceLT, Int.reduceLE, Int.reduceEq, Int.reduceBEq, Int.reduceBNe, Nat.reduceLT, Nat.reduceMul, List.map_append, List.map_cons, List.map_nil, List.map_set]
                                · rcases of_if h with ⟨hb47, h⟩ | ⟨hb47, h⟩
                                  · try simp only [hkhb4, hkhb6, hkhb8, hkhb10, hkhb12, hb28, hb29, hb30, hkhb30, hb31, hb32, hb33, hb34, hb47, go_sem, Nat.reduceAdd, Nat.reduceEqDiff, Nat.reduceLeDiff, Nat.reduceSub, reduceCtorEq, ↓reduceIte, Nat.reduceBEq, Int.reduceLT, Int.reduceLE, Int.reduceEq, Int.reduceBEq, Int.reduceBNe, Nat.reduceLT, Nat.reduceMul]
                                    intro hl48
                                    rcases of_if h with ⟨hb49, h⟩ | ⟨hb49, h⟩
                                    · simp only [Option.some.injEq] at h
                                      subst h
                                      try simp only [hkhb4, hkhb6, hkhb8, hkhb10, hkhb12, hb28, hb29, hb30, hkhb30, hb31, hb32, hb33, hb34, hb47, hb49, go_sem, Nat.reduceAdd, Nat.reduceEqDiff, Nat.reduceLeDiff, Nat.reduceSub, reduceCtorEq, ↓reduceIte, Nat.reduceBEq, Int.reduceLT, Int.reduceLE, Int.reduceEq, Int.reduceBEq, Int.reduceBNe, Nat.reduceLT, Nat.reduceMul, List.map_append, List.map_cons, List.map_nil, List.map_set]
                                    · rcases of_if h with ⟨hb50, h⟩ | ⟨hb50, h⟩
                                      · have hkhb50 := not_eq_t hb50
                                        simp only [Option.some.injEq] at h
                                        subst h
                                        try simp only [hkhb4, hkhb6, hkhb8, hkhb10, hkhb12, hb28, hb29, hb30, hkhb30, hb31, hb32, hb33, hb34, hb47, hb49, hb50, hkhb50, go_sem, Nat.reduceAdd, Nat.reduceEqDiff, Nat.reduceLeDiff, Nat.reduceSub, reduceCtorEq, ↓reduceIte, Nat.reduceBEq, Int.reduceLT, Int.reduceLE, Int.reduceEq, Int.reduceBEq, Int.reduceBNe, Nat.reduceLT, Nat.reduceMul, List.map_append, List.map_cons, List.map_nil, List.map_set]
                                      · have hkhb50 := not_eq_f hb50
                                        rcases of_if h with ⟨hb51, h⟩ | ⟨hb51, h⟩
                                        · obtain ⟨v52, hv52, h⟩ := Option.bind_eq_some_iff.1 h
                                          try simp only [hkhb4, hkhb6, hkhb8, hkhb10, hkhb12, hb28, hb29, hb30, hkhb30, hb31, hb32, hb33, hb34, hb47, hb49, hb50, hkhb50, hb51, go_sem, Nat.reduceAdd, Nat.reduceEqDiff, Nat.reduceLeDiff, Nat.reduceSub, reduceCtorEq, ↓reduceIte, Nat.reduceBEq, Int.reduceLT, Int.reduceLE, Int.reduceEq, Int.reduceBEq, Int.reduceBNe, Nat.reduceLT, Nat.reduceMul]
                                          refine CallV.ro false (reredosref_callMay_ok G p1.Call v52 hv52) rfl ?_
                                          rintro rs rfl
                                          refine ⟨.inl rfl, ?_⟩
                                          simp only [Option.some.injEq] at h
                                          subst h
                                          try simp only [hkhb4, hkhb6, hkhb8, hkhb10, hkhb12, hb28, hb29, hb30, hkhb30, hb31, hb32, hb33, hb34, hb47, hb49, hb50, hkhb50, hb51, go_sem, Nat.reduceAdd, Nat.reduceEqDiff, Nat.reduceLeDiff, Nat.reduceSub, reduceCtorEq, ↓reduceIte, Nat.reduceBEq, Int.reduceLT, Int.reduceLE, Int.reduceEq, Int.reduceBEq, Int.reduceBNe, Nat.reduceLT, Nat.reduceMul, List.map_append, List.map_cons, List.map_nil, List.map_set]
                                        · simp only [Option.some.injEq] at h
                                          subst h
                                          try simp only [hkhb4, hkhb6, hkhb8, hkhb10, hkhb12, hb28, hb29, hb30, hkhb30, hb31, hb32, hb33, hb34, hb47, hb49, hb50, hkhb50, hb51, go_sem, Nat.reduceAdd, Nat.reduceEqDiff, Nat.reduceLeDiff, Nat.reduceSub, reduceCtorEq, ↓reduceIte, Nat.reduceBEq, Int.reduceLT, Int.reduceLE, Int.reduceEq, Int.reduceBEq, Int.reduceBNe, Nat.reduceLT, Nat.reduceMul, List.map_append, List.map_cons, List.map_nil, List.map_set]
                                  · rcases of_if h with ⟨hb53, h⟩ | ⟨hb53, h⟩
                                    · have hkhb53 := not_eq_t hb53
                                      simp only [Option.some.injEq] at h
                                      subst h
                                      try simp only [hkhb4, hkhb6, hkhb8, hkhb10, hkhb12, hb28, hb29, hb30, hkhb30, hb31, hb32, hb33, hb34, hb47, hb53, hkhb53, go_sem, Nat.reduceAdd, Nat.reduceEqDiff, Nat.reduceLeDiff, Nat.reduceSub, reduceCtorEq, ↓reduceIte, Nat.reduceBEq, Int.reduceLT, Int.reduceLE, Int.reduceEq, Int.reduceBEq, Int.reduceBNe, Nat.reduceLT, Nat.reduceMul, List.map_append, List.map_cons, List.map_nil, List.map_set]
                                    · have hkhb53 := not_eq_f hb53
                                      rcases of_if h with ⟨hb54, h⟩ | ⟨hb54, h⟩
                                      · obtain ⟨v55, hv55, h⟩ := Option.bind_eq_some_iff.1 h
                                        try simp only [hkhb4, hkhb6, hkhb8, hkhb10, hkhb12, hb28, hb29, hb30, hkhb30, hb31, hb32, hb33, hb34, hb47, hb53, hkhb53, hb54, go_sem, Nat.reduceAdd, Nat.reduceEqDiff, Nat.reduceLeDiff, Nat.reduceSub, reduceCtorEq, ↓reduceIte, Nat.reduceBEq, Int.reduceLT, Int.reduceLE, Int.reduceEq, Int.reduceBEq, Int.reduceBNe, Nat.reduceLT, Nat.reduceMul]
                                        refine CallV.ro false (reredosref_callMay_ok G p1.Call v55 hv55) rfl ?_
                                        rintro rs rfl
                                        refine ⟨.inl rfl, ?_⟩
                                        simp only [Option.some.injEq] at h
                                        subst h
                                        try simp only [hkhb4, hkhb6, hkhb8, hkhb10, hkhb12, hb28, hb29, hb30, hkhb30, hb31, hb32, hb33, hb34, hb47, hb53, hkhb53, hb54, go_sem, Nat.reduceAdd, Nat.reduceEqDiff, Nat.reduceLeDiff, Nat.reduceSub, reduceCtorEq, ↓reduceIte, Nat.reduceBEq, Int.reduceLT, Int.reduceLE, Int.reduceEq, Int.reduceBEq, Int.reduceBNe, Nat.reduceLT, Nat.reduceMul, List.map_append, List.map_cons, List.map_nil, List.map_set]
                                      · simp only [Option.some.injEq] at h
                                        subst h
                                        try simp only [hkhb4, hkhb6, hkhb8, hkhb10, hkhb12, hb28, hb29, hb30, hkhb30, hb31, hb32, hb33, hb34, hb47, hb53, hkhb53, hb54, go_sem, Nat.reduceAdd, Nat.reduceEqDiff, Nat.reduceLeDiff, Nat.reduceSub, reduceCtorEq, ↓reduceIte, Nat.reduceBEq, Int.reduceLT, Int.reduceLE, Int.reduceEq, Int.reduceBEq, Int.reduceBNe, Nat.reduceLT, Nat.reduceMul, List.map_append, List.map_cons, List.map_nil, List.map_set]
                              · rcases of_if h with ⟨hb56, h⟩ | ⟨hb56, h⟩
                                · try simp only [hkhb4, hkhb6, hkhb8, hkhb10, hkhb12, hb28, hb29, hb30, hkhb30, hb31, hb32, hb33, hb56, go_sem, Nat.reduceAdd, Nat.reduceEqDiff, Nat.reduceLeDiff, Nat.reduceSub, reduceCtorEq, ↓reduceIte, Nat.reduceBEq, Int.reduceLT, Int.reduceLE, Int.reduceEq, Int.reduceBEq, Int.reduceBNe, Nat.reduceLT, Nat.reduceMul]
                                  intro hl57
                                  rcases of_if h with ⟨hb58, h⟩ | ⟨hb58, h⟩
                                  · simp only [Option.some.injEq] at h
                                    subst h
                                    try simp only [hkhb4, hkhb6, hkhb8, hkhb10, hkhb12, hb28, hb29, hb30, hkhb30, hb31, hb32, hb33, hb56, hb58, go_sem, Nat.reduceAdd, Nat.reduceEqDiff, Nat.reduceLeDiff, Nat.reduceSub, reduceCtorEq, ↓reduceIte, Nat.reduceBEq, Int.reduceLT, Int.reduceLE, Int.reduceEq, Int.reduceBEq, Int.reduceBNe, Nat.reduceLT, Nat.reduceMul, List.map_append, List.map_cons, List.map_nil, List.map_set]
                                  · rcases of_if h with ⟨hb59, h⟩ | ⟨hb59, h⟩
                                    · rcases of_if h with ⟨hb60, h⟩ | ⟨hb60, h⟩
                                      · have hkhb60 := not_eq_t hb60
                                        simp only [Option.some.injEq] at h
                                        subst h
                                        try simp only [hkhb4, hkhb6, hkhb8, hkhb10, hkhb12, hb28, hb29, hb30, hkhb30, hb31, hb32, hb33, hb56, hb58, hb59, hb60, hkhb60, go_sem, Nat.reduceAdd, Nat.reduceEqDiff, Nat.reduceLeDiff, Nat.reduceSub, reduceCtorEq, ↓reduceIte, Nat.reduceBEq, Int.reduceLT, Int.reduceLE, Int.reduceEq, Int.reduceBEq, Int.reduceBNe, Nat.reduceLT, Nat.reduceMul, List.map_append, List.map_cons, List.map_nil, List.map_set]
                                      · have hkhb60 := not_eq_f hb60
                                        rcases of_if h with ⟨hb61, h⟩ | ⟨hb61, h⟩
                                        · obtain ⟨v62, hv62, h⟩ := Option.bind_eq_some_iff.1 h
                                          try simp only [hkhb4, hkhb6, hkhb8, hkhb10, hkhb12, hb28, hb29, hb30, hkhb30, hb31, hb32, hb33, hb56, hb58, hb59, hb60, hkhb60, hb61, go_sem, Nat.reduceAdd, Nat.reduceEqDiff, Nat.reduceLeDiff, Nat.reduceSub, reduceCtorEq, ↓reduceIte, Nat.reduceBEq, Int.reduceLT, Int.reduceLE, Int.reduceEq, Int.reduceBEq, Int.reduceBNe, Nat.reduceLT, Nat.reduceMul]
                                          refine CallV.ro false (reredosref_callMay_ok G p1.Call v62 hv62) rfl ?_
                                          rintro rs rfl
                                          refine ⟨.inl rfl, ?_⟩
                                          simp only [Option.some.injEq] at h
                                          subst h
                                          try simp only [hkhb4, hkhb6, hkhb8, hkhb10, hkhb12, hb28, hb29, hb30, hkhb30, hb31, hb32, hb33, hb56, hb58, hb59, hb60, hkhb60, hb61, go_sem, Nat.reduceAdd, Nat.reduceEqDiff, Nat.reduceLeDiff, Nat.reduceSub, reduceCtorEq, ↓reduceIte, Nat.reduceBEq, Int.reduceLT, Int.reduceLE, Int.reduceEq, Int.reduceBEq, Int.reduceBNe, Nat.reduceLT, Nat.reduceMul, List.map_append, List.map_cons, List.map_nil, List.map_set]
                                        · simp only [Option.some.injEq] at h
                                          subst h
                                          try simp only [hkhb4, hkhb6, hkhb8, hkhb10, hkhb12, hb28, hb29, hb30, hkhb30, hb31, hb32, hb33, hb56, hb58, hb59, hb60, hkhb60, hb61, go_sem, Nat.reduceAdd, Nat.reduceEqDiff, Nat.reduceLeDiff, Nat.reduceSub, reduceCtorEq, ↓reduceIte, Nat.reduceBEq, Int.reduceLT, Int.reduceLE, Int.reduceEq, Int.reduceBEq, Int.reduceBNe, Nat.reduceLT, Nat.reduceMul, List.map_append, List.map_cons, List.map_nil, List.map_set]
                                    · rcases of_if h with ⟨hb63, h⟩ | ⟨hb63, h⟩
                                      · obtain ⟨v64, hv64, h⟩ := Option.bind_eq_some_iff.1 h
                                        try simp only [hkhb4, hkhb6, hkhb8, hkhb10, hkhb12, hb28, hb29, hb30, hkhb30, hb31, hb32, hb33, hb56, hb58, hb59, hb63, go_sem, Nat.reduceAdd, Nat.reduceEqDiff, Nat.reduceLeDiff, Nat.reduceSub, reduceCtorEq, ↓reduceIte, Nat.reduceBEq, Int.reduceLT, Int.reduceLE, Int.reduceEq, Int.reduceBEq, Int.reduceBNe, Nat.reduceLT, Nat.reduceMul]
                                        refine CallV.ro false (reredosref_callMay_ok G p1.Call v64 hv64) rfl ?_
                                        rintro rs rfl
                                        refine ⟨.inl rfl, ?_⟩
                                        simp only [Option.some.injEq] at h
                                        subst h
                                        try simp only [hkhb4, hkhb6, hkhb8, hkhb10, hkhb12, hb28, hb29, hb30, hkhb30, hb31, hb32, hb33, hb56, hb58, hb59, hb63, go_sem, Nat.reduceAdd, Nat.reduceEqDiff, Nat.reduceLeDiff, Nat.reduceSub, reduceCtorEq, ↓reduceIte, Nat.reduceBEq, Int.reduceLT, Int.reduceLE, Int.reduceEq, Int.reduceBEq, Int.reduceBNe, Nat.reduceLT, Nat.reduceMul, List.map_append, List.map_cons, List.map_nil, List.map_set]
                                      · simp only [Option.some.injEq] at h
                                        subst h
                                        try simp only [hkhb4, hkhb6, hkhb8, hkhb10, hkhb12, hb28, hb29, hb30, hkhb30, hb31, hb32, hb33, hb56, hb58, hb59, hb63, go_sem, Nat.reduceAdd, Nat.reduceEqDiff, Nat.reduceLeDiff, Nat.reduceSub, reduceCtorEq, ↓reduceIte, Nat.reduceBEq, Int.reduceLT, Int.reduceLE, Int.reduceEq, Int.reduceBEq, Int.reduceBNe, Nat.reduceLT, Nat.reduceMul, List.map_append, List.map_cons, List.map_nil, List.map_set]
                                · rcases of_if h with ⟨hb65, h⟩ | ⟨hb65, h⟩
                                  · rcases of_if h with ⟨hb66, h⟩ | ⟨hb66, h⟩
                                    · have hkhb66 := not_eq_t hb66
                                      simp only [Option.some.injEq] at h
                                      subst h
                                      try simp only [hkhb4, hkhb6, hkhb8, hkhb10, hkhb12, hb28, hb29, hb30, hkhb30, hb31, hb32, hb33, hb56, hb65, hb66, hkhb66, go_sem, Nat.reduceAdd, Nat.reduceEqDiff, Nat.reduceLeDiff, Nat.reduceSub, reduceCtorEq, ↓reduceIte, Nat.reduceBEq, Int.reduceLT, Int.reduceLE, Int.reduceEq, Int.reduceBEq, Int.reduceBNe, Nat.reduceLT, Nat.reduceMul, List.map_append, List.map_cons, List.map_nil, List.map_set]
                                    · have hkhb66 := not_eq_f hb66
                                      rcases of_if h with ⟨hb67, h⟩ | ⟨hb67, h⟩
                                      · obtain ⟨v68, hv68, h⟩ := Option.bind_eq_some_iff.1 h
                                        try simp only [hkhb4, hkhb6, hkhb8, hkhb10, hkhb12, hb28, hb29, hb30, hkhb30, hb31, hb32, hb33, hb56, hb65, hb66, hkhb66, hb67, go_sem, Nat.reduceAdd, Nat.reduceEqDiff, Nat.reduceLeDiff, Nat.reduceSub, reduceCtorEq, ↓reduceIte, Nat.reduceBEq, Int.reduceLT, Int.reduceLE, Int.reduceEq, Int.reduceBEq, Int.reduceBNe, Nat.reduceLT, Nat.reduceMul]
                                        refine CallV.ro false (reredosref_callMay_ok G p1.Call v68 hv68) rfl ?_
                                        rintro rs rfl
                                        refine ⟨.inl rfl, ?_⟩
                                        simp only [Option.some.injEq] at h
                                        subst h
                                        try simp only [hkhb4, hkhb6, hkhb8, hkhb10, hkhb12, hb28, hb29, hb30, hkhb30, hb31, hb32, hb33, hb56, hb65, hb66, hkhb66, hb67, go_sem, Nat.reduceAdd, Nat.reduceEqDiff, Nat.reduceLeDiff, Nat.reduceSub, reduceCtorEq, ↓reduceIte, Nat.reduceBEq, Int.reduceLT, Int.reduceLE, Int.reduceEq, Int.reduceBEq, Int.reduceBNe, Nat.reduceLT, Nat.reduceMul, List.map_append, List.map_cons, List.map_nil, List.map_set]
                                      · simp only [Option.some.injEq] at h
                                        subst h
                                        try simp only [hkhb4, hkhb6, hkhb8, hkhb10, hkhb12, hb28, hb29, hb30, hkhb30, hb31, hb32, hb33, hb56, hb65, hb66, hkhb66, hb67, go_sem, Nat.reduceAdd, Nat.reduceEqDiff, Nat.reduceLeDiff, Nat.reduceSub, reduceCtorEq, ↓reduceIte, Nat.reduceBEq, Int.reduceLT, Int.reduceLE, Int.reduceEq, Int.reduceBEq, Int.reduceBNe, Nat.reduceLT, Nat.reduceMul, List.map_append, List.map_cons, List.map_nil, List.map_set]
                                  · rcases of_if h with ⟨hb69, h⟩ | ⟨hb69, h⟩
                                    · obtain ⟨v70, hv70, h⟩ := Option.bind_eq_some_iff.1 h
                                      try simp only [hkhb4, hkhb6, hkhb8, hkhb10, hkhb12, hb28, hb29, hb30, hkhb30, hb31, hb32, hb33, hb56, hb65, hb69, go_sem, Nat.reduceAdd, Nat.reduceEqDiff, Nat.reduceLeDiff, Nat.reduceSub, reduceCtorEq, ↓reduceIte, Nat.reduceBEq, Int.reduceLT, Int.reduceLE, Int.reduceEq, Int.reduceBEq, Int.reduceBNe, Nat.reduceLT, Nat.reduceMul]
                                      refine CallV.ro false (reredosref_callMay_ok G p1.Call v70 hv70) rfl ?_
                                      rintro rs rfl
                                      refine ⟨.inl rfl, ?_⟩
                                      simp only [Option.some.injEq] at h
                                      subst h
                                      try simp only [hkhb4, hkhb6, hkhb8, hkhb10, hkhb12, hb28, hb29, hb30, hkhb30, hb31, hb32, hb33, hb56, hb65, hb69, go_sem, Nat.reduceAdd, Nat.reduceEqDiff, Nat.reduceLeDiff, Nat.reduceSub, reduceCtorEq, ↓reduceIte, Nat.reduceBEq, Int.reduceLT, Int.reduceLE, Int.reduceEq, Int.reduceBEq, Int.reduceBNe, Nat.reduceLT, Nat.reduceMul, List.map_append, List.map_cons, List.map_nil, List.map_set]
                                    · simp only [Option.some.injEq] at h
                                      subst h
                                      try simp only [hkhb4, hkhb6, hkhb8, hkhb10, hkhb12, hb28, hb29, hb30, hkhb30, hb31, hb32, hb33, hb56, hb65, hb69, go_sem, Nat.reduceAdd, Nat.reduceEqDiff, Nat.reduceLeDiff, Nat.reduceSub, reduceCtorEq, ↓reduceIte, Nat.reduceBEq, Int.reduceLT, Int.reduceLE, Int.reduceEq, Int.reduceBEq, Int.reduceBNe, Nat.reduceLT, Nat.reduceMul, List.map_append, List.map_cons, List.map_nil, List.map_set]
                        · have hkhb30 := not_eq_f hb30
                          rcases of_if h with ⟨hb71, h⟩ | ⟨hb71, h⟩
                          · try simp only [hkhb4, hkhb6, hkhb8, hkhb10, hkhb12, hb28, hb29, hb30, hkhb30, hb71, go_sem, Nat.reduceAdd, Nat.reduceEqDiff, Nat.reduceLeDiff, Nat.reduceSub, reduceCtorEq, ↓reduceIte, Nat.reduceBEq, Int.reduceLT, Int.reduceLE, Int.reduceEq, Int.reduceBEq, Int.reduceBNe, Nat.reduceLT, Nat.reduceMul]
                            intro hl72
                            rcases of_if h with ⟨hb73, h⟩ | ⟨hb73, h⟩
                            · simp only [Option.some.injEq] at h
                              subst h
                              try simp only [hkhb4, hkhb6, hkhb8, hkhb10, hkhb12, hb28, hb29, hb30, hkhb30, hb71, hb73, go_sem, Nat.reduceAdd, Nat.reduceEqDiff, Nat.reduceLeDiff, Nat.reduceSub, reduceCtorEq, ↓reduceIte, Nat.reduceBEq, Int.reduceLT, Int.reduceLE, Int.reduceEq, Int.reduceBEq, Int.reduceBNe, Nat.reduceLT, Nat.reduceMul, List.map_append, List.map_cons, List.map_nil, List.map_set]
                            · rcases of_if h with ⟨hb74, h⟩ | ⟨hb74, h⟩
                              · rcases of_if h with ⟨hb75, h⟩ | ⟨hb75, h⟩
                                · have hkhb75 := not_eq_t hb75
                                  simp only [Option.some.injEq] at h
                                  subst h
                                  try simp only [hkhb4, hkhb6, hkhb8, hkhb10, hkhb12, hb28, hb29, hb30, hkhb30, hb71, hb73, hb74, hb75, hkhb75, go_sem, Nat.reduceAdd, Nat.reduceEqDiff, Nat.reduceLeDiff, Nat.reduceSub, reduceCtorEq, ↓reduceIte, Nat.reduceBEq, Int.reduceLT, Int.reduceLE, Int.reduceEq, Int.reduceBEq, Int.reduceBNe, Nat.reduceLT, Nat.reduceMul, List.map_append, List.map_cons, List.map_nil, List.map_set]
                                · have hkhb75 := not_eq_f hb75
                                  rcases of_if h with ⟨hb76, h⟩ | ⟨hb76, h⟩
                                  · rcases of_if h with ⟨hb77, h⟩ | ⟨hb77, h⟩
                                    · have hkhb77 := not_eq_t hb77
                                      simp only [Option.some.injEq] at h
                                      subst h
                                      try simp only [hkhb4, hkhb6, hkhb8, hkhb10, hkhb12, hb28, hb29, hb30, hkhb30, hb71, hb73, hb74, hb75, hkhb75, hb76, hb77, hkhb77, go_sem, Nat.reduceAdd, Nat.reduceEqDiff, Nat.reduceLeDiff, Nat.reduceSub, reduceCtorEq, ↓reduceIte, Nat.reduceBEq, Int.reduceLT, Int.reduceLE, Int.reduceEq, Int.reduceBEq, Int.reduceBNe, Nat.reduceLT, Nat.reduceMul, List.map_append, List.map_cons, List.map_nil, List.map_set]
                                    · have hkhb77 := not_eq_f hb77
                                      rcases of_if h with ⟨hb78, h⟩ | ⟨hb78, h⟩
                                      · obtain ⟨v79, hv79, h⟩ := Option.bind_eq_some_iff.1 h
                                        try simp only [hkhb4, hkhb6, hkhb8, hkhb10, hkhb12, hb28, hb29, hb30, hkhb30, hb71, hb73, hb74, hb75, hkhb75, hb76, hb77, hkhb77, hb78, go_sem, Nat.reduceAdd, Nat.reduceEqDiff, Nat.reduceLeDiff, Nat.reduceSub, reduceCtorEq, ↓reduceIte, Nat.reduceBEq, Int.reduceLT, Int.reduceLE, Int.reduceEq, Int.reduceBEq, Int.reduceBNe, Nat.reduceLT, Nat.reduceMul]
                                        refine CallV.ro false (reredosref_callMay_ok G p1.Call v79 hv79) rfl ?_
                                        rintro rs rfl
                                        refine ⟨.inl rfl, ?_⟩
                                        simp only [Option.some.injEq] at h
                                        subst h
                                        try simp only [hkhb4, hkhb6, hkhb8, hkhb10, hkhb12, hb28, hb29, hb30, hkhb30, hb71, hb73, hb74, hb75, hkhb75, hb76, hb77, hkhb77, hb78, go_sem, Nat.reduceAdd, Nat.reduceEqDiff, Nat.reduceLeDiff, Nat.reduceSub, reduceCtorEq, ↓reduceIte, Nat.reduceBEq, Int.reduceLT, Int.reduceLE, Int.reduceEq, Int.reduceBEq, Int.reduceBNe, Nat.reduceLT, Nat.reduceMul, List.map_append, List.map_cons, List.map_nil, List.map_set]
                                      · simp only [Option.some.injEq] at h
                                        subst h
                                        try simp only [hkhb4, hkhb6, hkhb8, hkhb10, hkhb12, hb28, hb29, hb30, hkhb30, hb71, hb73, hb74, hb75, hkhb75, hb76, hb77, hkhb77, hb78, go_sem, Nat.reduceAdd, Nat.reduceEqDiff, Nat.reduceLeDiff, Nat.reduceSub, reduceCtorEq, ↓reduceIte, Nat.reduceBEq, Int.reduceLT, Int.reduceLE, Int.reduceEq, Int.reduceBEq, Int.reduceBNe, Nat.reduceLT, Nat.reduceMul, List.map_append, List.map_cons, List.map_nil, List.map_set]
                                  · rcases of_if h with ⟨hb80, h⟩ | ⟨hb80, h⟩
                                    · obtain ⟨v81, hv81, h⟩ := Option.bind_eq_some_iff.1 h
                                      try simp only [hkhb4, hkhb6, hkhb8, hkhb10, hkhb12, hb28, hb29, hb30, hkhb30, hb71, hb73, hb74, hb75, hkhb75, hb76, hb80, go_sem, Nat.reduceAdd, Nat.reduceEqDiff, Nat.reduceLeDiff, Nat.reduceSub, reduceCtorEq, ↓reduceIte, Nat.reduceBEq, Int.reduceLT, Int.reduceLE, Int.reduceEq, Int.reduceBEq, Int.reduceBNe, Nat.reduceLT, Nat.reduceMul]
                                      refine CallV.ro false (reredosref_callMay_ok G p1.Call v81 hv81) rfl ?_
                                      rintro rs rfl
                                      refine ⟨.inl rfl, ?_⟩
                                      simp only [Option.some.injEq] at h
                                      subst h
                                      try simp only [hkhb4, hkhb6, hkhb8, hkhb10, hkhb12, hb28, hb29, hb30, hkhb30, hb71, hb73, hb74, hb75, hkhb75, hb76, hb80, go_sem, Nat.reduceAdd, Nat.reduceEqDiff, Nat.reduceLeDiff, Nat.reduceSub, reduceCtorEq, ↓reduceIte, Nat.reduceBEq, Int.reduceLT, Int.reduceLE, Int.reduceEq, Int.reduceBEq, Int.reduceBNe, Nat.reduceLT, Nat.reduceMul, List.map_append, List.map_cons, List.map_nil, List.map_set]
                                    · simp only [Option.some.injEq] at h
                                      subst h
                                      try simp only [hkhb4, hkhb6, hkhb8, hkhb10, hkhb12, hb28, hb29, hb30, hkhb30, hb71, hb73, hb74, hb75, hkhb75, hb76, hb80, go_sem, Nat.reduceAdd, Nat.reduceEqDiff, Nat.reduceLeDiff, Nat.reduceSub, reduceCtorEq, ↓reduceIte, Nat.reduceBEq, Int.reduceLT, Int.reduceLE, Int.reduceEq, Int.reduceBEq, Int.reduceBNe, Nat.reduceLT, Nat.reduceMul, List.map_append, List.map_cons, List.map_nil, List.map_set]
                              · rcases of_if h with ⟨hb82, h⟩ | ⟨hb82, h⟩
                                · rcases of_if h with ⟨hb83, h⟩ | ⟨hb83, h⟩
                                  · have hkhb83 := not_eq_t hb83
                                    simp only [Option.some.injEq] at h
                                    subst h
                                    try simp only [hkhb4, hkhb6, hkhb8, hkhb10, hkhb12, hb28, hb29, hb30, hkhb30, hb71, hb73, hb74, hb82, hb83, hkhb83, go_sem, Nat.reduceAdd, Nat.reduceEqDiff, Nat.reduceLeDiff, Nat.reduceSub, reduceCtorEq, ↓reduceIte, Nat.reduceBEq, Int.reduceLT, Int.reduceLE, Int.reduceEq, Int.reduceBEq, Int.reduceBNe, Nat.reduceLT, Nat.reduceMul, List.map_append, List.map_cons, List.map_nil, List.map_set]
                                  · have hkhb83 := not_eq_f hb83
                                    rcases of_if h with ⟨hb84, h⟩ | ⟨hb84, h⟩
                                    · obtain ⟨v85, hv85, h⟩ := Option.bind_eq_some_iff.1 h
                                      try simp only [hkhb4, hkhb6, hkhb8, hkhb10, hkhb12, hb28, hb29, hb30, hkhb30, hb71, hb73, hb74, hb82, hb83, hkhb83, hb84, go_sem, Nat.reduceAdd, Nat.reduceEqDiff, Nat.reduceLeDiff, Nat.reduceSub, reduceCtorEq, ↓reduceIte, Nat.reduceBEq, Int.reduceLT, Int.reduceLE, Int.reduceEq, Int.reduceBEq, Int.reduceBNe, Nat.reduceLT, Nat.reduceMul]
                                      refine CallV.ro false (reredosref_callMay_ok G p1.Call v85 hv85) rfl ?_
                                      rintro rs rfl
                                      refine ⟨.inl rfl, ?_⟩
                                      simp only [Option.some.injEq] at h
                                      subst h
                                      try simp only [hkhb4, hkhb6, hkhb8, hkhb10, hkhb12, hb28, hb29, hb30, hkhb30, hb71, hb73, hb74, hb82, hb83, hkhb83, hb84, go_sem, Nat.reduceAdd, Nat.reduceEqDiff, Nat.reduceLeDiff, Nat.reduceSub, reduceCtorEq, ↓reduceIte, Nat.reduceBEq, Int.reduceLT, Int.reduceLE, Int.reduceEq, Int.reduceBEq, Int.reduceBNe, Nat.reduceLT, Nat.reduceMul, List.map_append, List.map_cons, List.map_nil, List.map_set]
                                    · simp only [Option.some.injEq] at h
                                      subst h
                                      try simp only [hkhb4, hkhb6, hkhb8, hkhb10, hkhb12, hb28, hb29, hb30, hkhb30, hb71, hb73, hb74, hb82, hb83, hkhb83, hb84, go_sem, Nat.reduceAdd, Nat.reduceEqDiff, Nat.reduceLeDiff, Nat.reduceSub, reduceCtorEq, ↓reduceIte, Nat.reduceBEq, Int.reduceLT, Int.reduceLE, Int.reduceEq, Int.reduceBEq, Int.reduceBNe, Nat.reduceLT, Nat.reduceMul, List.map_append, List.map_cons, List.map_nil, List.map_set]
                                · rcases of_if h with ⟨hb86, h⟩ | ⟨hb86, h⟩
                                  · obtain ⟨v87, hv87, h⟩ := Option.bind_eq_some_iff.1 h
                                    try simp only [hkhb4, hkhb6, hkhb8, hkhb10, hkhb12, hb28, hb29, hb30, hkhb30, hb71, hb73, hb74, hb82, hb86, go_sem, Nat.reduceAdd, Nat.reduceEqDiff, Nat.reduceLeDiff, Nat.reduceSub, reduceCtorEq, ↓reduceIte, Nat.reduceBEq, Int.reduceLT, Int.reduceLE, Int.reduceEq, Int.reduceBEq, Int.reduceBNe, Nat.reduceLT, Nat.reduceMul]
                                    refine CallV.ro false (reredosref_callMay_ok G p1.Call v87 hv87) rfl ?_
                                    rintro rs rfl
                                    refine ⟨.inl rfl, ?_⟩
                                    simp only [Option.some.injEq] at h
                                    subst h
                                    try simp only [hkhb4, hkhb6, hkhb8, hkhb10, hkhb12, hb28, hb29, hb30, hkhb30, hb71, hb73, hb74, hb82, hb86, go_sem, Nat.reduceAdd, Nat.reduceEqDiff, Nat.reduceLeDiff, Nat.reduceSub, reduceCtorEq, ↓reduceIte, Nat.reduceBEq, Int.reduceLT, Int.reduceLE, Int.reduceEq, Int.reduceBEq, Int.reduceBNe, Nat.reduceLT, Nat.reduceMul, List.map_append, List.map_cons, List.map_nil, List.map_set]
                                  · simp only [Option.some.injEq] at h
                                    subst h
                                    try simp only [hkhb4, hkhb6, hkhb8, hkhb10, hkhb12, hb28, hb29, hb30, hkhb30, hb71, hb73, hb74, hb82, hb86, go_sem, Nat.reduceAdd, Nat.reduceEqDiff, Nat.reduceLeDiff, Nat.reduceSub, reduceCtorEq, ↓reduceIte, Nat.reduceBEq, Int.reduceLT, Int.reduceLE, Int.reduceEq, Int.reduceBEq, Int.reduceBNe, Nat.reduceLT, Nat.reduceMul, List.map_append, List.map_cons, List.map_nil, List.map_set]
                          · rcases of_if h with ⟨hb88, h⟩ | ⟨hb88, h⟩
                            · rcases of_if h with ⟨hb89, h⟩ | ⟨hb89, h⟩
                              · have hkhb89 := not_eq_t hb89
                                simp only [Option.some.injEq] at h
                                subst h
                                try simp only [hkhb4, hkhb6, hkhb8, hkhb10, hkhb12, hb28, hb29, hb30, hkhb30, hb71, hb88, hb89, hkhb89, go_sem, Nat.reduceAdd, Nat.reduceEqDiff, Nat.reduceLeDiff, Nat.reduceSub, reduceCtorEq, ↓reduceIte, Nat.reduceBEq, Int.reduceLT, Int.reduceLE, Int.reduceEq, Int.reduceBEq, Int.reduceBNe, Nat.reduceLT, Nat.reduceMul, List.map_append, List.map_cons, List.map_nil, List.map_set]
                              · have hkhb89 := not_eq_f hb89
                                rcases of_if h with ⟨hb90, h⟩ | ⟨hb90, h⟩
                                · rcases of_if h with ⟨hb91, h⟩ | ⟨hb91, h⟩
                                  · have hkhb91 := not_eq_t hb91
                                    simp only [Option.some.injEq] at h
                                    subst h
                                    try simp only [hkhb4, hkhb6, hkhb8, hkhb10, hkhb12, hb28, hb29, hb30, hkhb30, hb71, hb88, hb89, hkhb89, hb90, hb91, hkhb91, go_sem, Nat.reduceAdd, Nat.reduceEqDiff, Nat.reduceLeDiff, Nat.reduceSub, reduceCtorEq, ↓reduceIte, Nat.reduceBEq, Int.reduceLT, Int.reduceLE, Int.reduceEq, Int.reduceBEq, Int.reduceBNe, Nat.reduceLT, Nat.reduceMul, List.map_append, List.map_cons, List.map_nil, List.map_set]
                                  · have hkhb91 := not_eq_f hb91
                                    rcases of_if h with ⟨hb92, h⟩ | ⟨hb92, h⟩
                                    · obtain ⟨v93, hv93, h⟩ := Option.bind_eq_some_iff.1 h
                                      try simp only [hkhb4, hkhb6, hkhb8, hkhb10, hkhb12, hb28, hb29, hb30, hkhb30, hb71, hb88, hb89, hkhb89, hb90, hb91, hkhb91, hb92, go_sem, Nat.reduceAdd, Nat.reduceEqDiff, Nat.reduceLeDiff, Nat.reduceSub, reduceCtorEq, ↓reduceIte, Nat.reduceBEq, Int.reduceLT, Int.reduceLE, Int.reduceEq, Int.reduceBEq, Int.reduceBNe, Nat.reduceLT, Nat.reduceMul]
                                      refine CallV.ro false (reredosref_callMay_ok G p1.Call v93 hv93) rfl ?_
                                      rintro rs rfl
                                      refine ⟨.inl rfl, ?_⟩
                                      simp only [Option.some.injEq] at h
                                      subst h
                                      try simp only [hkhb4, hkhb6, hkhb8, hkhb10, hkhb12, hb28, hb29, hb30, hkhb30, hb71, hb88, hb89, hkhb89, hb90, hb91, hkhb91, hb92, go_sem, Nat.reduceAdd, Nat.reduceEqDiff, Nat.reduceLeDiff, Nat.reduceSub, reduceCtorEq, ↓reduceIte, Nat.reduceBEq, Int.reduceLT, Int.reduceLE, Int.reduceEq, Int.reduceBEq, Int.reduceBNe, Nat.reduceLT, Nat.reduceMul, List.map_append, List.map_cons, List.map_nil, List.map_set]
                                    · simp only [Option.some.injEq] at h
                                      subst h
                                      try simp only [hkhb4, hkhb6, hkhb8, hkhb10, hkhb12, hb28, hb29, hb30, hkhb30, hb71, hb88, hb89, hkhb89, hb90, hb91, hkhb91, hb92, go_sem, Nat.reduceAdd, Nat.reduceEqDiff, Nat.reduceLeDiff, Nat.reduceSub, reduceCtorEq, ↓reduceIte, Nat.reduceBEq, Int.reduceLT, Int.reduceLE, Int.reduceEq, Int.reduceBEq, Int.reduceBNe, Nat.reduceLT, Nat.reduceMul, List.map_append, List.map_cons, List.map_nil, List.map_set]
                                · rcases of_if h with ⟨hb94, h⟩ | ⟨hb94, h⟩
                                  · obtain ⟨v95, hv95, h⟩ := Option.bind_eq_some_iff.1 h
                                    try simp only [hkhb4, hkhb6, hkhb8, hkhb10, hkhb12, hb28, hb29, hb30, hkhb30, hb71, hb88, hb89, hkhb89, hb90, hb94, go_sem, Nat.reduceAdd, Nat.reduceEqDiff, Nat.reduceLeDiff, Nat.reduceSub, reduceCtorEq, ↓reduceIte, Nat.reduceBEq, Int.reduceLT, Int.reduceLE, Int.reduceEq, Int.reduceBEq, Int.reduceBNe, Nat.reduceLT, Nat.reduceMul]
                                    refine CallV.ro false (reredosref_callMay_ok G p1.Call v95 hv95) rfl ?_
                                    rintro rs rfl
                                    refine ⟨.inl rfl, ?_⟩
                                    simp only [Option.some.injEq] at h
                                    subst h
                                    try simp only [hkhb4, hkhb6, hkhb8, hkhb10, hkhb12, hb28, hb29, hb30, hkhb30, hb71, hb88, hb89, hkhb89, hb90, hb94, go_sem, Nat.reduceAdd, Nat.reduceEqDiff, Nat.reduceLeDiff, Nat.reduceSub, reduceCtorEq, ↓reduceIte, Nat.reduceBEq, Int.reduceLT, Int.reduceLE, Int.reduceEq, Int.reduceBEq, Int.reduceBNe, Nat.reduceLT, Nat.reduceMul, List.map_append, List.map_cons, List.map_nil, List.map_set]
                                  · simp only [Option.some.injEq] at h
                                    subst h
                                    try simp only [hkhb4, hkhb6, hkhb8, hkhb10, hkhb12, hb28, hb29, hb30, hkhb30, hb71, hb88, hb89, hkhb89, hb90, hb94, go_sem, Nat.reduceAdd, Nat.reduceEqDiff, Nat.reduceLeDiff, Nat.reduceSub, reduceCtorEq, ↓reduceIte, Nat.reduceBEq, Int.reduceLT, Int.reduceLE, Int.reduceEq, Int.reduceBEq, Int.reduceBNe, Nat.reduceLT, Nat.reduceMul, List.map_append, List.map_cons, List.map_nil, List.map_set]
                            · rcases of_if h with ⟨hb96, h⟩ | ⟨hb96, h⟩
                              · rcases of_if h with ⟨hb97, h⟩ | ⟨hb97, h⟩
                                · have hkhb97 := not_eq_t hb97
                                  simp only [Option.some.injEq] at h
                                  subst h
                                  try simp only [hkhb4, hkhb6, hkhb8, hkhb10, hkhb12, hb28, hb29, hb30, hkhb30, hb71, hb88, hb96, hb97, hkhb97, go_sem, Nat.reduceAdd, Nat.reduceEqDiff, Nat.reduceLeDiff, Nat.reduceSub, reduceCtorEq, ↓reduceIte, Nat.reduceBEq, Int.reduceLT, Int.reduceLE, Int.reduceEq, Int.reduceBEq, Int.reduceBNe, Nat.reduceLT, Nat.reduceMul, List.map_append, List.map_cons, List.map_nil, List.map_set]
                                · have hkhb97 := not_eq_f hb97
                                  rcases of_if h with ⟨hb98, h⟩ | ⟨hb98, h⟩
                                  · obtain ⟨v99, hv99, h⟩ := Option.bind_eq_some_iff.1 h
                                    try simp only [hkhb4, hkhb6, hkhb8, hkhb10, hkhb12, hb28, hb29, hb30, hkhb30, hb71, hb88, hb96, hb97, hkhb97, hb98, go_sem, Nat.reduceAdd, Nat.reduceEqDiff, Nat.reduceLeDiff, Nat.reduceSub, reduceCtorEq, ↓reduceIte, Nat.reduceBEq, Int.reduceLT, Int.reduceLE, Int.reduceEq, Int.reduceBEq, Int.reduceBNe, Nat.reduceLT, Nat.reduceMul]
                                    refine CallV.ro false (reredosref_callMay_ok G p1.Call v99 hv99) rfl ?_
                                    rintro rs rfl
                                    refine ⟨.inl rfl, ?_⟩
                                    simp only [Option.some.injEq] at h
                                    subst h
                                    try simp only [hkhb4, hkhb6, hkhb8, hkhb10, hkhb12, hb28, hb29, hb30, hkhb30, hb71, hb88, hb96, hb97, hkhb97, hb98, go_sem, Nat.reduceAdd, Nat.reduceEqDiff, Nat.reduceLeDiff, Nat.reduceSub, reduceCtorEq, ↓reduceIte, Nat.reduceBEq, Int.reduceLT, Int.reduceLE, Int.reduceEq, Int.reduceBEq, Int.reduceBNe, Nat.reduceLT, Nat.reduceMul, List.map_append, List.map_cons, List.map_nil, List.map_set]
                                  · simp only [Option.some.injEq] at h
                                    subst h
                                    try simp only [hkhb4, hkhb6, hkhb8, hkhb10, hkhb12, hb28, hb29, hb30, hkhb30, hb71, hb88, hb96, hb97, hkhb97, hb98, go_sem, Nat.reduceAdd, Nat.reduceEqDiff, Nat.reduceLeDiff, Nat.reduceSub, reduceCtorEq, ↓reduceIte, Nat.reduceBEq, Int.reduceLT, Int.reduceLE, Int.reduceEq, Int.reduceBEq, Int.reduceBNe, Nat.reduceLT, Nat.reduceMul, List.map_append, List.map_cons, List.map_nil, List.map_set]
                              · rcases of_if h with ⟨hb100, h⟩ | ⟨hb100, h⟩
                                · obtain ⟨v101, hv101, h⟩ := Option.bind_eq_some_iff.1 h
                                  try simp only [hkhb4, hkhb6, hkhb8, hkhb10, hkhb12, hb28, hb29, hb30, hkhb30, hb71, hb88, hb96, hb100, go_sem, Nat.reduceAdd, Nat.reduceEqDiff, Nat.reduceLeDiff, Nat.reduceSub, reduceCtorEq, ↓reduceIte, Nat.reduceBEq, Int.reduceLT, Int.reduceLE, Int.reduceEq, Int.reduceBEq, Int.reduceBNe, Nat.reduceLT, Nat.reduceMul]
                                  refine CallV.ro false (reredosref_callMay_ok G p1.Call v101 hv101) rfl ?_
                                  rintro rs rfl
                                  refine ⟨.inl rfl, ?_⟩
                                  simp only [Option.some.injEq] at h
                                  subst h
                                  try simp only [hkhb4, hkhb6, hkhb8, hkhb10, hkhb12, hb28, hb29, hb30, hkhb30, hb71, hb88, hb96, hb100, go_sem, Nat.reduceAdd, Nat.reduceEqDiff, Nat.reduceLeDiff, Nat.reduceSub, reduceCtorEq, ↓reduceIte, Nat.reduceBEq, Int.reduceLT, Int.reduceLE, Int.reduceEq, Int.reduceBEq, Int.reduceBNe, Nat.reduceLT, Nat.reduceMul, List.map_append, List.map_cons, List.map_nil, List.map_set]
                                · simp only [Option.some.injEq] at h
                                  subst h
                                  try simp only [hkhb4, hkhb6, hkhb8, hkhb10, hkhb12, hb28, hb29, hb30, hkhb30, hb71, hb88, hb96, hb100, go_sem, Nat.reduceAdd, Nat.reduceEqDiff, Nat.reduceLeDiff, Nat.reduceSub, reduceCtorEq, ↓reduceIte, Nat.reduceBEq, Int.reduceLT, Int.reduceLE, Int.reduceEq, Int.reduceBEq, Int.reduceBNe, Nat.reduceLT, Nat.reduceMul, List.map_append, List.map_cons, List.map_nil, List.map_set]
                    · rcases of_if h with ⟨hb102, h⟩ | ⟨hb102, h⟩
                      · have hkhb102 := not_eq_t hb102
                        rcases of_if h with ⟨hb103, h⟩ | ⟨hb103, h⟩
                        · simp only [Option.some.injEq] at h
                          subst h
                          try simp only [hkhb4, hkhb6, hkhb8, hkhb10, hkhb12, hb28, hb102, hkhb102, hb103, go_sem, Nat.reduceAdd, Nat.reduceEqDiff, Nat.reduceLeDiff, Nat.reduceSub, reduceCtorEq, ↓reduceIte, Nat.reduceBEq, Int.reduceLT, Int.reduceLE, Int.reduceEq, Int.reduceBEq, Int.reduceBNe, Nat.reduceLT, Nat.reduceMul, List.map_append, List.map_cons, List.map_nil, List.map_set]
                        · rcases of_if h with ⟨hb104, h⟩ | ⟨hb104, h⟩
                          · simp only [Option.some.injEq] at h
                            subst h
                            try simp only [hkhb4, hkhb6, hkhb8, hkhb10, hkhb12, hb28, hb102, hkhb102, hb103, hb104, go_sem, Nat.reduceAdd, Nat.reduceEqDiff, Nat.reduceLeDiff, Nat.reduceSub, reduceCtorEq, ↓reduceIte, Nat.reduceBEq, Int.reduceLT, Int.reduceLE, Int.reduceEq, Int.reduceBEq, Int.reduceBNe, Nat.reduceLT, Nat.reduceMul, List.map_append, List.map_cons, List.map_nil, List.map_set]
                          · rcases of_if h with ⟨hb105, h⟩ | ⟨hb105, h⟩
                            · rcases of_if h with ⟨hb106, h⟩ | ⟨hb106, h⟩
                              · rcases of_if h with ⟨hb107, h⟩ | ⟨hb107, h⟩
                                · simp only [Option.some.injEq] at h
                                  subst h
                                  try simp only [hkhb4, hkhb6, hkhb8, hkhb10, hkhb12, hb28, hb102, hkhb102, hb103, hb104, hb105, hb106, hb107, go_sem, Nat.reduceAdd, Nat.reduceEqDiff, Nat.reduceLeDiff, Nat.reduceSub, reduceCtorEq, ↓reduceIte, Nat.reduceBEq, Int.reduceLT, Int.reduceLE, Int.reduceEq, Int.reduceBEq, Int.reduceBNe, Nat.reduceLT, Nat.reduceMul, List.map_append, List.map_cons, List.map_nil, List.map_set]
                                · rcases of_if h with ⟨hb108, h⟩ | ⟨hb108, h⟩
                                  · try simp only [hkhb4, hkhb6, hkhb8, hkhb10, hkhb12, hb28, hb102, hkhb102, hb103, hb104, hb105, hb106, hb107, hb108, go_sem, Nat.reduceAdd, Nat.reduceEqDiff, Nat.reduceLeDiff, Nat.reduceSub, reduceCtorEq, ↓reduceIte, Nat.reduceBEq, Int.reduceLT, Int.reduceLE, Int.reduceEq, Int.reduceBEq, Int.reduceBNe, Nat.reduceLT, Nat.reduceMul]
                                    intro hl109
                                    rcases of_if h with ⟨hb110, h⟩ | ⟨hb110, h⟩
                                    · simp only [Option.some.injEq] at h
                                      subst h
                                      try simp only [hkhb4, hkhb6, hkhb8, hkhb10, hkhb12, hb28, hb102, hkhb102, hb103, hb104, hb105, hb106, hb107, hb108, hb110, go_sem, Nat.reduceAdd, Nat.reduceEqDiff, Nat.reduceLeDiff, Nat.reduceSub, reduceCtorEq, ↓reduceIte, Nat.reduceBEq, Int.reduceLT, Int.reduceLE, Int.reduceEq, Int.reduceBEq, Int.reduceBNe, Nat.reduceLT, Nat.reduceMul, List.map_append, List.map_cons, List.map_nil, List.map_set]
                                    · rcases of_if h with ⟨hb111, h⟩ | ⟨hb111, h⟩
                                      · have hkhb111 := not_eq_t hb111
                                        simp only [Option.some.injEq] at h
                                        subst h
                                        try simp only [hkhb4, hkhb6, hkhb8, hkhb10, hkhb12, hb28, hb102, hkhb102, hb103, hb104, hb105, hb106, hb107, hb108, hb110, hb111, hkhb111, go_sem, Nat.reduceAdd, Nat.reduceEqDiff, Nat.reduceLeDiff, Nat.reduceSub, reduceCtorEq, ↓reduceIte, Nat.reduceBEq, Int.reduceLT, Int.reduceLE, Int.reduceEq, Int.reduceBEq, Int.reduceBNe, Nat.reduceLT, Nat.reduceMul, List.map_append, List.map_cons, List.map_nil, List.map_set]
                                      · have hkhb111 := not_eq_f hb111
                                        rcases of_if h with ⟨hb112, h⟩ | ⟨hb112, h⟩
                                        · have hkhb112 := not_eq_t hb112
                                          simp only [Option.some.injEq] at h
                                          subst h
                                          try simp only [hkhb4, hkhb6, hkhb8, hkhb10, hkhb12, hb28, hb102, hkhb102, hb103, hb104, hb105, hb106, hb107, hb108, hb110, hb111, hkhb111, hb112, hkhb112, go_sem, Nat.reduceAdd, Nat.reduceEqDiff, Nat.reduceLeDiff, Nat.reduceSub, reduceCtorEq, ↓reduceIte, Nat.reduceBEq, Int.reduceLT, Int.reduceLE, Int.reduceEq, Int.reduceBEq, Int.reduceBNe, Nat.reduceLT, Nat.reduceMul, List.map_append, List.map_cons, List.map_nil, List.map_set]
                                        · have hkhb112 := not_eq_f hb112
                                          rcases of_if h with ⟨hb113, h⟩ | ⟨hb113, h⟩
                                          · obtain ⟨v114, hv114, h⟩ := Option.bind_eq_some_iff.1 h
                                            try simp only [hkhb4, hkhb6, hkhb8, hkhb10, hkhb12, hb28, hb102, hkhb102, hb103, hb104, hb105, hb106, hb107, hb108, hb110, hb111, hkhb111, hb112, hkhb112, hb113, go_sem, Nat.reduceAdd, Nat.reduceEqDiff, Nat.reduceLeDiff, Nat.reduceSub, reduceCtorEq, ↓reduceIte, Nat.reduceBEq, Int.reduceLT, Int.reduceLE, Int.reduceEq, Int.reduceBEq, Int.reduceBNe, Nat.reduceLT, Nat.reduceMul]
                                            refine CallV.ro false (reredosref_callMay_ok G p1.Call v114 hv114) rfl ?_
                                            rintro rs rfl
                                            refine ⟨.inl rfl, ?_⟩
                                            simp only [Option.some.injEq] at h
                                            subst h
                                            try simp only [hkhb4, hkhb6, hkhb8, hkhb10, hkhb12, hb28, hb102, hkhb102, hb103, hb104, hb105, hb106, hb107, hb108, hb110, hb111, hkhb111, hb112, hkhb112, hb113, go_sem, Nat.reduceAdd, Nat.reduceEqDiff, Nat.reduceLeDiff, Nat.reduceSub, reduceCtorEq, ↓reduceIte, Nat.reduceBEq, Int.reduceLT, Int.reduceLE, Int.reduceEq, Int.reduceBEq, Int.reduceBNe, Nat.reduceLT, Nat.reduceMul, List.map_append, List.map_cons, List.map_nil, List.map_set]
                                          · simp only [Option.some.injEq] at h
                                            subst h
                                            try simp only [hkhb4, hkhb6, hkhb8, hkhb10, hkhb12, hb28, hb102, hkhb102, hb103, hb104, hb105, hb106, hb107, hb108, hb110, hb111, hkhb111, hb112, hkhb112, hb113, go_sem, Nat.reduceAdd, Nat.reduceEqDiff, Nat.reduceLeDiff, Nat.reduceSub, reduceCtorEq, ↓reduceIte, Nat.reduceBEq, Int.reduceLT, Int.reduceLE, Int.reduceEq, Int.reduceBEq, Int.reduceBNe, Nat.reduceLT, Nat.reduceMul, List.map_append, List.map_cons, List.map_nil, List.map_set]
                                  · rcases of_if h with ⟨hb115, h⟩ | ⟨hb115, h⟩
                                    · have hkhb115 := not_eq_t hb115
                                      simp only [Option.some.injEq] at h
                                      subst h
                                      try simp only [hkhb4, hkhb6, hkhb8, hkhb10, hkhb12, hb28, hb102, hkhb102, hb103, hb104, hb105, hb106, hb107, hb108, hb115, hkhb115, go_sem, Nat.reduceAdd, Nat.reduceEqDiff, Nat.reduceLeDiff, Nat.reduceSub, reduceCtorEq, ↓reduceIte, Nat.reduceBEq, Int.reduceLT, Int.reduceLE, Int.reduceEq, Int.reduceBEq, Int.reduceBNe, Nat.reduceLT, Nat.reduceMul, List.map_append, List.map_cons, List.map_nil, List.map_set]
                                    · have hkhb115 := not_eq_f hb115
                                      rcases of_if h with ⟨hb116, h⟩ | ⟨hb116, h⟩
                                      · have hkhb116 := not_eq_t hb116
                                        simp only [Option.some.injEq] at h
                                        subst h
                                        try simp only [hkhb4, hkhb6, hkhb8, hkhb10, hkhb12, hb28, hb102, hkhb102, hb103, hb104, hb105, hb106, hb107, hb108, hb115, hkhb115, hb116, hkhb116, go_sem, Nat.reduceAdd, Nat.reduceEqDiff, Nat.reduceLeDiff, Nat.reduceSub, reduceCtorEq, ↓reduceIte, Nat.reduceBEq, Int.reduceLT, Int.reduceLE, Int.reduceEq, Int.reduceBEq, Int.reduceBNe, Nat.reduceLT, Nat.reduceMul, List.map_append, List.map_cons, List.map_nil, List.map_set]
                                      · have hkhb116 := not_eq_f hb116
                                        rcases of_if h with ⟨hb117, h⟩ | ⟨hb117, h⟩
                                        · obtain ⟨v118, hv118, h⟩ := Option.bind_eq_some_iff.1 h
                                          try simp only [hkhb4, hkhb6, hkhb8, hkhb10, hkhb12, hb28, hb102, hkhb102, hb103, hb104, hb105, hb106, hb107, hb108, hb115, hkhb115, hb116, hkhb116, hb117, go_sem, Nat.reduceAdd, Nat.reduceEqDiff, Nat.reduceLeDiff, Nat.reduceSub, reduceCtorEq, ↓reduceIte, Nat.reduceBEq, Int.reduceLT, Int.reduceLE, Int.reduceEq, Int.reduceBEq, Int.reduceBNe, Nat.reduceLT, Nat.reduceMul]
                                          refine CallV.ro false (reredosref_callMay_ok G p1.Call v118 hv118) rfl ?_
                                          rintro rs rfl
                                          refine ⟨.inl rfl, ?_⟩
                                          simp only [Option.some.injEq] at h
                                          subst h
                                          try simp only [hkhb4, hkhb6, hkhb8, hkhb10, hkhb12, hb28, hb102, hkhb102, hb103, hb104, hb105, hb106, hb107, hb108, hb115, hkhb115, hb116, hkhb116, hb117, go_sem, Nat.reduceAdd, Nat.reduceEqDiff, Nat.reduceLeDiff, Nat.reduceSub, reduceCtorEq, ↓reduceIte, Nat.reduceBEq, Int.reduceLT, Int.reduceLE, Int.reduceEq, Int.reduceBEq, Int.reduceBNe, Nat.reduceLT, Nat.reduceMul, List.map_append, List.map_cons, List.map_nil, List.map_set]
                                        · simp only [Option.some.injEq] at h
                                          subst h
                                          try simp only [hkhb4, hkhb6, hkhb8, hkhb10, hkhb12, hb28, hb102, hkhb102, hb103, hb104, hb105, hb106, hb107, hb108, hb115, hkhb115, hb116, hkhb116, hb117, go_sem, Nat.reduceAdd, Nat.reduceEqDiff, Nat.reduceLeDiff, Nat.reduceSub, reduceCtorEq, ↓reduceIte, Nat.reduceBEq, Int.reduceLT, Int.reduceLE, Int.reduceEq, Int.reduceBEq, Int.reduceBNe, Nat.reduceLT, Nat.reduceMul, List.map_append, List.map_cons, List.map_nil, List.map_set]
                              · rcases of_if h with ⟨hb119, h⟩ | ⟨hb119, h⟩
                                · try simp only [hkhb4, hkhb6, hkhb8, hkhb10, hkhb12, hb28, hb102, hkhb102, hb103, hb104, hb105, hb106, hb119, go_sem, Nat.reduceAdd, Nat.reduceEqDiff, Nat.reduceLeDiff, Nat.reduceSub, reduceCtorEq, ↓reduceIte, Nat.reduceBEq, Int.reduceLT, Int.reduceLE, Int.reduceEq, Int.reduceBEq, Int.reduceBNe, Nat.reduceLT, Nat.reduceMul]
                                  intro hl120
                                  rcases of_if h with ⟨hb121, h⟩ | ⟨hb121, h⟩
                                  · simp only [Option.some.injEq] at h
                                    subst h
                                    try simp only [hkhb4, hkhb6, hkhb8, hkhb10, hkhb12, hb28, hb102, hkhb102, hb103, hb104, hb105, hb106, hb119, hb121, go_sem, Nat.reduceAdd, Nat.reduceEqDiff, Nat.reduceLeDiff, Nat.reduceSub, reduceCtorEq, ↓reduceIte, Nat.reduceBEq, Int.reduceLT, Int.reduceLE, Int.reduceEq, Int.reduceBEq, Int.reduceBNe, Nat.reduceLT, Nat.reduceMul, List.map_append, List.map_cons, List.map_nil, List.map_set]
                                  · rcases of_if h with ⟨hb122, h⟩ | ⟨hb122, h⟩
                                    · have hkhb122 := not_eq_t hb122
                                      simp only [Option.some.injEq] at h
                                      subst h
                                      try simp only [hkhb4, hkhb6, hkhb8, hkhb10, hkhb12, hb28, hb102, hkhb102, hb103, hb104, hb105, hb106, hb119, hb121, hb122, hkhb122, go_sem, Nat.reduceAdd, Nat.reduceEqDiff, Nat.reduceLeDiff, Nat.reduceSub, reduceCtorEq, ↓reduceIte, Nat.reduceBEq, Int.reduceLT, Int.reduceLE, Int.reduceEq, Int.reduceBEq, Int.reduceBNe, Nat.reduceLT, Nat.reduceMul, List.map_append, List.map_cons, List.map_nil, List.map_set]
                                    · have hkhb122 := not_eq_f hb122
                                      rcases of_if h with ⟨hb123, h⟩ | ⟨hb123, h⟩
                                      · obtain ⟨v124, hv124, h⟩ := Option.bind_eq_some_iff.1 h
                                        try simp only [hkhb4, hkhb6, hkhb8, hkhb10, hkhb12, hb28, hb102, hkhb102, hb103, hb104, hb105, hb106, hb119, hb121, hb122, hkhb122, hb123, go_sem, Nat.reduceAdd, Nat.reduceEqDiff, Nat.reduceLeDiff, Nat.reduceSub, reduceCtorEq, ↓reduceIte, Nat.reduceBEq, Int.reduceLT, Int.reduceLE, Int.reduceEq, Int.reduceBEq, Int.reduceBNe, Nat.reduceLT, Nat.reduceMul]
                                        refine CallV.ro false (reredosref_callMay_ok G p1.Call v124 hv124) rfl ?_
                                        rintro rs rfl
                                        refine ⟨.inl rfl, ?_⟩
                                        simp only [Option.some.injEq] at h
                                        subst h
                                        try simp only [hkhb4, hkhb6, hkhb8, hkhb10, hkhb12, hb28, hb102, hkhb102, hb103, hb104, hb105, hb106, hb119, hb121, hb122, hkhb122, hb123, go_sem, Nat.reduceAdd, Nat.reduceEqDiff, Nat.reduceLeDiff, Nat.reduceSub, reduceCtorEq, ↓reduceIte, Nat.reduceBEq, Int.reduceLT, Int.reduceLE, Int.reduceEq, Int.reduceBEq, Int.reduceBNe, Nat.reduceLT, Nat.reduceMul, List.map_append, List.map_cons, List.map_nil, List.map_set]
                                      · simp only [Option.some.injEq] at h
                                        subst h
                                        try simp only [hkhb4, hkhb6, hkhb8, hkhb10, hkhb12, hb28, hb102, hkhb102, hb103, hb104, hb105, hb106, hb119, hb121, hb122, hkhb122, hb123, go_sem, Nat.reduceAdd, Nat.reduceEqDiff, Nat.reduceLeDiff, Nat.reduceSub, reduceCtorEq, ↓reduceIte, Nat.reduceBEq, Int.reduceLT, Int.reduceLE, Int.reduceEq, Int.reduceBEq, Int.reduceBNe, Nat.reduceLT, Nat.reduceMul, List.map_append, List.map_cons, List.map_nil, List.map_set]
                                · rcases of_if h with ⟨hb125, h⟩ | ⟨hb125, h⟩
                                  · have hkhb125 := not_eq_t hb125
                                    simp only [Option.some.injEq] at h
                                    subst h
                                    try simp only [hkhb4, hkhb6, hkhb8, hkhb10, hkhb12, hb28, hb102, hkhb102, hb103, hb104, hb105, hb106, hb119, hb125, hkhb125, go_sem, Nat.reduceAdd, Nat.reduceEqDiff, Nat.reduceLeDiff, Nat.reduceSub, reduceCtorEq, ↓reduceIte, Nat.reduceBEq, Int.reduceLT, Int.reduceLE, Int.reduceEq, Int.reduceBEq, Int.reduceBNe, Nat.reduceLT, Nat.reduceMul, List.map_append, List.map_cons, List.map_nil, List.map_set]
                                  · have hkhb125 := not_eq_f hb125
                                    rcases of_if h with ⟨hb126, h⟩ | ⟨hb126, h⟩
                                    · obtain ⟨v127, hv127, h⟩ := Option.bind_eq_some_iff.1 h
                                      try simp only [hkhb4, hkhb6, hkhb8, hkhb10, hkhb12, hb28, hb102, hkhb102, hb103, hb104, hb105, hb106, hb119, hb125, hkhb125, hb126, go_sem, Nat.reduceAdd, Nat.reduceEqDiff, Nat.reduceLeDiff, Nat.reduceSub, reduceCtorEq, ↓reduceIte, Nat.reduceBEq, Int.reduceLT, Int.reduceLE, Int.reduceEq, Int.reduceBEq, Int.reduceBNe, Nat.reduceLT, Nat.reduceMul]
                                      refine CallV.ro false (reredosref_callMay_ok G p1.Call v127 hv127) rfl ?_
                                      rintro rs rfl
                                      refine ⟨.inl rfl, ?_⟩
                                      simp only [Option.some.injEq] at h
                                      subst h
                                      try simp only [hkhb4, hkhb6, hkhb8, hkhb10, hkhb12, hb28, hb102, hkhb102, hb103, hb104, hb105, hb106, hb119, hb125, hkhb125, hb126, go_sem, Nat.reduceAdd, Nat.reduceEqDiff, Nat.reduceLeDiff, Nat.reduceSub, reduceCtorEq, ↓reduceIte, Nat.reduceBEq, Int.reduceLT, Int.reduceLE, Int.reduceEq, Int.reduceBEq, Int.reduceBNe, Nat.reduceLT, Nat.reduceMul, List.map_append, List.map_cons, List.map_nil, List.map_set]
                                    · simp only [Option.some.injEq] at h
                                      subst h
                                      try simp only [hkhb4, hkhb6, hkhb8, hkhb10, hkhb12, hb28, hb102, hkhb102, hb103, hb104, hb105, hb106, hb119, hb125, hkhb125, hb126, go_sem, Nat.reduceAdd, Nat.reduceEqDiff, Nat.reduceLeDiff, Nat.reduceSub, reduceCtorEq, ↓reduceIte, Nat.reduceBEq, Int.reduceLT, Int.reduceLE, Int.reduceEq, Int.reduceBEq, Int.reduceBNe, Nat.reduceLT, Nat.reduceMul, List.map_append, List.map_cons, List.map_nil, List.map_set]
                            · rcases of_if h with ⟨hb128, h⟩ | ⟨hb128, h⟩
                              · try simp only [hkhb4, hkhb6, hkhb8, hkhb10, hkhb12, hb28, hb102, hkhb102, hb103, hb104, hb105, hb128, go_sem, Nat.reduceAdd, Nat.reduceEqDiff, Nat.reduceLeDiff, Nat.reduceSub, reduceCtorEq, ↓reduceIte, Nat.reduceBEq, Int.reduceLT, Int.reduceLE, Int.reduceEq, Int.reduceBEq, Int.reduceBNe, Nat.reduceLT, Nat.reduceMul]
                                intro hl129
                                rcases of_if h with ⟨hb130, h⟩ | ⟨hb130, h⟩
                                · simp only [Option.some.injEq] at h
                                  subst h
                                  try simp only [hkhb4, hkhb6, hkhb8, hkhb10, hkhb12, hb28, hb102, hkhb102, hb103, hb104, hb105, hb128, hb130, go_sem, Nat.reduceAdd, Nat.reduceEqDiff, Nat.reduceLeDiff, Nat.reduceSub, reduceCtorEq, ↓reduceIte, Nat.reduceBEq, Int.reduceLT, Int.reduceLE, Int.reduceEq, Int.reduceBEq, Int.reduceBNe, Nat.reduceLT, Nat.reduceMul, List.map_append, List.map_cons, List.map_nil, List.map_set]
                                · rcases of_if h with ⟨hb131, h⟩ | ⟨hb131, h⟩
                                  · rcases of_if h with ⟨hb132, h⟩ | ⟨hb132, h⟩
                                    · have hkhb132 := not_eq_t hb132
                                      simp only [Option.some.injEq] at h
                                      subst h
                                      try simp only [hkhb4, hkhb6, hkhb8, hkhb10, hkhb12, hb28, hb102, hkhb102, hb103, hb104, hb105, hb128, hb130, hb131, hb132, hkhb132, go_sem, Nat.reduceAdd, Nat.reduceEqDiff, Nat.reduceLeDiff, Nat.reduceSub, reduceCtorEq, ↓reduceIte, Nat.reduceBEq, Int.reduceLT, Int.reduceLE, Int.reduceEq, Int.reduceBEq, Int.reduceBNe, Nat.reduceLT, Nat.reduceMul, List.map_append, List.map_cons, List.map_nil, List.map_set]
                                    · have hkhb132 := not_eq_f hb132
                                      rcases of_if h with ⟨hb133, h⟩ | ⟨hb133, h⟩
                                      · obtain ⟨v134, hv134, h⟩ := Option.bind_eq_some_iff.1 h
                                        try simp only [hkhb4, hkhb6, hkhb8, hkhb10, hkhb12, hb28, hb102, hkhb102, hb103, hb104, hb105, hb128, hb130, hb131, hb132, hkhb132, hb133, go_sem, Nat.reduceAdd, Nat.reduceEqDiff, Nat.reduceLeDiff, Nat.reduceSub, reduceCtorEq, ↓reduceIte, Nat.reduceBEq, Int.reduceLT, Int.reduceLE, Int.reduceEq, Int.reduceBEq, Int.reduceBNe, Nat.reduceLT, Nat.reduceMul]
                                        refine CallV.ro false (reredosref_callMay_ok G p1.Call v134 hv134) rfl ?_
                                        rintro rs rfl
                                        refine ⟨.inl rfl, ?_⟩
                                        simp only [Option.some.injEq] at h
                                        subst h
                                        try simp only [hkhb4, hkhb6, hkhb8, hkhb10, hkhb12, hb28, hb102, hkhb102, hb103, hb104, hb105, hb128, hb130, hb131, hb132, hkhb132, hb133, go_sem, Nat.reduceAdd, Nat.reduceEqDiff, Nat.reduceLeDiff, Nat.reduceSub, reduceCtorEq, ↓reduceIte, Nat.reduceBEq, Int.reduceLT, Int.reduceLE, Int.reduceEq, Int.reduceBEq, Int.reduceBNe, Nat.reduceLT, Nat.reduceMul, List.map_append, List.map_cons, List.map_nil, List.map_set]
                                      · simp only [Option.some.injEq] at h
                                        subst h
                                        try simp only [hkhb4, hkhb6, hkhb8, hkhb10, hkhb12, hb28, hb102, hkhb102, hb103, hb104, hb105, hb128, hb130, hb131, hb132, hkhb132, hb133, go_sem, Nat.reduceAdd, Nat.reduceEqDiff, Nat.reduceLeDiff, Nat.reduceSub, reduceCtorEq, ↓reduceIte, Nat.reduceBEq, Int.reduceLT, Int.reduceLE, Int.reduceEq, Int.reduceBEq, Int.reduceBNe, Nat.reduceLT, Nat.reduceMul, List.map_append, List.map_cons, List.map_nil, List.map_set]
                                  · rcases of_if h with ⟨hb135, h⟩ | ⟨hb135, h⟩
                                    · obtain ⟨v136, hv136, h⟩ := Option.bind_eq_some_iff.1 h
                                      try simp only [hkhb4, hkhb6, hkhb8, hkhb10, hkhb12, hb28, hb102, hkhb102, hb103, hb104, hb105, hb128, hb130, hb131, hb135, go_sem, Nat.reduceAdd, Nat.reduceEqDiff, Nat.reduceLeDiff, Nat.reduceSub, reduceCtorEq, ↓reduceIte, Nat.reduceBEq, Int.reduceLT, Int.reduceLE, Int.reduceEq, Int.reduceBEq, Int.reduceBNe, Nat.reduceLT, Nat.reduceMul]
                                      refine CallV.ro false (reredosref_callMay_ok G p1.Call v136 hv136) rfl ?_
                                      rintro rs rfl
                                      refine ⟨.inl rfl, ?_⟩
                                      simp only [Option.some.injEq] at h
                                      subst h
                                      try simp only [hkhb4, hkhb6, hkhb8, hkhb10, hkhb12, hb28, hb102, hkhb102, hb103, hb104, hb105, hb128, hb130, hb131, hb135, go_sem, Nat.reduceAdd, Nat.reduceEqDiff, Nat.reduceLeDiff, Nat.reduceSub, reduceCtorEq, ↓reduceIte, Nat.reduceBEq, Int.reduceLT, Int.reduceLE, Int.reduceEq, Int.reduceBEq, Int.reduceBNe, Nat.reduceLT, Nat.reduceMul, List.map_append, List.map_cons, List.map_nil, List.map_set]
                                    · simp only [Option.some.injEq] at h
                                      subst h
                                      try simp only [hkhb4, hkhb6, hkhb8, hkhb10, hkhb12, hb28, hb102, hkhb102, hb103, hb104, hb105, hb128, hb130, hb131, hb135, go_sem, Nat.reduceAdd, Nat.reduceEqDiff, Nat.reduceLeDiff, Nat.reduceSub, reduceCtorEq, ↓reduceIte, Nat.reduceBEq, Int.reduceLT, Int.reduceLE, Int.reduceEq, Int.reduceBEq, Int.reduceBNe, Nat.reduceLT, Nat.reduceMul, List.map_append, List.map_cons, List.map_nil, List.map_set]
                              · rcases of_if h with ⟨hb137, h⟩ | ⟨hb137, h⟩
                                · rcases of_if h with ⟨hb138, h⟩ | ⟨hb138, h⟩
                                  · have hkhb138 := not_eq_t hb138
                                    simp only [Option.some.injEq] at h
                                    subst h
                                    try simp only [hkhb4, hkhb6, hkhb8, hkhb10, hkhb12, hb28, hb102, hkhb102, hb103, hb104, hb105, hb128, hb137, hb138, hkhb138, go_sem, Nat.reduceAdd, Nat.reduceEqDiff, Nat.reduceLeDiff, Nat.reduceSub, reduceCtorEq, ↓reduceIte, Nat.reduceBEq, Int.reduceLT, Int.reduceLE, Int.reduceEq, Int.reduceBEq, Int.reduceBNe, Nat.reduceLT, Nat.reduceMul, List.map_append, List.map_cons, List.map_nil, List.map_set]
                                  · have hkhb138 := not_eq_f hb138
                                    rcases of_if h with ⟨hb139, h⟩ | ⟨hb139, h⟩
                                    · obtain ⟨v140, hv140, h⟩ := Option.bind_eq_some_iff.1 h
                                      try simp only [hkhb4, hkhb6, hkhb8, hkhb10, hkhb12, hb28, hb102, hkhb102, hb103, hb104, hb105, hb128, hb137, hb138, hkhb138, hb139, go_sem, Nat.reduceAdd, Nat.reduceEqDiff, Nat.reduceLeDiff, Nat.reduceSub, reduceCtorEq, ↓reduceIte, Nat.reduceBEq, Int.reduceLT, Int.reduceLE, Int.reduceEq, Int.reduceBEq, Int.reduceBNe, Nat.reduceLT, Nat.reduceMul]
                                      refine CallV.ro false (reredosref_callMay_ok G p1.Call v140 hv140) rfl ?_
                                      rintro rs rfl
                                      refine ⟨.inl rfl, ?_⟩
                                      simp only [Option.some.injEq] at h
                                      subst h
                                      try simp only [hkhb4, hkhb6, hkhb8, hkhb10, hkhb12, hb28, hb102, hkhb102, hb103, hb104, hb105, hb128, hb137, hb138, hkhb138, hb139, go_sem, Nat.reduceAdd, Nat.reduceEqDiff, Nat.reduceLeDiff, Nat.reduceSub, reduceCtorEq, ↓reduceIte, Nat.reduceBEq, Int.reduceLT, Int.reduceLE, Int.reduceEq, Int.reduceBEq, Int.reduceBNe, Nat.reduceLT, Nat.reduceMul, List.map_append, List.map_cons, List.map_nil, List.map_set]
                                    · simp only [Option.some.injEq] at h
                                      subst h
                                      try simp only [hkhb4, hkhb6, hkhb8, hkhb10, hkhb12, hb28, hb102, hkhb102, hb103, hb104, hb105, hb128, hb137, hb138, hkhb138, hb139, go_sem, Nat.reduceAdd, Nat.reduceEqDiff, Nat.reduceLeDiff, Nat.reduceSub, reduceCtorEq, ↓reduceIte, Nat.reduceBEq, Int.reduceLT, Int.reduceLE, Int.reduceEq, Int.reduceBEq, Int.reduceBNe, Nat.reduceLT, Nat.reduceMul, List.map_append, List.map_cons, List.map_nil, List.map_set]
                                · rcases of_if h with ⟨hb141, h⟩ | ⟨hb141, h⟩
                                  · obtain ⟨v142, hv142, h⟩ := Option.bind_eq_some_iff.1 h
                                    try simp only [hkhb4, hkhb6, hkhb8, hkhb10, hkhb12, hb28, hb102, hkhb102, hb103, hb104, hb105, hb128, hb137, hb141, go_sem, Nat.reduceAdd, Nat.reduceEqDiff, Nat.reduceLeDiff, Nat.reduceSub, reduceCtorEq, ↓reduceIte, Nat.reduceBEq, Int.reduceLT, Int.reduceLE, Int.reduceEq, Int.reduceBEq, Int.reduceBNe, Nat.reduceLT, Nat.reduceMul]
                                    refine CallV.ro false (reredosref_callMay_ok G p1.Call v142 hv142) rfl ?_
                                    rintro rs rfl
                                    refine ⟨.inl rfl, ?_⟩
                                    simp only [Option.some.injEq] at h
                                    subst h
                                    try simp only [hkhb4, hkhb6, hkhb8, hkhb10, hkhb12, hb28, hb102, hkhb102, hb103, hb104, hb105, hb128, hb137, hb141, go_sem, Nat.reduceAdd, Nat.reduceEqDiff, Nat.reduceLeDiff, Nat.reduceSub, reduceCtorEq, ↓reduceIte, Nat.reduceBEq, Int.reduceLT, Int.reduceLE, Int.reduceEq, Int.reduceBEq, Int.reduceBNe, Nat.reduceLT, Nat.reduceMul, List.map_append, List.map_cons, List.map_nil, List.map_set]
                                  · simp only [Option.some.injEq] at h
                                    subst h
                                    try simp only [hkhb4, hkhb6, hkhb8, hkhb10, hkhb12, hb28, hb102, hkhb102, hb103, hb104, hb105, hb128, hb137, hb141, go_sem, Nat.reduceAdd, Nat.reduceEqDiff, Nat.reduceLeDiff, Nat.reduceSub, reduceCtorEq, ↓reduceIte, Nat.reduceBEq, Int.reduceLT, Int.reduceLE, Int.reduceEq, Int.reduceBEq, Int.reduceBNe, Nat.reduceLT, Nat.reduceMul, List.map_append, List.map_cons, List.map_nil, List.map_set]
                      · have hkhb102 := not_eq_f hb102
                        rcases of_if h with ⟨hb143, h⟩ | ⟨hb143, h⟩
                        · try simp only [hkhb4, hkhb6, hkhb8, hkhb10, hkhb12, hb28, hb102, hkhb102, hb143, go_sem, Nat.reduceAdd, Nat.reduceEqDiff, Nat.reduceLeDiff, Nat.reduceSub, reduceCtorEq, ↓reduceIte, Nat.reduceBEq, Int.reduceLT, Int.reduceLE, Int.reduceEq, Int.reduceBEq, Int.reduceBNe, Nat.reduceLT, Nat.reduceMul]
                          intro hl144
                          rcases of_if h with ⟨hb145, h⟩ | ⟨hb145, h⟩
                          · simp only [Option.some.injEq] at h
                            subst h
                            try simp only [hkhb4, hkhb6, hkhb8, hkhb10, hkhb12, hb28, hb102, hkhb102, hb143, hb145, go_sem, Nat.reduceAdd, Nat.reduceEqDiff, Nat.reduceLeDiff, Nat.reduceSub, reduceCtorEq, ↓reduceIte, Nat.reduceBEq, Int.reduceLT, Int.reduceLE, Int.reduceEq, Int.reduceBEq, Int.reduceBNe, Nat.reduceLT, Nat.reduceMul, List.map_append, List.map_cons, List.map_nil, List.map_set]
                          · rcases of_if h with ⟨hb146, h⟩ | ⟨hb146, h⟩
                            · rcases of_if h with ⟨hb147, h⟩ | ⟨hb147, h⟩
                              · have hkhb147 := not_eq_t hb147
                                simp only [Option.some.injEq] at h
                                subst h
                                try simp only [hkhb4, hkhb6, hkhb8, hkhb10, hkhb12, hb28, hb102, hkhb102, hb143, hb145, hb146, hb147, hkhb147, go_sem, Nat.reduceAdd, Nat.reduceEqDiff, Nat.reduceLeDiff, Nat.reduceSub, reduceCtorEq, ↓reduceIte, Nat.reduceBEq, Int.reduceLT, Int.reduceLE, Int.reduceEq, Int.reduceBEq, Int.reduceBNe, Nat.reduceLT, Nat.reduceMul, List.map_append, List.map_cons, List.map_nil, List.map_set]
                              · have hkhb147 := not_eq_f hb147
                                rcases of_if h with ⟨hb148, h⟩ | ⟨hb148, h⟩
                                · rcases of_if h with ⟨hb149, h⟩ | ⟨hb149, h⟩
                                  · have hkhb149 := not_eq_t hb149
                                    simp only [Option.some.injEq] at h
                                    subst h
                                    try simp only [hkhb4, hkhb6, hkhb8, hkhb10, hkhb12, hb28, hb102, hkhb102, hb143, hb145, hb146, hb147, hkhb147, hb148, hb149, hkhb149, go_sem, Nat.reduceAdd, Nat.reduceEqDiff, Nat.reduceLeDiff, Nat.reduceSub, reduceCtorEq, ↓reduceIte, Nat.reduceBEq, Int.reduceLT, Int.reduceLE, Int.reduceEq, Int.reduceBEq, Int.reduceBNe, Nat.reduceLT, Nat.reduceMul, List.map_append, List.map_cons, List.map_nil, List.map_set]
                                  · have hkhb149 := not_eq_f hb149
                                    rcases of_if h with ⟨hb150, h⟩ | ⟨hb150, h⟩
                                    · obtain ⟨v151, hv151, h⟩ := Option.bind_eq_some_iff.1 h
                                      try simp only [hkhb4, hkhb6, hkhb8, hkhb10, hkhb12, hb28, hb102, hkhb102, hb143, hb145, hb146, hb147, hkhb147, hb148, hb149, hkhb149, hb150, go_sem, Nat.reduceAdd, Nat.reduceEqDiff, Nat.reduceLeDiff, Nat.reduceSub, reduceCtorEq, ↓reduceIte, Nat.reduceBEq, Int.reduceLT, Int.reduceLE, Int.reduceEq, Int.reduceBEq, Int.reduceBNe, Nat.reduceLT, Nat.reduceMul]
                                      refine CallV.ro false (reredosref_callMay_ok G p1.Call v151 hv151) rfl ?_
                                      rintro rs rfl
                                      refine ⟨.inl rfl, ?_⟩
                                      simp only [Option.some.injEq] at h
                                      subst h
                                      try simp only [hkhb4, hkhb6, hkhb8, hkhb10, hkhb12, hb28, hb102, hkhb102, hb143, hb145, hb146, hb147, hkhb147, hb148, hb149, hkhb149, hb150, go_sem, Nat.reduceAdd, Nat.reduceEqDiff, Nat.reduceLeDiff, Nat.reduceSub, reduceCtorEq, ↓reduceIte, Nat.reduceBEq, Int.reduceLT, Int.reduceLE, Int.reduceEq, Int.reduceBEq, Int.reduceBNe, Nat.reduceLT, Nat.reduceMul, List.map_append, List.map_cons, List.map_nil, List.map_set]
                                    · simp only [Option.some.injEq] at h
                                      subst h
                                      try simp only [hkhb4, hkhb6, hkhb8, hkhb10, hkhb12, hb28, hb102, hkhb102, hb143, hb145, hb146, hb147, hkhb147, hb148, hb149, hkhb149, hb150, go_sem, Nat.reduceAdd, Nat.reduceEqDiff, Nat.reduceLeDiff, Nat.reduceSub, reduceCtorEq, ↓reduceIte, Nat.reduceBEq, Int.reduceLT, Int.reduceLE, Int.reduceEq, Int.reduceBEq, Int.reduceBNe, Nat.reduceLT, Nat.reduceMul, List.map_append, List.map_cons, List.map_nil, List.map_set]
                                · rcases of_if h with ⟨hb152, h⟩ | ⟨hb152, h⟩
                                  · obtain ⟨v153, hv153, h⟩ := Option.bind_eq_some_iff.1 h
                                    try simp only [hkhb4, hkhb6, hkhb8, hkhb10, hkhb12, hb28, hb102, hkhb102, hb143, hb145, hb146, hb147, hkhb147, hb148, hb152, go_sem, Nat.reduceAdd, Nat.reduceEqDiff, Nat.reduceLeDiff, Nat.reduceSub, reduceCtorEq, ↓reduceIte, Nat.reduceBEq, Int.reduceLT, Int.reduceLE, Int.reduceEq, Int.reduceBEq, Int.reduceBNe, Nat.reduceLT, Nat.reduceMul]
                                    refine CallV.ro false (reredosref_callMay_ok G p1.Call v153 hv153) rfl ?_
                                    rintro rs rfl
                                    refine ⟨.inl rfl, ?_⟩
                                    simp only [Option.some.injEq] at h
                                    subst h
                                    try simp only [hkhb4, hkhb6, hkhb8, hkhb10, hkhb12, hb28, hb102, hkhb102, hb143, hb145, hb146, hb147, hkhb147, hb148, hb152, go_sem, Nat.reduceAdd, Nat.reduceEqDiff, Nat.reduceLeDiff, Nat.reduceSub, reduceCtorEq, ↓reduceIte, Nat.reduceBEq, Int.reduceLT, Int.reduceLE, Int.reduceEq, Int.reduceBEq, Int.reduceBNe, Nat.reduceLT, Nat.reduceMul, List.map_append, List.map_cons, List.map_nil, List.map_set]
                                  · simp only [Option.some.injEq] at h
                                    subst h
                                    try simp only [hkhb4, hkhb6, hkhb8, hkhb10, hkhb12, hb28, hb102, hkhb102, hb143, hb145, hb146, hb147, hkhb147, hb148, hb152, go_sem, Nat.reduceAdd, Nat.reduceEqDiff, Nat.reduceLeDiff, Nat.reduceSub, reduceCtorEq, ↓reduceIte, Nat.reduceBEq, Int.reduceLT, Int.reduceLE, Int.reduceEq, Int.reduceBEq, Int.reduceBNe, Nat.reduceLT, Nat.reduceMul, List.map_append, List.map_cons, List.map_nil, List.map_set]
                            · rcases of_if h with ⟨hb154, h⟩ | ⟨hb154, h⟩
                              · rcases of_if h with ⟨hb155, h⟩ | ⟨hb155, h⟩
                                · have hkhb155 := not_eq_t hb155
                                  simp only [Option.some.injEq] at h
                                  subst h
                                  try simp only [hkhb4, hkhb6, hkhb8, hkhb10, hkhb12, hb28, hb102, hkhb102, hb143, hb145, hb146, hb154, hb155, hkhb155, go_sem, Nat.reduceAdd, Nat.reduceEqDiff, Nat.reduceLeDiff, Nat.reduceSub, reduceCtorEq, ↓reduceIte, Nat.reduceBEq, Int.reduceLT, Int.reduceLE, Int.reduceEq, Int.reduceBEq, Int.reduceBNe, Nat.reduceLT, Nat.reduceMul, List.map_append, List.map_cons, List.map_nil, List.map_set]
                                · have hkhb155 := not_eq_f hb155
                                  rcases of_if h with ⟨hb156, h⟩ | ⟨hb156, h⟩
                                  · obtain ⟨v157, hv157, h⟩ := Option.bind_eq_some_iff.1 h
                                    try simp only [hkhb4, hkhb6, hkhb8, hkhb10, hkhb12, hb28, hb102, hkhb102, hb143, hb145, hb146, hb154, hb155, hkhb155, hb156, go_sem, Nat.reduceAdd, Nat.reduceEqDiff, Nat.reduceLeDiff, Nat.reduceSub, reduceCtorEq, ↓reduceIte, Nat.reduceBEq, Int.reduceLT, Int.reduceLE, Int.reduceEq, Int.reduceBEq, Int.reduceBNe, Nat.reduceLT, Nat.reduceMul]
                                    refine CallV.ro false (reredosref_callMay_ok G p1.Call v157 hv157) rfl ?_
                                    rintro rs rfl
                                    refine ⟨.inl rfl, ?_⟩
                                    simp only [Option.some.injEq] at h
                                    subst h
                                    try simp only [hkhb4, hkhb6, hkhb8, hkhb10, hkhb12, hb28, hb102, hkhb102, hb143, hb145, hb146, hb154, hb155, hkhb155, hb156, go_sem, Nat.reduceAdd, Nat.reduceEqDiff, Nat.reduceLeDiff, Nat.reduceSub, reduceCtorEq, ↓reduceIte, Nat.reduceBEq, Int.reduceLT, Int.reduceLE, Int.reduceEq, Int.reduceBEq, Int.reduceBNe, Nat.reduceLT, Nat.reduceMul, List.map_append, List.map_cons, List.map_nil, List.map_set]
                                  · simp only [Option.some.injEq] at h
                                    subst h
                                    try simp only [hkhb4, hkhb6, hkhb8, hkhb10, hkhb12, hb28, hb102, hkhb102, hb143, hb145, hb146, hb154, hb155, hkhb155, hb156, go_sem, Nat.reduceAdd, Nat.reduceEqDiff, Nat.reduceLeDiff, Nat.reduceSub, reduceCtorEq, ↓reduceIte, Nat.reduceBEq, Int.reduceLT, Int.reduceLE, Int.reduceEq, Int.reduceBEq, Int.reduceBNe, Nat.reduceLT, Nat.reduceMul, List.map_append, List.map_cons, List.map_nil, List.map_set]
                              · rcases of_if h with ⟨hb158, h⟩ | ⟨hb158, h⟩
                                · obtain ⟨v159, hv159, h⟩ := Option.bind_eq_some_iff.1 h
                                  try simp only [hkhb4, hkhb6, hkhb8, hkhb10, hkhb12, hb28, hb102, hkhb102, hb143, hb145, hb146, hb154, hb158, go_sem, Nat.reduceAdd, Nat.reduceEqDiff, Nat.reduceLeDiff, Nat.reduceSub, reduceCtorEq, ↓reduceIte, Nat.reduceBEq, Int.reduceLT, Int.reduceLE, Int.reduceEq, Int.reduceBEq, Int.reduceBNe, Nat.reduceLT, Nat.reduceMul]
                                  refine CallV.ro false (reredosref_callMay_ok G p1.Call v159 hv159) rfl ?_
                                  rintro rs rfl
                                  refine ⟨.inl rfl, ?_⟩
                                  simp only [Option.some.injEq] at h
                                  subst h
                                  try simp only [hkhb4, hkhb6, hkhb8, hkhb10, hkhb12, hb28, hb102, hkhb102, hb143, hb145, hb146, hb154, hb158, go_sem, Nat.reduceAdd, Nat.reduceEqDiff, Nat.reduceLeDiff, Nat.reduceSub, reduceCtorEq, ↓reduceIte, Nat.reduceBEq, Int.reduceLT, Int.reduceLE, Int.reduceEq, Int.reduceBEq, Int.reduceBNe, Nat.reduceLT, Nat.reduceMul, List.map_append, List.map_cons, List.map_nil, List.map_set]
                                · simp only [Option.some.injEq] at h
                                  subst h
                                  try simp only [hkhb4, hkhb6, hkhb8, hkhb10, hkhb12, hb28, hb102, hkhb102, hb143, hb145, hb146, hb154, hb158, go_sem, Nat.reduceAdd, Nat.reduceEqDiff, Nat.reduceLeDiff, Nat.reduceSub, reduceCtorEq, ↓reduceIte, Nat.reduceBEq, Int.reduceLT, Int.reduceLE, Int.reduceEq, Int.reduceBEq, Int.reduceBNe, Nat.reduceLT, Nat.reduceMul, List.map_append, List.map_cons, List.map_nil, List.map_set]
                        · rcases of_if h with ⟨hb160, h⟩ | ⟨hb160, h⟩
                          · rcases of_if h with ⟨hb161, h⟩ | ⟨hb161, h⟩
                            · have hkhb161 := not_eq_t hb161
                              simp only [Option.some.injEq] at h
                              subst h
                              try simp only [hkhb4, hkhb6, hkhb8, hkhb10, hkhb12, hb28, hb102, hkhb102, hb143, hb160, hb161, hkhb161, go_sem, Nat.reduceAdd, Nat.reduceEqDiff, Nat.reduceLeDiff, Nat.reduceSub, reduceCtorEq, ↓reduceIte, Nat.reduceBEq, Int.reduceLT, Int.reduceLE, Int.reduceEq, Int.reduceBEq, Int.reduceBNe, Nat.reduceLT, Nat.reduceMul, List.map_append, List.map_cons, List.map_nil, List.map_set]
                            · have hkhb161 := not_eq_f hb161
                              rcases of_if h with ⟨hb162, h⟩ | ⟨hb162, h⟩
                              · rcases of_if h with ⟨hb163, h⟩ | ⟨hb163, h⟩
                                · have hkhb163 := not_eq_t hb163
                                  simp only [Option.some.injEq] at h
                                  subst h
                                  try simp only [hkhb4, hkhb6, hkhb8, hkhb10, hkhb12, hb28, hb102, hkhb102, hb143, hb160, hb161, hkhb161, hb162, hb163, hkhb163, go_sem, Nat.reduceAdd, Nat.reduceEqDiff, Nat.reduceLeDiff, Nat.reduceSub, reduceCtorEq, ↓reduceIte, Nat.reduceBEq, Int.reduceLT, Int.reduceLE, Int.reduceEq, Int.reduceBEq, Int.reduceBNe, Nat.reduceLT, Nat.reduceMul, List.map_append, List.map_cons, List.map_nil, List.map_set]
                                · have hkhb163 := not_eq_f hb163
                                  rcases of_if h with ⟨hb164, h⟩ | ⟨hb164, h⟩
                                  · obtain ⟨v165, hv165, h⟩ := Option.bind_eq_some_iff.1 h
                                    try simp only [hkhb4, hkhb6, hkhb8, hkhb10, hkhb12, hb28, hb102, hkhb102, hb143, hb160, hb161, hkhb161, hb162, hb163, hkhb163, hb164, go_sem, Nat.reduceAdd, Nat.reduceEqDiff, Nat.reduceLeDiff, Nat.reduceSub, reduceCtorEq, ↓reduceIte, Nat.reduceBEq, Int.reduceLT, Int.reduceLE, Int.reduceEq, Int.reduceBEq, Int.reduceBNe, Nat.reduceLT, Nat.reduceMul]
                                    refine CallV.ro false (reredosref_callMay_ok G p1.Call v165 hv165) rfl ?_
                                    rintro rs rfl
                                    refine ⟨.inl rfl, ?_⟩
                                    simp only [Option.some.injEq] at h
                                    subst h
                                    try simp only [hkhb4, hkhb6, hkhb8, hkhb10, hkhb12, hb28, hb102, hkhb102, hb143, hb160, hb161, hkhb161, hb162, hb163, hkhb163, hb164, go_sem, Nat.reduceAdd, Nat.reduceEqDiff, Nat.reduceLeDiff, Nat.reduceSub, reduceCtorEq, ↓reduceIte, Nat.reduceBEq, Int.reduceLT, Int.reduceLE, Int.reduceEq, Int.reduceBEq, Int.reduceBNe, Nat.reduceLT, Nat.reduceMul, List.map_append, List.map_cons, List.map_nil, List.map_set]
                                  · simp only [Option.some.injEq] at h
                                    subst h
                                    try simp only [hkhb4, hkhb6, hkhb8, hkhb10, hkhb12, hb28, hb102, hkhb102, hb143, hb160, hb161, hkhb161, hb162, hb163, hkhb163, hb164, go_sem, Nat.reduceAdd, Nat.reduceEqDiff, Nat.reduceLeDiff, Nat.reduceSub, reduceCtorEq, ↓reduceIte, Nat.reduceBEq, Int.reduceLT, Int.reduceLE, Int.reduceEq, Int.reduceBEq, Int.reduceBNe, Nat.reduceLT, Nat.reduceMul, List.map_append, List.map_cons, List.map_nil, List.map_set]
                              · rcases of_if h with ⟨hb166, h⟩ | ⟨hb166, h⟩
                                · obtain ⟨v167, hv167, h⟩ := Option.bind_eq_some_iff.1 h
                                  try simp only [hkhb4, hkhb6, hkhb8, hkhb10, hkhb12, hb28, hb102, hkhb102, hb143, hb160, hb161, hkhb161, hb162, hb166, go_sem, Nat.reduceAdd, Nat.reduceEqDiff, Nat.reduceLeDiff, Nat.reduceSub, reduceCtorEq, ↓reduceIte, Nat.reduceBEq, Int.reduceLT, Int.reduceLE, Int.reduceEq, Int.reduceBEq, Int.reduceBNe, Nat.reduceLT, Nat.reduceMul]
                                  refine CallV.ro false (reredosref_callMay_ok G p1.Call v167 hv167) rfl ?_
                                  rintro rs rfl
                                  refine ⟨.inl rfl, ?_⟩
                                  simp only [Option.some.injEq] at h
                                  subst h
                                  try simp only [hkhb4, hkhb6, hkhb8, hkhb10, hkhb12, hb28, hb102, hkhb102, hb143, hb160, hb161, hkhb161, hb162, hb166, go_sem, Nat.reduceAdd, Nat.reduceEqDiff, Nat.reduceLeDiff, Nat.reduceSub, reduceCtorEq, ↓reduceIte, Nat.reduceBEq, Int.reduceLT, Int.reduceLE, Int.reduceEq, Int.reduceBEq, Int.reduceBNe, Nat.reduceLT, Nat.reduceMul, List.map_append, List.map_cons, List.map_nil, List.map_set]
                                · simp only [Option.some.injEq] at h
                                  subst h
                                  try simp only [hkhb4, hkhb6, hkhb8, hkhb10, hkhb12, hb28, hb102, hkhb102, hb143, hb160, hb161, hkhb161, hb162, hb166, go_sem, Nat.reduceAdd, Nat.reduceEqDiff, Nat.reduceLeDiff, Nat.reduceSub, reduceCtorEq, ↓reduceIte, Nat.reduceBEq, Int.reduceLT, Int.reduceLE, Int.reduceEq, Int.reduceBEq, Int.reduceBNe, Nat.reduceLT, Nat.reduceMul, List.map_append, List.map_cons, List.map_nil, List.map_set]
                          · rcases of_if h with ⟨hb168, h⟩ | ⟨hb168, h⟩
                            · rcases of_if h with ⟨hb169, h⟩ | ⟨hb169, h⟩
                              · have hkhb169 := not_eq_t hb169
                                simp only [Option.some.injEq] at h
                                subst h
                                try simp only [hkhb4, hkhb6, hkhb8, hkhb10, hkhb12, hb28, hb102, hkhb102, hb143, hb160, hb168, hb169, hkhb169, go_sem, Nat.reduceAdd, Nat.reduceEqDiff, Nat.reduceLeDiff, Nat.reduceSub, reduceCtorEq, ↓reduceIte, Nat.reduceBEq, Int.reduceLT, Int.reduceLE, Int.reduceEq, Int.reduceBEq, Int.reduceBNe, Nat.reduceLT, Nat.reduceMul, List.map_append, List.map_cons, List.map_nil, List.map_set]
                              · have hkhb169 := not_eq_f hb169
                                rcases of_if h with ⟨hb170, h⟩ | ⟨hb170, h⟩
                                · obtain ⟨v171, hv171, h⟩ := Option.bind_eq_some_iff.1 h
                                  try simp only [hkhb4, hkhb6, hkhb8, hkhb10, hkhb12, hb28, hb102, hkhb102, hb143, hb160, hb168, hb169, hkhb169, hb170, go_sem, Nat.reduceAdd, Nat.reduceEqDiff, Nat.reduceLeDiff, Nat.reduceSub, reduceCtorEq, ↓reduceIte, Nat.reduceBEq, Int.reduceLT, Int.reduceLE, Int.reduceEq, Int.reduceBEq, Int.reduceBNe, Nat.reduceLT, Nat.reduceMul]
                                  refine CallV.ro false (reredosref_callMay_ok G p1.Call v171 hv171) rfl ?_
                                  rintro rs rfl
                                  refine ⟨.inl rfl, ?_⟩
                                  simp only [Option.some.injEq] at h
                                  subst h
                                  try simp only [hkhb4, hkhb6, hkhb8, hkhb10, hkhb12, hb28, hb102, hkhb102, hb143, hb160, hb168, hb169, hkhb169, hb170, go_sem, Nat.reduceAdd, Nat.reduceEqDiff, Nat.reduceLeDiff, Nat.reduceSub, reduceCtorEq, ↓reduceIte, Nat.reduceBEq, Int.reduceLT, Int.reduceLE, Int.reduceEq, Int.reduceBEq, Int.reduceBNe, Nat.reduceLT, Nat.reduceMul, List.map_append, List.map_cons, List.map_nil, List.map_set]
                                · simp only [Option.some.injEq] at h
                                  subst h
                                  try simp only [hkhb4, hkhb6, hkhb8, hkhb10, hkhb12, hb28, hb102, hkhb102, hb143, hb160, hb168, hb169, hkhb169, hb170, go_sem, Nat.reduceAdd, Nat.reduceEqDiff, Nat.reduceLeDiff, Nat.reduceSub, reduceCtorEq, ↓reduceIte, Nat.reduceBEq, Int.reduceLT, Int.reduceLE, Int.reduceEq, Int.reduceBEq, Int.reduceBNe, Nat.reduceLT, Nat.reduceMul, List.map_append, List.map_cons, List.map_nil, List.map_set]
                            · rcases of_if h with ⟨hb172, h⟩ | ⟨hb172, h⟩
                              · obtain ⟨v173, hv173, h⟩ := Option.bind_eq_some_iff.1 h
                                try simp only [hkhb4, hkhb6, hkhb8, hkhb10, hkhb12, hb28, hb102, hkhb102, hb143, hb160, hb168, hb172, go_sem, Nat.reduceAdd, Nat.reduceEqDiff, Nat.reduceLeDiff, Nat.reduceSub, reduceCtorEq, ↓reduceIte, Nat.reduceBEq, Int.reduceLT, Int.reduceLE, Int.reduceEq, Int.reduceBEq, Int.reduceBNe, Nat.reduceLT, Nat.reduceMul]
                                refine CallV.ro false (reredosref_callMay_ok G p1.Call v173 hv173) rfl ?_
                                rintro rs rfl
                                refine ⟨.inl rfl, ?_⟩
                                simp only [Option.some.injEq] at h
                                subst h
                                try simp only [hkhb4, hkhb6, hkhb8, hkhb10, hkhb12, hb28, hb102, hkhb102, hb143, hb160, hb168, hb172, go_sem, Nat.reduceAdd, Nat.reduceEqDiff, Nat.reduceLeDiff, Nat.reduceSub, reduceCtorEq, ↓reduceIte, Nat.reduceBEq, Int.reduceLT, Int.reduceLE, Int.reduceEq, Int.reduceBEq, Int.reduceBNe, Nat.reduceLT, Nat.reduceMul, List.map_append, List.map_cons, List.map_nil, List.map_set]
                              · simp only [Option.some.injEq] at h
                                subst h
                                try simp only [hkhb4, hkhb6, hkhb8, hkhb10, hkhb12, hb28, hb102, hkhb102, hb143, hb160, hb168, hb172, go_sem, Nat.reduceAdd, Nat.reduceEqDiff, Nat.reduceLeDiff, Nat.reduceSub, reduceCtorEq, ↓reduceIte, Nat.reduceBEq, Int.reduceLT, Int.reduceLE, Int.reduceEq, Int.reduceBEq, Int.reduceBNe, Nat.reduceLT, Nat.reduceMul, List.map_append, List.map_cons, List.map_nil, List.map_set]
end Go.V.Dec
