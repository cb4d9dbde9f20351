/- What Go's functions come to, as plain functions: part 4; no condition. -/
import Derived.Test.YtjklmaihcaelaaaDoorG3
set_option linter.unusedVariables false
set_option linter.unusedSimpArgs false
namespace Go.V.Dec
open Go Go.Proofs
set_option maxRecDepth 100000
set_option maxHeartbeats 4000000
variable (G : Nat → Option (List D))
def uo (p0 : Config) (p1 : Int) (p2 : List Record) : Option (Bool) := (if fits 80 p2.length then (Option.bind (x0g p0 p1 p2) fun v3 => (withK (Option.bind (ux p0 p1 p2) fun v6 => (withK (fun (b7_1 : Bool) => (some b7_1)) fun k8 => (if (v3.2.2.2 == v6.2.2.2) = true then (Option.bind (yy v3.1 v6.1) fun v10 => (if v10 = true then (Option.bind (w0b v3.2.1 v6.2.1) fun v12 => (if v12 = true then (Option.bind (xy v3.2.2.1 v6.2.2.1) fun v14 => (k8 v14)) else (k8 false))) else (k8 false))) else (k8 false)))) fun k5 => k5)) else none)
def F4 : VFn := ⟨52, (.seq (.reg [vo 3 (.box 3 (.t 0)), vo 6 (.mv (cb false))]) (.seq (.pre (.draw [vd (vl 16 3 3) 0, vd (vm 17 1) 0, vd (vm 18 2) 0, vd (vo 19 (.appf 8 80 8 (.t 18))) 4, vd (vo 20 (.call 8 [(.t 16), (.t 17), (.t 19)])) 15, vd (vm 15 20) 31, vd (et 21 15 0) 63, vd (et 22 15 1) 63, vd (et 23 15 2) 63, vd (et 24 15 3) 63, ⟨vo 7 (.alloc [(.nl 3), (.nl 6), (.nl 3), (.nl 2)]), 0, [3, 4], none, []⟩, ⟨vo 8 (.alloc [(zi 0), (.nl 6)]), 0, [3, 4, 10], none, []⟩, vd (vu (.st 4 (.t 7) (.t 21))) 3199, vd (vu (.st 2 (.t 8) (.t 22))) 7423, vd (vm 9 23) 0x3dff, vd (vm 10 24) 0x7fff])) (.seq (.regs [[vl 26 3 3, vm 27 1, vm 28 2], [vo 29 (.call 9 [(.t 26), (.t 27), (.t 28)]), vm 25 29, et 30 25 0, et 31 25 1, et 32 25 2, et 33 25 3, vo 11 (.alloc [(.nl 3), (.nl 6), (.nl 3), (.nl 2)]), vo 12 (.alloc [(zi 0), (.nl 6)]), vu (.st 4 (.t 11) (.t 30)), vu (.st 2 (.t 12) (.t 31)), vm 13 32, vm 14 33]]) (.seq (.wk (.reg [vm 34 10, vm 35 14, bt 36 .eql 34 35, vm 37 36, gt 38 37 (.ld true 4 (.t 7)), gt 39 37 (.ld true 4 (.t 11)), gt 40 37 (.call 10 [(.t 38), (.t 39)]), vo 41 (.pick (.t 37) (.t 40) (cb false)), vm 42 41, gt 43 42 (.ld true 2 (.t 8)), gt 44 42 (.ld true 2 (.t 12)), gt 45 42 (.call 11 [(.t 43), (.t 44)]), vo 46 (.pick (.t 42) (.t 45) (cb false)), vm 47 46, gt 48 47 (.mv (.t 9)), gt 49 47 (.mv (.t 13)), gt 50 47 (.call 12 [(.t 48), (.t 49)]), vo 51 (.pick (.t 47) (.t 50) (cb false)), vm 6 51])) .ret)))), [.t 6]⟩
theorem low4 : lowF Tryd.prog 4 = some F4.strip := by kernel_rfl
theorem fok4 : fOk Tryd.prog 4 = true := by kernel_rfl
theorem u0q (htab_wire_records : z1j G 1 = .one (.d (.k wy))) (p0 : Config) (p1 : Int) (p2 : List Record) (r : Bool) (h : uo p0 p1 p2 = some r) : FnRO Tryd.prog G 4 [.agg p0.bx, .one (.d (.i .i64 p1)), .one (.d (.l 8 (p2.map Record.enc)))] (fun rs => rs = [.one (.b r)]) := by
 refine FnRO.of' low4 fok4 (by simp [F4]) ?_
 rw [uo] at h
 replace h := Hd.mk h
 simp only [F4, go_sem]
 try simp only [*, go_sem]
 refine z5g Tryd.prog G _ _ [zI 1 p1, zL 2 8 (p2.map Record.enc), zP 3 0] [ox p0.bx] [] [some 0] rfl (by simp only [*, go_sem, List.map_append, List.map_cons, List.map_nil, Option.some.injEq, Prod.mk.injEq, SC.d.injEq, D.l.injEq, List.map_set]) (by simp only [*, go_sem, List.map_append, List.map_cons, List.map_nil, Option.some.injEq, Prod.mk.injEq, SC.d.injEq, D.l.injEq, List.map_set]) ?_
 refine ck h (fun _ h => ?_)
 refine obk h (fun v3 hv3 h => ?_)
 try simp only [*, go_sem]
 refine cd (u1s G htab_wire_records p0 p1 p2 v3 hv3) ?_
 try simp only [*, go_sem]
 refine rg0 h ([zP 7 0, zP 8 1, zL 9 4 (v3.2.2.1.map Note.enc), zI 10 v3.2.2.2, (26, .agg [zi p0.Sites, .d (.l 2 (p0.Labels.map Label.enc)), zi p0.Patience]), zI 27 p1, zL 28 8 (p2.map Record.enc)]) ([ox v3.1.bx, ox v3.2.1.bx]) (fun k5 h => ?_) (fun h => ?_)
 try simp only [*, go_sem]
 exact jc () h.e [some 11, some 12]
 try simp only [*, go_sem]
 refine cr h (z0y G p0 p1 p2) (fun v6 h => ?_)
 try simp only [*, go_sem]
 refine jn1 h (fun b7_1 => [zB 6 b7_1]) (fun b7_1 => []) (fun k8 h => ?_) (fun b7_1 h => ?_)
 refine oi h (fun hb9 h => ?_) (fun hb9 h => ?_)
 try simp only [*, go_sem]
 refine cl h (x0y G v3.1 v6.1) (fun v10 h => ?_)
 refine oi h (fun hb11 h => ?_) (fun hb11 h => ?_)
 try simp only [*, go_sem]
 refine cl h (x1d G v3.2.1 v6.2.1) (fun v12 h => ?_)
 refine oi h (fun hb13 h => ?_) (fun hb13 h => ?_)
 try simp only [*, go_sem]
 refine cl h (w0y G v3.2.2.1 v6.2.2.1) (fun v14 h => ?_)
 try simp only [*, go_sem]
 exact jc (v14) h.e []
 try simp only [*, go_sem]
 exact jc (false) h.e []
 try simp only [*, go_sem]
 exact jc (false) h.e []
 try simp only [*, go_sem]
 exact jc (false) h.e []
 cases h.e
 simp only [*, go_sem, mA, mS]
end Go.V.Dec
