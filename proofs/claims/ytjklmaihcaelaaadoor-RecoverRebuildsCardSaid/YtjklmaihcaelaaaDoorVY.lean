/- Short forms for functions that change what a pointer leads to; conditions as stated. -/
import Derived.Test.YtjklmaihcaelaaaDoorVK
set_option linter.unusedVariables false
set_option linter.unusedSimpArgs false
namespace Go.V
open Go
section
variable {P : Program} {G : Nat → Option (List D)} {σ : St}
theorem ct {f : Nat} {svs args : List SV} {ds : List D} {K : St → SV → Prop} {V R : Type} {x : Option V} {g : V → Option R} {r : R} {dc : V → List D} {rv : V → List RV} (h : Hd (x.bind g) r) (u : Nat) (fs : List GC) (ms : List Nat) (ids : List Nat)
 (ok : ∀ v, x = some v → FnX P G f args ds (fun c rs => c = dc v ∧ rs = rv v)) (hk : ∀ v, Hd (g v) r → K (((σ.frz fs).boxX u ids ds.length).callX u (dc v) (rv v)).1 (packS (((σ.frz fs).boxX u ids ds.length).callX u (dc v) (rv v)).2))
 (hp : (σ.frz fs).preX u ms ids svs = some (args, ds) := by first | rfl | (simp only [*, go_sem]; done) | (simp only [*, go_sem, mA, mS]; done)) : CallV P G f svs σ K := by
 obtain ⟨v, e, h⟩ := obi h.e
 exact CallV.frz fs (CallV.t' (ok v e) hp fun c rs hq => by obtain ⟨rfl, rfl⟩ := hq; exact hk v ⟨h⟩)
theorem eti {res : List RVar} {n : Nat} {ms : List Nat} {R : List D → List RV → Prop} (fs : List GC) (h : endT0 res n ms R (σ.frz fs)) : endT res n ms R .ret σ := ⟨fs, h⟩
theorem etn {res : List RVar} {n : Nat} {ms : List Nat} {R : List D → List RV → Prop} (fs : List GC) (h : endT0 res n ms R (σ.frz fs)) : endT res n ms R .normal σ := ⟨fs, h⟩
variable (u : Nat) (args : List SV) (n t : Nat)
theorem u4x : (St.initX args n).get t = if t = 1000000 then ptrX else args.getD t .dead := (rfl)
theorem y4w : (St.initX args n).obj u = if u = 0 then some (.box (dd n)) else none := (rfl)
theorem u4h : (St.initX args n).next = 1 := (rfl)
theorem isX_q (k : Nat) : isX u (.one (.p (.q k 0 0))) = (k == u) := (rfl)
theorem isX_d (d : D) : isX u (.one (.d d)) = false := (rfl)
theorem isX_nl (sz : Nat) : isX u (.one (.nl sz)) = false := (rfl)
theorem isX_r (a b c : Nat) : isX u (.one (.r a b c)) = false := (rfl)
theorem isX_c (f : FuncId) (c : List Ptr) : isX u (.one (.c f c)) = false := (rfl)
theorem isX_l (a : Nat) (b : List (List D)) (c d : Nat) : isX u (.one (.p (.l a b c d))) = false := (rfl)
theorem isX_agg (cs : List SC) : isX u (.agg cs) = false := (rfl)
end
attribute [go_sem] u4x y4w u4h isX_q isX_d isX_nl isX_r isX_c isX_l isX_agg St.preX St.outMs St.outM St.outX St.kills St.inVsX St.boxX St.callX St.startX ptrX endT0 List.headD_cons List.headD_nil List.tail_cons List.tail_nil
end Go.V
