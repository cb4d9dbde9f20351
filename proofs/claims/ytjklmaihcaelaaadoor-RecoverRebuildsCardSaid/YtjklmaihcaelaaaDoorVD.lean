/- A listed table of bools, read as cells; conditions as stated. -/
import Derived.Test.YtjklmaihcaelaaaDoorVY
import Derived.LaidMore
import Derived.MakeChecks
set_option linter.unusedVariables false
set_option linter.unusedSimpArgs false
namespace Go.V
open Go
section
section
variable {P : Program} {H : Type} {enc : TypeId × Value → H} {W : World}
def w3p : DataW H → Bool
 | .lit (.bool b) => b
 | _ => false
def x0q : DataW H → List Bool
 | .agg ps => ps.map w3p
 | _ => []
def z0n : DataW H → List Bool
 | .agg ps => (ps.map x0q).flatten
 | _ => []
theorem z3m {base : Nat} {held : Bool} {t : TypeId} {fs : Array Field} {fuel : Nat} {cs : List Value} {x : DataW H × List MemPlace} (hu : P.underlying t = some (.struct fs))
 (hf : ∀ (i : Nat) (f : Field), fs[i]? = some f → f.offset = i ∧ P.underlying f.type = some .bool ∧ P.cellsOf f.type = 1) (hc : P.cellsOf t = fs.size)
 (h : DataW.trod enc P W base (fun b => true) held fuel t cs = some x) : cs = (x0q x.1).map Value.bool ∧ (x0q x.1).length = fs.size := by
 obtain ⟨xs, n, _, rfl, hl, hlen, hi⟩ := DataW.trod_struct hu h
 have e : (x0q (DataW.agg (xs.map (·.1)) : DataW H)) = xs.map fun y => w3p y.1 := by simp [x0q]
 simp only [e]
 refine ⟨List.ext_getElem (by simp [hl, hc, hlen]) fun i h1 h2 => ?_, by simp [hlen]⟩
 simp only [List.length_map] at h2
 have hif : i < fs.size := by omega
 obtain ⟨g1, g2, g3⟩ := hf i fs[i] (by simp [hif])
 have := hi i fs[i] (by simp [hif])
 rw [g1, g3, List.getElem?_eq_getElem h2] at this
 obtain ⟨b, k1, k2⟩ := DataW.trod_bool g2 this
 rw [List.drop_eq_getElem_cons h1] at k1
 simp only [List.take_succ_cons, List.take_zero, List.cons.injEq, and_true] at k1
 simp [k1, k2, w3p]
theorem z2k {base : Nat} {held : Bool} {t e : TypeId} {m : Nat} {fs : Array Field} {fuel : Nat} {cs : List Value} {x : DataW H × List MemPlace} (ha : P.underlying t = some (.array m e)) (hu : P.underlying e = some (.struct fs))
 (hf : ∀ (i : Nat) (f : Field), fs[i]? = some f → f.offset = i ∧ P.underlying f.type = some .bool ∧ P.cellsOf f.type = 1) (hc : P.cellsOf e = fs.size) (hc2 : P.cellsOf t = m * fs.size)
 (h : DataW.trod enc P W base (fun b => true) held fuel t cs = some x) : cs = (z0n x.1).map Value.bool := by
 obtain ⟨xs, n, _, rfl, hl, hlen, hi⟩ := DataW.trod_array ha h
 have key : ∀ i (hi' : i < xs.length), (cs.drop (i * fs.size)).take fs.size = (x0q xs[i].1).map Value.bool ∧ (x0q xs[i].1).length = fs.size := fun i hi' => by
  have := hi i (by omega)
  rw [hc, List.getElem?_eq_getElem hi'] at this
  exact z3m hu hf hc this
 have e : (z0n (DataW.agg (xs.map (·.1)) : DataW H)) = (xs.map fun y => x0q y.1).flatten := by simp [z0n, Function.comp_def]
 simp only [e]
 clear e hi h
 rw [hc2, ← hlen] at hl
 clear hlen hc hc2
 generalize hq : fs.size = q at *
 clear hf hu ha
 induction xs generalizing cs with
 | nil => simpa using hl
 | cons y ys ih =>
  have k0 := key 0 (by simp)
  simp only [Nat.zero_mul, List.drop_zero, List.getElem_cons_zero] at k0
  have hl' : cs.length = ys.length * q + q := by rw [hl, List.length_cons, Nat.add_mul, Nat.one_mul]
  have := ih (cs := cs.drop q) (by simp; omega) fun i hi' => by
   have := key (i + 1) (by simp; omega)
   simp only [List.getElem_cons_succ] at this
   rw [List.drop_drop, show q + i * q = (i + 1) * q from by rw [Nat.add_mul, Nat.one_mul, Nat.add_comm]]
   exact this
  simp only [List.map_cons, List.flatten_cons, List.map_append]
  rw [← this, ← k0.1, List.take_append_drop]
theorem u4i {name : String} {d : DataW Unit} {g : Nat} {t e : TypeId} {m : Nat} {fs : Array Field} (h : laidMetH P [(name, d)] W) (hh : d.handleName?.isNone = true) (hg : P.globalNamed name = some g)
 (ht : (P.globals[g]?).map (·.type) = some t) (ha : P.underlying t = some (.array m e)) (hu : P.underlying e = some (.struct fs))
 (hf : ∀ (i : Nat) (f : Field), fs[i]? = some f → f.offset = i ∧ P.underlying f.type = some .bool ∧ P.cellsOf f.type = 1) (hc : P.cellsOf e = fs.size) (hc2 : P.cellsOf t = m * fs.size) :
 GOk (fun n => if n = g then some ((z0n d).map D.b) else none) W.heap (fun b => b < W.heap.size) := by
 rw [MakeChecks.laidMetH_plain _ _ _ (by simpa using hh)] at h
 obtain ⟨ps, ⟨g0, t0, cs0, f0, p0, q0, hg0, ht0, hv0, hd0, _⟩, _⟩ := h
 obtain rfl := Option.some.inj (hg.symm.trans hg0)
 obtain rfl := Option.some.inj (ht.symm.trans ht0)
 have hcs := z2k ha hu hf hc hc2 hd0
 intro n cells hn
 simp only at hn
 split at hn
 case isFalse => cases hn
 rename_i hng
 subst hng
 simp only [Option.some.injEq] at hn
 subst hn
 unfold World.var? at hv0
 rw [hg] at hv0
 simp only [Option.bind_some] at hv0
 split at hv0
 ·rename_i cs ety fr hb
  simp only [Option.some.injEq] at hv0; subst hv0
  refine ⟨.k _ n cs ety fr (Array.getElem?_eq_some_iff.1 hb).1 hb ?_, cs, ety, fr, hb, by rw [← Array.length_toList, hcs]; simp⟩
  rw [hcs]
  exact RelCs.of_at _ _ fun j d hd => by
   simp only [List.getElem?_map, Option.map_eq_some_iff] at hd
   obtain ⟨b, h1, rfl⟩ := hd
   exact ⟨.bool b, by simp [h1], .b b⟩
 ·cases hv0
/-! Several tables, of numbers and strings, too. -/
def litD : DataW H → D
 | .lit (.bool b) => .b b
 | .lit (.int k n) => .i k n
 | .lit (.string s) => .s ⟨s.toArray⟩
 | _ => .np
def v2w : DataW H → List D
 | .agg ps => ps.map litD
 | _ => []
def Basic (P : Program) (e : TypeId) : Prop := P.underlying e = some .bool ∨ (∃ k, P.underlying e = some (.int k)) ∨ P.underlying e = some .string
theorem w3x {base : Nat} {held : Bool} {t e : TypeId} {m : Nat} {fuel : Nat} {cs : List Value} {x : DataW H × List MemPlace} {h0 : Array Obj} {Im : Nat → Prop} (ha : P.underlying t = some (.array m e)) (hb : Basic P e) (hc : P.cellsOf e = 1) (hc2 : P.cellsOf t = m)
 (h : DataW.trod enc P W base (fun b => true) held fuel t cs = some x) : cs.length = (v2w x.1).length ∧ ∀ (j : Nat) d, (v2w x.1)[j]? = some d → ∃ v, cs[j]? = some v ∧ RelD h0 Im d v [] := by
 obtain ⟨xs, n, _, rfl, hl, hlen, hi⟩ := DataW.trod_array ha h
 have e0 : (v2w (DataW.agg (xs.map (·.1)) : DataW H)) = xs.map fun y => litD y.1 := by simp [v2w]
 simp only [e0]
 refine ⟨by rw [hl, hc2, List.length_map, hlen], fun j d hd => ?_⟩
 rw [List.getElem?_map, Option.map_eq_some_iff] at hd
 obtain ⟨y, hy, rfl⟩ := hd
 have hj : j < m := by rw [← hlen]; exact (List.getElem?_eq_some_iff.1 hy).1
 have hx := hi j hj
 rw [hc, Nat.mul_one, hy] at hx
 have hcj : j < cs.length := by rw [hl, hc2]; exact hj
 have hk : ∀ v, (cs.drop j).take 1 = [v] → cs[j]? = some v := fun v k1 => by
  rw [List.drop_eq_getElem_cons hcj] at k1
  simp only [List.take_succ_cons, List.take_zero, List.cons.injEq, and_true] at k1
  rw [List.getElem?_eq_getElem hcj, k1]
 rcases hb with hb | ⟨k, hb⟩ | hb
 ·obtain ⟨b, k1, k2⟩ := DataW.trod_bool hb hx
  exact ⟨_, hk _ k1, by rw [k2]; exact .b b⟩
 ·obtain ⟨b, k1, k2, _⟩ := DataW.trod_int hb hx
  exact ⟨_, hk _ k1, by rw [k2]; exact .i k b⟩
 ·obtain ⟨b, k1, k2, _⟩ := DataW.trod_string hb hx
  refine ⟨_, hk _ k1, ?_⟩
  rw [k2]
  exact .s b
theorem x4n {laid : List (String × DataW Unit)} {ps : List MemPlace} {name : String} {d : DataW Unit} {i : Nat} (h : DataW.LaidVars P W laid ps) (hi : laid[i]? = some (name, d)) :
 ∃ g t cs fuel p, P.globalNamed name = some g ∧ (P.globals[g]?).map (·.type) = some t ∧ W.var? P name = some cs ∧ DataW.trod (fun _ => ()) P W 0 (fun _ => true) false fuel t cs.toList = some (d, p) := by
 induction laid generalizing ps i with
 | nil => simp at hi
 | cons x laid ih =>
  obtain ⟨n0, d0⟩ := x
  obtain ⟨g, t, cs, fuel, p, q, h1, h2, h3, h4, h5, _⟩ := h
  cases i with
  | zero => simp only [List.getElem?_cons_zero, Option.some.injEq, Prod.mk.injEq] at hi; obtain ⟨rfl, rfl⟩ := hi; exact ⟨g, t, cs, fuel, p, h1, h2, h3, h4⟩
  | succ i => exact ih h5 (by simpa using hi)
theorem u4o {g : Nat} {name : String} {cs : Array Value} {ds : List D} (hg : P.globalNamed name = some g) (hv0 : W.var? P name = some cs) (hl : cs.toList.length = ds.length) (hr : ∀ (j : Nat) d, ds[j]? = some d → ∃ v, cs.toList[j]? = some v ∧ RelD W.heap (fun b => b < W.heap.size) d v []) : GlobR W.heap (fun b => b < W.heap.size) g ds := by
 unfold World.var? at hv0
 rw [hg] at hv0
 simp only [Option.bind_some] at hv0
 split at hv0
 ·rename_i cs' ety fr hb
  simp only [Option.some.injEq] at hv0; subst hv0
  refine ⟨.k _ g _ ety fr (Array.getElem?_eq_some_iff.1 hb).1 hb (RelCs.of_at _ _ hr), _, ety, fr, hb, by rw [← Array.length_toList, hl]⟩
 ·cases hv0
theorem laid_glob {laid : List (String × DataW Unit)} {name : String} {d : DataW Unit} (i : Nat) {g : Nat} {t e : TypeId} {m : Nat} (h : laidMetH P laid W) (hh : (laid.all fun x => x.2.handleName?.isNone) = true) (hi : laid[i]? = some (name, d)) (hg : P.globalNamed name = some g)
 (ht : (P.globals[g]?).map (·.type) = some t) (ha : P.underlying t = some (.array m e)) (hb : Basic P e) (hc : P.cellsOf e = 1) (hc2 : P.cellsOf t = m) : GlobR W.heap (fun b => b < W.heap.size) g (v2w d) := by
 rw [MakeChecks.laidMetH_plain _ _ _ hh] at h
 obtain ⟨ps, h, _⟩ := h
 obtain ⟨g0, t0, cs0, f0, p0, hg0, ht0, hv0, hd0⟩ := x4n h hi
 obtain rfl := Option.some.inj (hg.symm.trans hg0)
 obtain rfl := Option.some.inj (ht.symm.trans ht0)
 obtain ⟨k1, k2⟩ := w3x (h0 := W.heap) (Im := fun b => b < W.heap.size) ha hb hc hc2 hd0
 exact u4o hg hv0 k1 k2
theorem laid_globB {laid : List (String × DataW Unit)} {name : String} {d : DataW Unit} (i : Nat) {g : Nat} {t e : TypeId} {m : Nat} {fs : Array Field} (h : laidMetH P laid W) (hh : (laid.all fun x => x.2.handleName?.isNone) = true) (hi : laid[i]? = some (name, d)) (hg : P.globalNamed name = some g)
 (ht : (P.globals[g]?).map (·.type) = some t) (ha : P.underlying t = some (.array m e)) (hu : P.underlying e = some (.struct fs))
 (hf : ∀ (i : Nat) (f : Field), fs[i]? = some f → f.offset = i ∧ P.underlying f.type = some .bool ∧ P.cellsOf f.type = 1) (hc : P.cellsOf e = fs.size) (hc2 : P.cellsOf t = m * fs.size) : GlobR W.heap (fun b => b < W.heap.size) g ((z0n d).map D.b) := by
 rw [MakeChecks.laidMetH_plain _ _ _ hh] at h
 obtain ⟨ps, h, _⟩ := h
 obtain ⟨g0, t0, cs0, f0, p0, hg0, ht0, hv0, hd0⟩ := x4n h hi
 obtain rfl := Option.some.inj (hg.symm.trans hg0)
 obtain rfl := Option.some.inj (ht.symm.trans ht0)
 have hcs := z2k ha hu hf hc hc2 hd0
 refine u4o hg hv0 (by rw [hcs]; simp) fun j d hd => ?_
 simp only [List.getElem?_map, Option.map_eq_some_iff] at hd
 obtain ⟨b, h1, rfl⟩ := hd
 exact ⟨.bool b, by rw [hcs]; simp [h1], .b b⟩
theorem v4i {G : Nat → Option (List D)} {f : Nat} {svs : List SV} {vals : Array Value} (h : FnRO P G f svs (fun rs => rs = [.one (.b true)])) (hg : GOk G W.heap (fun b => b < W.heap.size)) (hr : RelVs W.heap (fun b => b < W.heap.size) (fun _ => .free) svs vals.toList) :
 Calls P f vals W fun e W' => e = .returned (.bool true) ∧ RowKit.Below W.heap.size W W' := by
 have := h.2 W (fun b => b < W.heap.size) vals.toList hg (fun b hb => hb) hr
 rw [Array.toArray_toList] at this
 refine this.mono ?_
 rintro e W' ⟨vs, rs, Im', fp, rfl, rfl, hext, _, _, _, hrel, _⟩
 refine ⟨?_, hext.os, hext.tape, hext.output, hext.size, fun k hk => hext.block k hk (fun h => h)⟩
 cases hrel with
 | cons _ v _ _ _ _ r1 r2 =>
  cases r2
  cases r1 with
  | one _ _ _ r => cases r; rfl
end
end
end Go.V
