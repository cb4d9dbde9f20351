/- A listed table of bools, read as cells; conditions as stated. -/
import Derived.Test.YtmnicbhniaejjaaDoorVY
import Derived.LaidMore
import Derived.MakeChecks
set_option linter.unusedVariables false
set_option linter.unusedSimpArgs false
namespace Go.V
open Go
section
variable {P : Program} {H : Type} {enc : TypeId × Value → H} {W : World}
def litBool : DataW H → Bool
  | .lit (.bool b) => b
  | _ => false
def rowBools : DataW H → List Bool
  | .agg ps => ps.map litBool
  | _ => []
def tableBools : DataW H → List Bool
  | .agg ps => (ps.map rowBools).flatten
  | _ => []
theorem struct_bools {base : Nat} {held : Bool} {t : TypeId} {fs : Array Field} {fuel : Nat} {cs : List Value} {x : DataW H × List MemPlace} (hu : P.underlying t = some (.struct fs))
    (hf : ∀ (i : Nat) (f : Field), fs[i]? = some f → f.offset = i ∧ P.underlying f.type = some .bool ∧ P.cellsOf f.type = 1) (hc : P.cellsOf t = fs.size)
    (h : DataW.trod enc P W base (fun b => true) held fuel t cs = some x) : cs = (rowBools x.1).map Value.bool ∧ (rowBools x.1).length = fs.size := by
  obtain ⟨xs, n, _, rfl, hl, hlen, hi⟩ := DataW.trod_struct hu h
  have e : (rowBools (DataW.agg (xs.map (·.1)) : DataW H)) = xs.map fun y => litBool y.1 := by simp [rowBools]
  simp only [e]
  refine ⟨List.ext_getElem (by simp [hl, hc, hlen]) fun i h1 h2 => ?_, by simp [hlen]⟩
  simp only [List.length_map] at h2
  have hif : i < fs.size := by omega
  obtain ⟨g1, g2, g3⟩ := hf i fs[i] (by simp [hif])
  have := hi i fs[i] (by simp [hif])
  rw [g1, g3, List.getElem?_eq_getElem h2] at this
  obtain ⟨b, k1, k2⟩ := DataW.trod_bool g2 this
  rw [List.drop_eq_getElem_cons h1] at k1
  simp only [List.take_succ_cons, List.take_zero, List.cons.injEq, and_true] at k1
  simp [k1, k2, litBool]
theorem table_bools {base : Nat} {held : Bool} {t e : TypeId} {m : Nat} {fs : Array Field} {fuel : Nat} {cs : List Value} {x : DataW H × List MemPlace} (ha : P.underlying t = some (.array m e)) (hu : P.underlying e = some (.struct fs))
    (hf : ∀ (i : Nat) (f : Field), fs[i]? = some f → f.offset = i ∧ P.underlying f.type = some .bool ∧ P.cellsOf f.type = 1) (hc : P.cellsOf e = fs.size) (hc2 : P.cellsOf t = m * fs.size)
    (h : DataW.trod enc P W base (fun b => true) held fuel t cs = some x) : cs = (tableBools x.1).map Value.bool := by
  obtain ⟨xs, n, _, rfl, hl, hlen, hi⟩ := DataW.trod_array ha h
  have key : ∀ i (hi' : i < xs.length), (cs.drop (i * fs.size)).take fs.size = (rowBools xs[i].1).map Value.bool ∧ (rowBools xs[i].1).length = fs.size := fun i hi' => by
    have := hi i (by omega)
    rw [hc, List.getElem?_eq_getElem hi'] at this
    exact struct_bools hu hf hc this
  have e : (tableBools (DataW.agg (xs.map (·.1)) : DataW H)) = (xs.map fun y => rowBools y.1).flatten := by simp [tableBools, Function.comp_def]
  simp only [e]
  clear e hi h
  rw [hc2, ← hlen] at hl
  clear hlen hc hc2
  generalize hq : fs.size = q at *
  clear hf hu ha
  induction xs generalizing cs with
  | nil => simpa using hl
  | cons y ys ih =>
    have k0 := key 0 (by simp)
    simp only [Nat.zero_mul, List.drop_zero, List.getElem_cons_zero] at k0
    have hl' : cs.length = ys.length * q + q := by rw [hl, List.length_cons, Nat.add_mul, Nat.one_mul]
    have := ih (cs := cs.drop q) (by simp; omega) fun i hi' => by
      have := key (i + 1) (by simp; omega)
      simp only [List.getElem_cons_succ] at this
      rw [List.drop_drop, show q + i * q = (i + 1) * q from by rw [Nat.add_mul, Nat.one_mul, Nat.add_comm]]
      exact this
    simp only [List.map_cons, List.flatten_cons, List.map_append]
    rw [← this, ← k0.1, List.take_append_drop]
theorem laid_table {name : String} {d : DataW Unit} {g : Nat} {t e : TypeId} {m : Nat} {fs : Array Field} (h : laidMetH P [(name, d)] W) (hh : d.handleName?.isNone = true) (hg : P.globalNamed name = some g)
    (ht : (P.globals[g]?).map (·.type) = some t) (ha : P.underlying t = some (.array m e)) (hu : P.underlying e = some (.struct fs))
    (hf : ∀ (i : Nat) (f : Field), fs[i]? = some f → f.offset = i ∧ P.underlying f.type = some .bool ∧ P.cellsOf f.type = 1) (hc : P.cellsOf e = fs.size) (hc2 : P.cellsOf t = m * fs.size) :
    GOk (fun n => if n = g then some ((tableBools d).map D.b) else none) W.heap (fun b => b < W.heap.size) := by
  rw [MakeChecks.laidMetH_plain _ _ _ (by simpa using hh)] at h
  obtain ⟨ps, ⟨g0, t0, cs0, f0, p0, q0, hg0, ht0, hv0, hd0, _⟩, _⟩ := h
  obtain rfl := Option.some.inj (hg.symm.trans hg0)
  obtain rfl := Option.some.inj (ht.symm.trans ht0)
  have hcs := table_bools ha hu hf hc hc2 hd0
  intro n cells hn
  simp only at hn
  split at hn
  case isFalse => cases hn
  rename_i hng
  subst hng
  simp only [Option.some.injEq] at hn
  subst hn
  unfold World.var? at hv0
  rw [hg] at hv0
  simp only [Option.bind_some] at hv0
  split at hv0
  · rename_i cs ety fr hb
    simp only [Option.some.injEq] at hv0; subst hv0
    refine .k _ n cs ety fr (Array.getElem?_eq_some_iff.1 hb).1 hb ?_
    rw [hcs]
    exact RelCs.of_at _ _ fun j d hd => by
      simp only [List.getElem?_map, Option.map_eq_some_iff] at hd
      obtain ⟨b, h1, rfl⟩ := hd
      exact ⟨.bool b, by simp [h1], .b b⟩
  · cases hv0
theorem law_run_at {G : Nat → Option (List D)} {f : Nat} {svs : List SV} {vals : Array Value} (h : FnRO P G f svs (fun rs => rs = [.one (.b true)])) (hg : GOk G W.heap (fun b => b < W.heap.size)) (hr : RelVs W.heap (fun b => b < W.heap.size) (fun _ => .free) svs vals.toList) :
    Calls P f vals W fun e W' => e = .returned (.bool true) ∧ RowKit.Below W.heap.size W W' := by
  have := h.2 W (fun b => b < W.heap.size) vals.toList hg (fun b hb => hb) hr
  rw [Array.toArray_toList] at this
  refine this.mono ?_
  rintro e W' ⟨vs, rs, Im', fp, rfl, rfl, hext, _, _, _, hrel, _⟩
  refine ⟨?_, hext.os, hext.tape, hext.output, hext.size, fun k hk => hext.block k hk (fun h => h)⟩
  cases hrel with
  | cons _ v _ _ _ _ r1 r2 =>
    cases r2
    cases r1 with
    | one _ _ _ r => cases r; rfl
end
end Go.V
