/- Functions, calls and laws: what is shown of the trees holds of the machine; no condition. -/
import Derived.Test.YtjklmaihcaelaaaDoorVE
import Derived.ProofKit
import Derived.ChangeShapes
import Derived.SizedLaws
import Derived.WalkKit
import Derived.OpenShut
import Derived.ShutString
import Derived.ChangeOld
import Derived.Carry
import Derived.Attr
set_option linter.unusedVariables false
set_option linter.unusedSimpArgs false
namespace Go.V
open Go
inductive RV where
 | one (d : D)
 | agg (ds : List D)
 deriving Inhabited
inductive RelR (h : Array Obj) (Im : Nat → Prop) : RV → Value → List Nat → Prop
 | one (d v fp) : RelD h Im d v fp → RelR h Im (.one d) v fp
 | agg (ds cv fp) : RelCs h Im ds cv.toList fp → cv.size = ds.length → RelR h Im (.agg ds) (.agg cv) fp
inductive RelRs (h : Array Obj) (Im : Nat → Prop) : List RV → List Value → List Nat → Prop
 | nil : RelRs h Im [] [] []
 | cons (r v f rs vs fs) : RelR h Im r v f → RelRs h Im rs vs fs → RelRs h Im (r :: rs) (v :: vs) (f ++ fs)
def packV (vs : List Value) : Value := match vs with | [v] => v | vs => .tuple vs.toArray
def GOk (G : Nat → Option (List D)) (h : Array Obj) (Im : Nat → Prop) : Prop := ∀ g cells, G g = some cells → GlobR h Im g cells
def FnRO (P : Program) (G : Nat → Option (List D)) (f : Nat) (args : List SV) (R : List RV → Prop) : Prop :=
 fOk P f = true ∧ ∀ (w : World) (Im : Nat → Prop) (vals : List Value), GOk G w.heap Im → (∀ b, Im b → b < w.heap.size) → RelVs w.heap Im (fun _ => .free) args vals →
  Calls P f vals.toArray w fun e w' => ∃ vs rs Im' fp, e = .returned (packV vs) ∧ R rs ∧ Ext (fun _ => False) w w' ∧ (∀ b, Im b → Im' b) ∧ (∀ b, Im' b → Im b ∨ w.heap.size ≤ b) ∧ (∀ b, Im' b → b < w'.heap.size) ∧
   RelRs w'.heap Im' rs vs fp ∧ fp.Nodup ∧ ∀ b ∈ fp, ¬ Im' b ∧ w.heap.size ≤ b ∧ b < w'.heap.size

/-! ### Out of a body -/
def St.outV (σ : St) : SV → Option (RV × List Nat)
 | .one c => (σ.outC c).map fun r => (.one r.1, r.2)
 | .agg cs => (σ.outCs cs).map fun r => (.agg r.1, r.2)
 | _ => none
def St.outs (σ : St) : List SV → Option (List RV × List Nat)
 | [] => some ([], [])
 | v :: vs => match σ.outV v, σ.outs vs with | some (r, i), some (rs, is) => some (r :: rs, i ++ is) | _, _ => none
def resV (σ : St) : RVar → Option SV
 | .t n => some (σ.get n)
 | .cell a agg n => (asPtr (σ.get a)).bind fun p => (σ.ld n p).bind fun cs => mkV agg cs
def resVs (σ : St) : List RVar → Option (List SV)
 | [] => some []
 | r :: rs => match resV σ r, resVs σ rs with | some v, some vs => some (v :: vs) | _, _ => none
def endQ (res : List RVar) (R : List RV → Prop) : Ex → St → Prop
 | .exit _, _ => False
 | _, σ => ∃ vs, resVs σ res = some vs ∧ ∃ r, σ.outs vs = some r ∧ u0j r.2 = true ∧ R r.1

section
variable {P : Program} {G : Nat → Option (List D)} {X : Ctx} {σ : St} {tm : Array Value} {w : World} {O : Nat → LS} {Im : Nat → Prop}
theorem v5g (s : SimW G X σ tm w O Im) {sv : SV} {v : Value} {rv : RV} {ids : List Nat} (r : RelV w.heap Im O sv v) (e : σ.outV sv = some (rv, ids)) : ∃ fp, RelR w.heap Im rv v fp ∧ Blks σ O ids fp := by
 unfold St.outV at e
 split at e
 ·simp only [Option.map_eq_some_iff, Prod.mk.injEq] at e
  obtain ⟨⟨d, is⟩, e, rfl, rfl⟩ := e
  obtain ⟨fp, g1, g2⟩ := u3y s r.one_inv e
  exact ⟨fp, .one _ _ _ g1, g2⟩
 ·simp only [Option.map_eq_some_iff, Prod.mk.injEq] at e
  obtain ⟨⟨ds, is⟩, e, rfl, rfl⟩ := e
  obtain ⟨cv, rfl, rr⟩ := r.agg_inv
  obtain ⟨fp, g1, g2, g3⟩ := z2h s rr e
  have := rr.len
  simp only [Array.length_toList] at this
  exact ⟨fp, .agg _ _ _ g1 (by show cv.size = ds.length; exact this.symm.trans g3.symm), g2⟩
 ·cases e
theorem u2z (s : SimW G X σ tm w O Im) : ∀ {svs : List SV} {vs : List Value} {rs : List RV} {ids : List Nat}, RelVs w.heap Im O svs vs → σ.outs svs = some (rs, ids) → ∃ fp, RelRs w.heap Im rs vs fp ∧ Blks σ O ids fp
 | [], vs, ds, ids, r, e => by simp only [St.outs, Option.some.injEq, Prod.mk.injEq] at e; obtain ⟨rfl, rfl⟩ := e; cases r; exact ⟨[], .nil, .nil⟩
 | c :: cs, vs, ds, ids, r, e => by
  cases r with
  | cons _ v _ vs' r1 r2 =>
   simp only [St.outs] at e
   split at e
   ·rename_i d i ds' is h1 h2
    simp only [Option.some.injEq, Prod.mk.injEq] at e; obtain ⟨rfl, rfl⟩ := e
    obtain ⟨f1, g1, b1⟩ := v5g s r1 h1
    obtain ⟨f2, g2, b2⟩ := u2z s r2 h2
    exact ⟨f1 ++ f2, .cons _ _ _ _ _ _ g1 g2, b1.app b2⟩
   ·cases e

theorem u3z {a : Act} (s : SimW G X σ a.tmps w O Im) {t : TypeId} {n : Nat} {agg : Bool} {p : Ptr} {cs : List SC} {sv : SV} {v : Value} (hagg : xn P t = agg) (hn : P.cellsOf t = n) (hok : agg = true ∨ n = 1) (r : RelP w.heap Im O p v) (e2 : σ.ld n p = some cs) (e3 : mkV agg cs = some sv) (hu : ∃ d, P.underlying t = some d) :
 ∃ u, (do loadVar t (← asAddr v) : Sem Value).run P w = .ok u w ∧ RelV w.heap Im O sv u := by
 obtain ⟨b, of, vs, rfl, hra, hr, hl⟩ := x4i s r e2
 obtain ⟨h1, h2⟩ := y2r hr e3
 have hvl : vs.length = n := by rw [← hr.len, hl]
 obtain ⟨d, hd⟩ := hu
 obtain ⟨i, hi⟩ := u0f hd
 have hsz : i.size = n := by simpa [Program.cellsOf, hi] using hn
 cases agg with
 | true =>
  obtain ⟨d', hd', hrow⟩ := x2l hagg
  refine ⟨.agg vs.toArray, ?_, by simpa using h1⟩
  have := run_loadAt_mid (P := P) w b of t vs d' hra hd' hrow (by simp [hi, hsz, hvl])
  simpa [Instr.loadAt, Instr.sureAddr, asAddr] using this
 | false =>
  have h3 := h2 rfl
  obtain ⟨v, rfl⟩ : ∃ v, vs = [v] := by
   cases vs with
   | nil => simp at h3
   | cons v r => cases r with
    | nil => exact ⟨v, rfl⟩
    | cons _ _ => simp at h3
  refine ⟨v, ?_, by simpa using h1⟩
  have hc := hra 0 v (by simp)
  have hagg' := y3i ⟨d, hd⟩ w
  rw [hagg] at hagg'
  simp only [Nat.add_zero] at hc
  simp [asAddr, loadVar, hagg', hc]
def resM (tm : Array Value) (r : ResultVar) : Sem Value := match r with
 | .tmp t => pure (tm.getD t undef)
 | .cell c t => do loadVar t (← asAddr (tm.getD c undef))
theorem z0w {a : Act} (s : SimW G X σ a.tmps w O Im) : ∀ {rvs : List ResultVar} {res : List RVar} {svs : List SV}, rvs.mapM (y3p P) = some res → resVs σ res = some svs →
 ∃ vs : List Value, RelVs w.heap Im O svs vs ∧ (rvs.mapM (resM a.tmps)).run P w = .ok vs w
 | [], res, svs, h1, h2 => by
  simp only [List.mapM_nil, Option.pure_def, Option.some.injEq] at h1
  subst h1
  simp only [resVs, Option.some.injEq] at h2
  subst h2
  exact ⟨[], .nil, by simp⟩
 | r :: rvs, res, svs, h1, h2 => by
  simp only [List.mapM_cons, Option.bind_eq_bind, Option.bind_eq_some_iff, Option.pure_def, Option.some.injEq] at h1
  obtain ⟨rv, h1, res', h1', rfl⟩ := h1
  simp only [resVs] at h2
  split at h2
  ·rename_i v vs' e1 e2
   simp only [Option.some.injEq] at h2; subst h2
   obtain ⟨us, r2, hrun2⟩ := z0w s h1' e2
   cases r with
   | tmp t =>
    simp only [y3p] at h1
    split at h1
    case isFalse => cases h1
    rename_i ht
    simp only [Option.some.injEq] at h1; subst h1
    simp only [resV, Option.some.injEq] at e1; subst e1
    refine ⟨_ :: us, .cons _ _ _ _ (y1z X.gh a.tmps ht ▸ s.slot t) r2, ?_⟩
    simp [List.mapM_cons, hrun2, resM]
   | cell c t =>
    simp only [y3p] at h1
    split at h1
    ·rename_i hc
     simp only [Bool.and_eq_true, Bool.or_eq_true, beq_iff_eq, Option.isSome_iff_exists, decide_eq_true_eq] at hc
     simp only [Option.some.injEq] at h1; subst h1
     simp only [resV, Option.bind_eq_some_iff] at e1
     obtain ⟨p, e1, cs, e3, e4⟩ := e1
     obtain ⟨u, hu, ru⟩ := u3z (P := P) s rfl rfl hc.1.2 (y0l (y1z X.gh a.tmps hc.1.1 ▸ s.slot c) e1) e3 e4 hc.2
     refine ⟨u :: us, .cons _ _ _ _ ru r2, ?_⟩
     have key : (resM a.tmps (.cell c t)).run P w = .ok u w := hu
     simp only [List.mapM_cons, Sem.run_bind, key, Result.andThen_ok, hrun2, Sem.run_pure]
    ·cases h1
  ·cases h2

theorem v2z (vs : List Value) : (if h : vs.toArray.size = 1 then vs.toArray[0] else .tuple vs.toArray) = packV vs := by
 match vs with
 | [] => rfl
 | [v] => rfl
 | v :: u :: r => simp [packV]
theorem FnRO.of {f : Nat} {F : VFn} {args : List SV} {R : List RV → Prop} (hf : lowF P f = some F.strip) (hok : fOk P f = true) (hn : args.length ≤ F.ntmps)
 (h : wpv P G F.body (endQ F.results R) ⟨fun t => args.getD t .dead, fun _ => none, 0⟩) : FnRO P G f args R := by
 refine ⟨hok, fun w Im vals hg him hr => ?_⟩
 unfold lowF at hf
 simp only [Option.bind_eq_some_iff, Option.map_eq_some_iff] at hf
 obtain ⟨fn, h1, c, h2, vc, h3, res, h4, hf⟩ := hf
 obtain ⟨nt, vb, res'⟩ := F
 simp only [VFn.strip, VFn.mk.injEq] at hf
 obtain ⟨rfl, rfl, rfl⟩ := hf
 have hlen : vals.length = args.length := by
  have : ∀ {xs : List SV} {ys : List Value}, RelVs w.heap Im (fun _ => .free) xs ys → ys.length = xs.length := by
   intro xs
   induction xs with
   | nil => intro ys r; cases r; rfl
   | cons x xs ih => intro ys r; cases r with | cons _ _ _ _ _ r => simp [ih r]
  exact this hr
 have hat : ∀ {xs : List SV} {ys : List Value}, RelVs w.heap Im (fun _ => .free) xs ys → ∀ t, RelV w.heap Im (fun _ => .free) (xs.getD t .dead) (ys.getD t undef) := by
  intro xs
  induction xs with
  | nil => intro ys r t; exact .dead _
  | cons x xs ih => intro ys r t; cases r with
   | cons _ v _ vs r1 r2 => cases t with
    | zero => simpa using r1
    | succ t => simpa using ih r2 t
 let X : Ctx := ⟨w, fun _ => False, Im, fun _ => undef⟩
 refine (calls_of_wp h1 h2 (wp_mono (w2f (X := X) c vb h3 _ _ _ _ h ⟨fun _ => .free, Im, ?_, fun _ _ => rfl, rfl, ?_⟩) ?_)).mono (fun e w' h => h)
 ·refine ⟨.refl _ _, fun _ h => h.elim, him, fun _ h => h, fun b h => .inl h, fun u _ l h => (by cases h), fun u o h => (by cases h), fun u u' o o' l l' b _ h => (by cases h), ?_, hg⟩
  intro t
  have := hat hr t
  have e : (vals.toArray ++ Array.replicate (fn.ntmps - vals.toArray.size) undef).getD t undef = vals.getD t undef := by
   simp only [Array.getD_eq_getD_getElem?, List.getD_eq_getElem?_getD, Array.getElem?_append, Array.getElem?_replicate, List.getElem?_toArray, List.size_toArray]
   split
   ·rfl
   ·rename_i hlt
    rw [List.getElem?_eq_none (by omega)]
    split <;> rfl
  unfold tmAt
  rw [show (if t < 1000000 then undef else X.gh (t - 1000000)) = undef from ite_self _, e]
  exact this
 ·have hn' : args.length ≤ fn.ntmps := hn
  simp [hlen]; omega
 ·rintro e a w' ⟨x, σ, hx, hq, O, Im', s, hfree, hd, hs⟩
  have fin : (∃ vs, resVs σ res = some vs ∧ ∃ r, σ.outs vs = some r ∧ u0j r.2 = true ∧ R r.1) → a.defers = [] ∧ ∃ v, (results fn a.tmps).run P w' = .ok v w' ∧ ∃ vs rs Im' fp, Ending.returned v = .returned (packV vs) ∧ R rs ∧ Ext (fun _ => False) w w' ∧ (∀ b, Im b → Im' b) ∧ (∀ b, Im' b → Im b ∨ w.heap.size ≤ b) ∧ (∀ b, Im' b → b < w'.heap.size) ∧
   RelRs w'.heap Im' rs vs fp ∧ fp.Nodup ∧ ∀ b ∈ fp, ¬ Im' b ∧ w.heap.size ≤ b ∧ b < w'.heap.size := by
   rintro ⟨svs, e1, ⟨rs, ids⟩, e2, e3, e4⟩
   refine ⟨hd, ?_⟩
   obtain ⟨vs, r1, hrun⟩ := z0w (a := a) s h4 e1
   obtain ⟨fp, r2, hb⟩ := u2z s r1 e2
   have hres : (results fn a.tmps).run P w' = .ok (packV vs) w' := by
    have hm : (fn.results.mapM (resM a.tmps)).run P w' = .ok vs.toArray w' := by
     rw [Array.mapM_eq_mapM_toList]
     simp [hrun]
    unfold results
    simp only [Sem.run_bind]
    have hm2 : (fn.results.mapM fun r => match r with | .tmp t => (pure (a.tmps.getD t undef) : Sem Value) | .cell c t => do loadVar t (← asAddr (a.tmps.getD c undef))) = fn.results.mapM (resM a.tmps) := by
     congr 1
    refine Eq.trans (congrArg (fun m : Sem (Array Value) => (m.run P w').andThen fun a w' => Sem.run P (pure (if h : a.size = 1 then a[0] else Value.tuple a)) w') hm2) ?_
    simp only [hm]
    simp only [Result.andThen_ok, Sem.run_pure]
    rw [v2z]
   refine ⟨packV vs, hres, vs, rs, Im', fp, rfl, e4, s.ext, s.im0, fun b hb => ?_, s.imlt, r2, hb.nodup s (w0o e3), ?_⟩
   ·rcases s.im1 b hb with h | h | h
    ·exact .inl h
    ·exact h.elim
    ·exact .inr h
   ·intro b hbm
    obtain ⟨id, o, l, _, g1, g2, g3⟩ := hb.mem b hbm
    obtain ⟨q1, q2, q3⟩ := s.ownblk g1 g2 g3
    exact ⟨q1, q3.resolve_left (fun h => h), q2⟩
  cases x <;> cases e <;> simp only [exRel] at hx
  ·exact fin hq
  ·exact hq.elim
  ·exact fin hq
end
def St.inD (σ : St) (lend : Bool) : SC → Option D
 | .d d => some d
 | .nl sz => some (.l sz [])
 | .r id off len => match σ.obj id with
  | some (.arr sz rows fz) => if (lend = true ∨ fz = true) ∧ off + len ≤ rows.length then some (.l sz ((rows.drop off).take len)) else none
  | some (.tre sz rows none) => if lend = true ∧ off = 0 ∧ len = rows.length then some (.l sz (rows.map (List.map D.fw))) else none
  | _ => none
 | .p _ => none
 | .c _ _ => none
 | .dead => none
 | .rc _ _ _ _ => none
def St.inDs (σ : St) (lend : Bool) : List SC → Option (List D)
 | [] => some []
 | c :: cs => match σ.inD lend c, σ.inDs lend cs with | some d, some ds => some (d :: ds) | _, _ => none
def St.inP (σ : St) (lend : Bool) : Ptr → Option D
 | .q id 0 0 => match σ.obj id with
  | some (.box cells) => if lend = true then (σ.inDs lend cells).map .k else none
  | _ => none
 | _ => none
def St.inE (σ : St) (lend : Bool) : SC → Option D
 | .p x => σ.inP lend x
 | .d d => some d
 | .nl sz => some (.l sz [])
 | .r id off len => σ.inD lend (.r id off len)
 | .c _ _ => none
 | .dead => none
 | .rc _ _ _ _ => none
def St.inEs (σ : St) (lend : Bool) : List SC → Option (List D)
 | [] => some []
 | c :: cs => match σ.inE lend c, σ.inEs lend cs with | some d, some ds => some (d :: ds) | _, _ => none
def St.inPP (σ : St) (lend : Bool) : Ptr → Option D
 | .q id 0 0 => match σ.obj id with
  | some (.box cells) => if lend = true then (σ.inEs lend cells).map .k else none
  | _ => none
 | _ => none
def St.inPs (σ : St) (lend : Bool) : List Ptr → Option (List D)
 | [] => some []
 | c :: cs => match σ.inPP lend c, σ.inPs lend cs with | some d, some ds => some (d :: ds) | _, _ => none
def St.inPC (σ : St) (lend : Bool) : Ptr → Option SC
 | .q id 0 0 => match σ.obj id with
  | some (.box cells) => if lend = true then (σ.inEs lend cells).map fun ds => .d (.k ds) else none
  | _ => none
 | .l sz rows i j => some (.p (.l sz rows i j))
 | _ => none
def St.inC (σ : St) (lend : Bool) : SC → Option SC
 | .p x => σ.inPC lend x
 | .dead => some .dead
 | .nl sz => some (.d (.l sz []))
 | .c fn caps => (σ.inPs lend caps).map fun ds => .d (.f fn ds)
 | .d d => some (.d d)
 | .r id off len => (σ.inD lend (.r id off len)).map .d
 | .rc _ _ _ _ => none
def St.inCs (σ : St) (lend : Bool) : List SC → Option (List SC)
 | [] => some []
 | c :: cs => match σ.inC lend c, σ.inCs lend cs with | some d, some ds => some (d :: ds) | _, _ => none
def St.inV (σ : St) (lend : Bool) : SV → Option SV
 | .one c => (σ.inC lend c).map .one
 | .agg cs => (σ.inCs lend cs).map .agg
 | .dead => some .dead
 | _ => none
def St.inVs (σ : St) (lend : Bool) : List SV → Option (List SV)
 | [] => some []
 | c :: cs => match σ.inV lend c, σ.inVs lend cs with | some d, some ds => some (d :: ds) | _, _ => none
def St.addR (σ : St) : RV → St × SV
 | .one d => ((σ.addD d).1, .one (σ.addD d).2)
 | .agg ds => ((σ.addDs ds).1, .agg (σ.addDs ds).2)
def St.addRs (σ : St) : List RV → St × List SV
 | [] => (σ, [])
 | r :: rs => (((σ.addR r).1.addRs rs).1, (σ.addR r).2 :: ((σ.addR r).1.addRs rs).2)
def packS : List SV → SV
 | [v] => v
 | vs => .tup vs
def D.plain1 : D → Bool
 | .i .. | .b _ | .s _ | .np | .nf => true
 | _ => false
def D.plainE : D → Bool
 | .o _ rows => rows.all fun r => r.all D.plain1
 | .l _ [] => true
 | d => d.plain1
def D.plain0 : D → Bool
 | .t _ rows => rows.all fun r => r.all D.plainE
 | d => d.plainE
def D.plain : D → Bool
 | .x cells => cells.all D.plain0
 | d => d.plain0
def RV.plain : RV → Bool
 | .one d => d.plain
 | .agg ds => ds.all D.plain0

section
variable {P : Program} {G : Nat → Option (List D)} {X : Ctx} {σ : St} {tm : Array Value} {w w' : World} {O : Nat → LS} {Im Im' : Nat → Prop}
theorem y2z {h : Array Obj} {d : D} {v : Value} {fp : List Nat} (r : RelD h Im d v fp) (hp : d.plain1 = true) (Im' : Nat → Prop) : RelD h Im' d v fp := by
 cases r <;> simp [D.plain1] at hp
 ·exact .i _ _
 ·exact .b _
 ·exact .s _
 ·exact .np
 ·exact .nf
theorem u2k {h : Array Obj} : ∀ {ds : List D} {vs : List Value} {fp : List Nat}, RelCs h Im ds vs fp → (∀ d ∈ ds, d.plain1 = true) → (Im' : Nat → Prop) → RelCs h Im' ds vs fp
 | _, _, _, .nil _, _, _ => .nil _
 | _, _, _, .cons d v f ds vs fs r rs, hp, Im' => .cons _ _ _ _ _ _ (y2z r (hp d (by simp)) Im') (u2k rs (fun d hd => hp d (by simp [hd])) Im')
theorem z2z {h : Array Obj} {d : D} {v : Value} {fp : List Nat} (r : RelD h Im d v fp) (hp : d.plainE = true) (Im' : Nat → Prop) : RelD h Im' d v fp := by
 cases r with
 | l0 sz a cap => exact .l0 _ _ _
 | l sz rows b off cap c e fr h1 h2 h3 h4 h5 => cases rows with
  | nil => exact .l0 _ _ _
  | cons _ _ => simp [D.plainE, D.plain1] at hp
 | o0 sz a => exact .o0 _ _
 | o sz rows b cap a sc c e h1 h2 h3 h4 h5 h6 h7 h8 =>
  refine .o sz rows b cap a sc c e h1 h2 h3 h4 h5 h6 h7 (u2k h8 ?_ Im')
  intro d hd
  obtain ⟨r, hr, hd⟩ := List.mem_flatten.1 hd
  simp only [D.plainE, List.all_eq_true] at hp
  exact hp r hr d hd
 | i | b | s | np | nf => exact y2z (Im := Im) (by constructor) (by simpa [D.plainE] using hp) Im'
 | x | k | f | t | t0 | w | v => simp [D.plainE, D.plain1] at hp
theorem v2k {h : Array Obj} : ∀ {ds : List D} {vs : List Value} {fp : List Nat}, RelCs h Im ds vs fp → (∀ d ∈ ds, d.plainE = true) → (Im' : Nat → Prop) → RelCs h Im' ds vs fp
 | _, _, _, .nil _, _, _ => .nil _
 | _, _, _, .cons d v f ds vs fs r rs, hp, Im' => .cons _ _ _ _ _ _ (z2z r (hp d (by simp)) Im') (v2k rs (fun d hd => hp d (by simp [hd])) Im')
theorem x2z {h : Array Obj} {d : D} {v : Value} {fp : List Nat} (r : RelD h Im d v fp) (hp : d.plain0 = true) (Im' : Nat → Prop) : RelD h Im' d v fp := by
 by_cases hx : ∃ sz rows, d = .t sz rows
 ·obtain ⟨sz, rows, rfl⟩ := hx
  cases r with
  | t0 sz a => exact .t0 _ _
  | t sz rows b cap a sc c e fp h1 h2 h3 h4 h5 h6 h7 h8 =>
   refine .t sz rows b cap a sc c e fp h1 h2 h3 h4 h5 h6 h7 (v2k h8 ?_ Im')
   intro d hd
   obtain ⟨r, hr, hd⟩ := List.mem_flatten.1 hd
   simp only [D.plain0, List.all_eq_true] at hp
   exact hp r hr d hd
 ·exact z2z r (by cases d <;> simp_all [D.plain0]) Im'
theorem w1h {h : Array Obj} : ∀ {ds : List D} {vs : List Value} {fp : List Nat}, RelCs h Im ds vs fp → (∀ d ∈ ds, d.plain0 = true) → (Im' : Nat → Prop) → RelCs h Im' ds vs fp
 | _, _, _, .nil _, _, _ => .nil _
 | _, _, _, .cons d v f ds vs fs r rs, hp, Im' => .cons _ _ _ _ _ _ (x2z r (hp d (by simp)) Im') (w1h rs (fun d hd => hp d (by simp [hd])) Im')
theorem x4h {h : Array Obj} {r : RV} {v : Value} {fp : List Nat} (q : RelR h Im r v fp) (hp : r.plain = true) (Im' : Nat → Prop) : RelR h Im' r v fp := by
 cases q with
 | one d v fp q =>
  refine .one _ _ _ ?_
  by_cases hx : ∃ c, d = .x c
  ·obtain ⟨c, rfl⟩ := hx
   cases q with
   | x cells b c e fp h1 h2 h3 =>
    simp only [RV.plain, D.plain, List.all_eq_true] at hp
    exact .x _ b c e fp h1 h2 (w1h h3 hp Im')
  ·exact x2z q (by cases d <;> simp_all [RV.plain, D.plain]) Im'
 | agg ds cv fp q hl =>
  simp only [RV.plain, List.all_eq_true] at hp
  exact .agg _ _ _ (w1h q hp Im') hl
theorem x0w {h : Array Obj} : ∀ {ds : List RV} {vs : List Value} {fp : List Nat}, RelRs h Im ds vs fp → (∀ d ∈ ds, d.plain = true) → (Im' : Nat → Prop) → RelRs h Im' ds vs fp
 | _, _, _, .nil, _, _ => .nil
 | _, _, _, .cons d v f ds vs fs r rs, hp, Im' => .cons _ _ _ _ _ _ (x4h r (hp d (by simp)) Im') (x0w rs (fun d hd => hp d (by simp [hd])) Im')
theorem RelR.up {h : Array Obj} (hi : ∀ b, Im b → Im' b) {r : RV} {v : Value} {fp : List Nat} (q : RelR h Im r v fp) : RelR h Im' r v fp := by
 cases q with
 | one d v fp q => exact .one _ _ _ (q.keep hi fun _ _ => rfl)
 | agg ds cv fp q hl => exact .agg _ _ _ (q.keep hi fun _ _ => rfl) hl
theorem RelRs.up {h : Array Obj} (hi : ∀ b, Im b → Im' b) : ∀ {rs : List RV} {vs : List Value} {fp : List Nat}, RelRs h Im rs vs fp → RelRs h Im' rs vs fp
 | _, _, _, .nil => .nil
 | _, _, _, .cons _ _ _ _ _ _ r rs => .cons _ _ _ _ _ _ (r.up hi) (rs.up hi)

theorem SimW.called (s : SimW G X σ tm w O Im) (hext : Ext (fun _ => False) w w') {Im'' : Nat → Prop} (h1 : ∀ b, Im b → Im'' b) (h2 : ∀ b, Im'' b → Im b ∨ (w.heap.size ≤ b ∧ b < w'.heap.size)) : SimW G X σ tm w' O Im'' := by
 have hblk : ∀ b, b < w.heap.size → w'.heap[b]? = w.heap[b]? := fun b hb => hext.block b hb (fun h => h)
 have m : Moves w.heap w'.heap Im Im'' O O := ⟨h1, fun b hb => hblk b (s.imlt b hb), fun _ _ => .inl rfl⟩
 refine ⟨s.ext.trans' hext.os hext.tape hext.output hext.size (fun b hb _ => hblk b (Nat.lt_of_lt_of_le hb s.ext.size)), s.ownlt, ?_, fun b hb => h1 b (s.im0 b hb), ?_, s.dead, ?_, s.disj, fun t => (s.slot t).moves m, fun g c hg => (s.glob g c hg).moves m⟩
 ·intro b hb
  rcases h2 b hb with h | h
  ·exact Nat.lt_of_lt_of_le (s.imlt b h) hext.size
  ·exact h.2
 ·intro b hb
  rcases h2 b hb with h | h
  ·exact s.im1 b h
  ·exact .inr (.inr (Nat.le_trans s.ext.size h.1))
 ·intro u o ho
  obtain ⟨l, hl, hr, hb⟩ := s.obj u o ho
  have hn : ∀ b, Own o l b → ¬ Im'' b := by
   intro b h hi
   rcases h2 b hi with h' | h'
   ·exact (hb b h).1 h'
   ·have := (hb b h).2.1; omega
  exact ⟨l, hl, hr.moves m (fun b h => ⟨hblk b (hb b h).2.1, hn b h⟩), fun b h => ⟨hn b h, Nat.lt_of_lt_of_le (hb b h).2.1 hext.size, (hb b h).2.2⟩⟩

theorem w2j : ∀ {rs : List RV} {vs : List Value} {fp : List Nat} {σ : St} {O : Nat → LS}, SimW G X σ tm w O Im → (∀ u, σ.next ≤ u → O u = .free) → RelRs w.heap Im rs vs fp → fp.Nodup → (∀ b ∈ fp, x0h X σ w O Im b) →
 ∃ O', SimW G X (σ.addRs rs).1 tm w O' Im ∧ Added σ O (σ.addRs rs).1 O' fp ∧ RelVs w.heap Im O' (σ.addRs rs).2 vs
 | [], vs, fp, σ, O, s, hf, r, hn, hfp => by cases r; exact ⟨O, s, .refl hf, .nil⟩
 | d :: ds, vs, fp, σ, O, s, hf, r, hn, hfp => by
  cases r with
  | cons _ v f1 _ vs' f2 r1 r2 =>
   obtain ⟨n1, n2, n3⟩ := List.nodup_append.1 hn
   have step : ∃ O', SimW G X (σ.addR d).1 tm w O' Im ∧ Added σ O (σ.addR d).1 O' f1 ∧ RelV w.heap Im O' (σ.addR d).2 v := by
    cases r1 with
    | one d v f1 r1 =>
     obtain ⟨O1, s1, a1, q1⟩ := v4d s hf r1 n1 (fun b hb => hfp b (by simp [hb]))
     exact ⟨O1, s1, a1, .one _ _ q1⟩
    | agg ds cv f1 r1 hl =>
     obtain ⟨O1, s1, a1, q1⟩ := y1a s hf r1 n1 (fun b hb => hfp b (by simp [hb]))
     rw [← hl, ← Array.length_toList, List.take_length] at q1
     exact ⟨O1, s1, a1, .agg _ _ q1⟩
   obtain ⟨O1, s1, a1, q1⟩ := step
   obtain ⟨O2, s2, a2, q2⟩ := w2j (rs := ds) s1 a1.free r2 n2 (fun b hb => (hfp b (by simp [hb])).later a1 (fun h => n3 b h b hb rfl))
   exact ⟨O2, s2, a1.trans a2, .cons _ _ _ _ (q1.moves (a2.moves w.heap Im)) q2⟩
theorem v0y {h : Array Obj} : ∀ {svs : List SV} {vs : List Value}, RelVs h Im O svs vs → RelV h Im O (packS svs) (packV vs)
 | _, _, .nil => .tup [] #[] .nil
 | _, _, .cons x v [] [] r .nil => r
 | _, _, .cons x v _ _ r (.cons y u ys us r2 rs) => .tup (x :: y :: ys) (v :: u :: us).toArray (.cons _ _ _ _ r (.cons _ _ _ _ r2 rs))

def w0a (σ : St) (O : Nat → LS) (Im : Nat → Prop) (lend : Bool) (b : Nat) : Prop := Im b ∨ (lend = true ∧ ∃ u o l, σ.objs u = some o ∧ O u = .live l ∧ Own o l b)
theorem z2s (s : SimW G X σ tm w O Im) {lend : Bool} {c : SC} {v : Value} {d : D} (r : RelC w.heap Im O c v) (e : σ.inD lend c = some d) : RelD w.heap (w0a σ O Im lend) d v [] := by
 cases c with
 | d d' => simp only [St.inD, Option.some.injEq] at e; subst e; exact r.d_inv.keep (fun b h => .inl h) fun _ _ => rfl
 | nl sz => simp only [St.inD, Option.some.injEq] at e; subst e; cases r; exact .l0 _ _ _
 | r id off len =>
  simp only [St.inD] at e
  split at e
  ·rename_i sz rows fz hob
   split at e
   ·rename_i hc
    simp only [Option.some.injEq] at e; subst e
    have hlen : ((rows.drop off).take len).length = len := by simp; omega
    rcases u2f (a := ⟨tm, []⟩) s r hob hc.2 with ⟨rfl, ad, c, rfl⟩ | ⟨b, cap, c, ty, fr, cp, rfl, h1, h2, h3, h4, h5, h6, h7, h8, h9, h10, h11, h12⟩
    ·simpa using RelD.l0 (h := w.heap) (Im := w0a σ O Im lend) sz ad c
    ·have hL : w0a σ O Im lend b := by
      rcases hc.1 with hl | hz
      ·cases fz with
       | true => exact .inl (h3.1 rfl)
       | false => exact .inr ⟨hl, id, _, _, hob, h1, .inl rfl⟩
      ·exact .inl (h3.1 hz)
     have := RelD.l (h := w.heap) (Im := w0a σ O Im lend) sz ((rows.drop off).take len) b (off * sz) cp c ty fr hL h2 (fun r hr => h9 r (List.mem_of_mem_drop (List.mem_of_mem_take hr))) (by omega)
      (h12.keep (fun b h => .inl h) fun _ _ => rfl)
     rw [hlen] at this
     exact this
   ·cases e
  ·rename_i sz rows hob
   split at e
   ·rename_i hc
    obtain ⟨hld, rfl, hlen⟩ := hc
    simp only [Option.some.injEq] at e; subst e
    obtain ⟨l, hl, hr, hb⟩ := s.obj id _ hob
    cases r with
    | rd _ _ _ _ h1 => rw [h1] at hl; cases hl
    | rn _ cap sz' a0 h1 =>
     rw [h1] at hl; cases hl
     cases hr
     exact .l0 _ _ _
    | r _ _ _ b cap sz' ad c h1 h2 h3 h4 =>
     rw [h1] at hl; cases hl
     cases hr with
     | tre _ _ _ _ _ cur e sub k1 k2 k3 k4 k5 k6 k7 k8 k9 =>
      have hfw := k8.fwd (Im' := w0a σ O Im lend) (fun b h => .inl h) (fun b hb => .inr ⟨hld, id, _, _, hob, h1, .inr hb⟩)
      rw [List.map_flatten] at hfw
      subst hlen
      cases rows with
      | nil => exact .l0 _ _ _
      | cons r0 rs =>
       have e1 : ad = _ := h4.resolve_right (fun e => by simp only [List.length_cons] at h2; omega)
       subst e1
       have := RelD.l (h := w.heap) (Im := w0a σ O Im lend) sz ((r0 :: rs).map (List.map D.fw)) b 0 c cur e (0, 0) (.inr ⟨hld, id, _, _, hob, h1, .inl rfl⟩) k1 (fun r hr => by
        obtain ⟨r1, hr1, rfl⟩ := List.mem_map.1 hr
        rw [List.length_map]; exact k2 r1 hr1) (by simp only [List.length_map]; omega) hfw
       simpa using this
   ·cases e
  ·cases e
 | _ => simp [St.inD] at e
theorem u4b (s : SimW G X σ tm w O Im) {lend : Bool} : ∀ {cs : List SC} {vs : List Value} {ds : List D}, RelCl w.heap Im O cs vs → σ.inDs lend cs = some ds → RelCs w.heap (w0a σ O Im lend) ds vs [] ∧ ds.length = cs.length
 | [], vs, ds, r, e => by simp only [St.inDs, Option.some.injEq] at e; subst e; exact ⟨.nil _, rfl⟩
 | c :: cs, vs, ds, r, e => by
  cases r with
  | cons _ v _ vs' r1 r2 =>
   simp only [St.inDs] at e
   split at e
   ·rename_i d ds' h1 h2
    simp only [Option.some.injEq] at e; subst e
    obtain ⟨g1, g2⟩ := u4b s r2 h2
    exact ⟨.cons _ _ [] _ _ [] (z2s s r1 h1) g1, by simp [g2]⟩
   ·cases e
theorem inP_rel (s : SimW G X σ tm w O Im) {lend : Bool} {x : Ptr} {v : Value} {d : D} (r : RelP w.heap Im O x v) (e : σ.inP lend x = some d) : RelD w.heap (w0a σ O Im lend) d v [] := by
 unfold St.inP at e
 split at e
 ·rename_i id
  split at e
  ·rename_i cells hob
   split at e
   ·rename_i hl
    simp only [Option.map_eq_some_iff] at e
    obtain ⟨ds, e, rfl⟩ := e
    obtain ⟨l, h1, hr, hb⟩ := s.obj id _ hob
    cases r with
    | qd _ _ _ _ h2 => rw [h2] at h1; cases h1
    | q _ _ _ b cap sz h2 =>
     rw [h2] at h1; cases h1
     cases hr with
     | box _ _ c e' k1 k2 k3 =>
      obtain ⟨g1, g2⟩ := u4b s k2 e
      have := RelD.k (h := w.heap) (Im := w0a σ O Im lend) ds b c e' (0, 0) (.inr ⟨hl, id, _, _, hob, h2, .inl rfl⟩) k1 g1
      simpa using this
   ·cases e
  ·cases e
 ·cases e
theorem inE_rel (s : SimW G X σ tm w O Im) {lend : Bool} {c : SC} {v : Value} {d : D} (r : RelC w.heap Im O c v) (e : σ.inE lend c = some d) : RelD w.heap (w0a σ O Im lend) d v [] := by
 cases c with
 | p x => cases r with | p _ _ r => exact inP_rel s r e
 | _ => exact z2s s r e
theorem v3b (s : SimW G X σ tm w O Im) {lend : Bool} : ∀ {cs : List SC} {vs : List Value} {ds : List D}, RelCl w.heap Im O cs vs → σ.inEs lend cs = some ds → RelCs w.heap (w0a σ O Im lend) ds vs [] ∧ ds.length = cs.length
 | [], vs, ds, r, e => by simp only [St.inEs, Option.some.injEq] at e; subst e; exact ⟨.nil _, rfl⟩
 | c :: cs, vs, ds, r, e => by
  cases r with
  | cons _ v _ vs' r1 r2 =>
   simp only [St.inEs] at e
   split at e
   ·rename_i d ds' h1 h2
    simp only [Option.some.injEq] at e; subst e
    obtain ⟨g1, g2⟩ := v3b s r2 h2
    exact ⟨.cons _ _ [] _ _ [] (inE_rel s r1 h1) g1, by simp [g2]⟩
   ·cases e
theorem x5j (s : SimW G X σ tm w O Im) {lend : Bool} {x : Ptr} {v : Value} {d : D} (r : RelP w.heap Im O x v) (e : σ.inPP lend x = some d) : RelD w.heap (w0a σ O Im lend) d v [] := by
 unfold St.inPP at e
 split at e
 ·rename_i id
  split at e
  ·rename_i cells hob
   split at e
   ·rename_i hl
    simp only [Option.map_eq_some_iff] at e
    obtain ⟨ds, e, rfl⟩ := e
    obtain ⟨l, h1, hr, hb⟩ := s.obj id _ hob
    cases r with
    | qd _ _ _ _ h2 => rw [h2] at h1; cases h1
    | q _ _ _ b cap sz h2 =>
     rw [h2] at h1; cases h1
     cases hr with
     | box _ _ c e' k1 k2 k3 =>
      obtain ⟨g1, g2⟩ := v3b s k2 e
      have := RelD.k (h := w.heap) (Im := w0a σ O Im lend) ds b c e' (0, 0) (.inr ⟨hl, id, _, _, hob, h2, .inl rfl⟩) k1 g1
      simpa using this
   ·cases e
  ·cases e
 ·cases e
theorem v4b (s : SimW G X σ tm w O Im) {lend : Bool} : ∀ {xs : List Ptr} {vs : List Value} {ds : List D}, vs.length = xs.length → (∀ (j : Nat) (x : Ptr), xs[j]? = some x → ∃ v, vs[j]? = some v ∧ RelP w.heap Im O x v) → σ.inPs lend xs = some ds → RelCs w.heap (w0a σ O Im lend) ds vs [] ∧ ds.length = xs.length
 | [], vs, ds, _, _, e => by simp only [St.inPs, Option.some.injEq] at e; subst e; exact ⟨.nil _, rfl⟩
 | x :: xs, [], ds, hl, _, e => by simp at hl
 | x :: xs, v :: vs, ds, hl, hh, e => by
  simp only [St.inPs] at e
  split at e
  ·rename_i d ds' h1 h2
   simp only [Option.some.injEq] at e; subst e
   obtain ⟨v', hv, hr⟩ := hh 0 x (by simp)
   simp at hv; subst hv
   obtain ⟨g1, g2⟩ := v4b s (by simpa using hl) (fun j x hx => by simpa using hh (j + 1) x (by simpa using hx)) h2
   exact ⟨.cons _ _ [] _ _ [] (x5j s hr h1) g1, by simp [g2]⟩
  ·cases e
theorem wv (lend : Bool) : ∀ (caps : List D), σ.inVs lend (caps.map fun d => .one (.d d)) = some (caps.map fun d => .one (.d d))
 | [] => rfl
 | c :: cs => by simp only [List.map_cons, St.inVs, St.inV, St.inC, St.inD, wv lend cs, Option.map_some]
theorem w4o (s : SimW G X σ tm w O Im) {lend : Bool} {c c' : SC} {v : Value} (r : RelC w.heap Im O c v) (e : σ.inC lend c = some c') : RelC w.heap (w0a σ O Im lend) (fun _ => .free) c' v := by
 cases c with
 | p x =>
  simp only [St.inC] at e
  unfold St.inPC at e
  split at e
  ·rename_i id
   split at e
   ·rename_i cells hob
    split at e
    ·rename_i hl
     simp only [Option.map_eq_some_iff] at e
     obtain ⟨ds, e, rfl⟩ := e
     obtain ⟨l, h1, hr, hb⟩ := s.obj id _ hob
     cases r with
     | p _ _ r =>
      cases r with
      | qd _ _ _ _ h2 => rw [h2] at h1; cases h1
      | q _ _ _ b cap sz h2 =>
       rw [h2] at h1; cases h1
       cases hr with
       | box _ _ c e' k1 k2 k3 =>
        obtain ⟨g1, g2⟩ := v3b s k2 e
        have := RelD.k (h := w.heap) (Im := w0a σ O Im lend) ds b c e' (0, 0) (.inr ⟨hl, id, _, _, hob, h2, .inl rfl⟩) k1 g1
        exact .d _ _ (by simpa using this)
    ·cases e
   ·cases e
  ·simp only [Option.some.injEq] at e; subst e
   cases r with
   | p _ _ r =>
    cases r with
    | l _ _ _ _ b off c e fr h1 h2 h3 h4 => exact .p _ _ (.l _ _ _ _ b off c e fr (.inl h1) h2 h3 (h4.keep (fun b h => .inl h) fun _ _ => rfl))
  ·cases e
 | dead =>
  simp only [St.inC, Option.some.injEq] at e; subst e
  exact .dead _ r.one
 | nl sz =>
  simp only [St.inC, Option.some.injEq] at e; subst e
  cases r; exact .d _ _ (.l0 _ _ _)
 | c fn caps =>
  simp only [St.inC, Option.map_eq_some_iff] at e
  obtain ⟨ds, e, rfl⟩ := e
  cases r with
  | c _ _ cv h1 h2 =>
   obtain ⟨g1, g2⟩ := v4b s (vs := cv.toList) (by rw [Array.length_toList]; exact h1) (by simpa using h2) e
   exact .d _ _ (.f _ _ cv (by rw [h1, g2]) g1)
 | d d =>
  simp only [St.inC, Option.some.injEq] at e; subst e
  exact .d _ _ (z2s s (d := d) (lend := lend) r rfl)
 | r id off len =>
  simp only [St.inC, Option.map_eq_some_iff] at e
  obtain ⟨d, e, rfl⟩ := e
  exact .d _ _ (z2s s r e)
 | rc => cases e
theorem z4c (s : SimW G X σ tm w O Im) {lend : Bool} : ∀ {cs : List SC} {vs : List Value} {ds : List SC}, RelCl w.heap Im O cs vs → σ.inCs lend cs = some ds → RelCl w.heap (w0a σ O Im lend) (fun _ => .free) ds vs
 | [], vs, ds, r, e => by simp only [St.inCs, Option.some.injEq] at e; subst e; cases r; exact .nil
 | c :: cs, vs, ds, r, e => by
  cases r with
  | cons _ v _ vs' r1 r2 =>
   simp only [St.inCs] at e
   split at e
   ·rename_i d ds' h1 h2
    simp only [Option.some.injEq] at e; subst e
    exact .cons _ _ _ _ (w4o s r1 h1) (z4c s r2 h2)
   ·cases e
theorem u4n (s : SimW G X σ tm w O Im) {lend : Bool} {sv sv' : SV} {v : Value} (r : RelV w.heap Im O sv v) (e : σ.inV lend sv = some sv') : RelV w.heap (w0a σ O Im lend) (fun _ => .free) sv' v := by
 unfold St.inV at e
 split at e
 ·simp only [Option.map_eq_some_iff] at e
  obtain ⟨c, e, rfl⟩ := e
  exact .one _ _ (w4o s r.one_inv e)
 ·simp only [Option.map_eq_some_iff] at e
  obtain ⟨cs, e, rfl⟩ := e
  obtain ⟨cv, rfl, rr⟩ := r.agg_inv
  exact .agg _ _ (z4c s rr e)
 ·simp only [Option.some.injEq] at e; subst e; exact .dead _
 ·cases e
theorem y2c (s : SimW G X σ tm w O Im) {lend : Bool} : ∀ {cs : List SV} {vs : List Value} {ds : List SV}, RelVs w.heap Im O cs vs → σ.inVs lend cs = some ds → RelVs w.heap (w0a σ O Im lend) (fun _ => .free) ds vs
 | [], vs, ds, r, e => by simp only [St.inVs, Option.some.injEq] at e; subst e; cases r; exact .nil
 | c :: cs, vs, ds, r, e => by
  cases r with
  | cons _ v _ vs' r1 r2 =>
   simp only [St.inVs] at e
   split at e
   ·rename_i d ds' h1 h2
    simp only [Option.some.injEq] at e; subst e
    exact .cons _ _ _ _ (u4n s r1 h1) (y2c s r2 h2)
   ·cases e

theorem CallV.ro {f : Nat} {svs as : List SV} {R : List RV → Prop} {K : St → SV → Prop} (lend : Bool) (h : FnRO P G f as R) (ha : σ.inVs lend svs = some as)
 (hp : ∀ rs, R rs → (lend = false ∨ rs.all RV.plain = true) ∧ K (σ.addRs rs).1 (packS (σ.addRs rs).2)) : CallV P G f svs σ K := by
 refine .inl ⟨h.1, fun X tm w O Im vals s hf hr => ?_⟩
 have hL : ∀ b, w0a σ O Im lend b → b < w.heap.size := by
  rintro b (hb | ⟨_, u, o, l, h1, h2, h3⟩)
  ·exact s.imlt b hb
  ·exact (s.ownblk h1 h2 h3).2.1
 refine (h.2 w (w0a σ O Im lend) vals (fun g c hg => (s.glob g c hg).keep (fun b h => .inl h) fun _ _ => rfl) hL (y2c s hr ha)).mono ?_
 rintro e w' ⟨vs, rs, Im', fp, rfl, hR, hext, i1, i2, i3, hrel, hn, hfp⟩
 obtain ⟨hq, hk⟩ := hp rs hR
 let Im'' : Nat → Prop := fun b => Im b ∨ (Im' b ∧ w.heap.size ≤ b)
 have s1 : SimW G X σ tm w' O Im'' := s.called hext (fun b h => .inl h) (fun b h => h.imp id fun h => ⟨h.2, i3 b h.1⟩)
 have hrel' : RelRs w'.heap Im'' rs vs fp := by
  rcases hq with rfl | hpl
  ·refine hrel.up fun b hb => ?_
   rcases i2 b hb with (h | ⟨h, _⟩) | h
   ·exact .inl h
   ·cases h
   ·exact .inr ⟨hb, h⟩
  ·exact x0w hrel (by simpa using hpl) _
 obtain ⟨O', s2, a2, q2⟩ := w2j s1 hf hrel' hn (fun b hb => by
  obtain ⟨g1, g2, g3⟩ := hfp b hb
  refine ⟨?_, g3, .inr (Nat.le_trans s.ext.size g2), ?_⟩
  ·rintro (h | h)
   ·have := s.imlt b h; omega
   ·exact g1 h.1
  ·intro u o l' h1 h2 h3
   have := (s.ownblk h1 h2 h3).2.1
   omega)
 exact ⟨_, _, _, O', Im'', rfl, hk, s2, a2.free, v0y q2⟩
end
def RV.flatB : RV → Bool
 | .one d => d.flat
 | .agg ds => ds.all D.flat
def RV.sv : RV → SV
 | .one d => .one (.d d)
 | .agg ds => .agg (ds.map .d)
def y0k (next : Nat) : List D → Option VO → Option (Option VO × List SC)
 | [], o => some (o, [])
 | .o sz rows :: ds, none => (y0k next ds (some (.arr sz rows false))).map fun r => (r.1, .r next 0 rows.length :: r.2)
 | .t sz rows :: ds, none => (y0k next ds (some (.tre sz rows none))).map fun r => (r.1, .r next 0 rows.length :: r.2)
 | d :: ds, o => if d.flat = true then (y0k next ds o).map fun r => (r.1, .d d :: r.2) else none
def dres (next : Nat) : List RV → Option (Option VO × SV)
 | [.one (.o sz rows)] => some (some (.arr sz rows false), .one (.r next 0 rows.length))
 | [.one (.t sz rows)] => some (some (.tre sz rows none), .one (.r next 0 rows.length))
 | [.agg ds] => (y0k next ds none).map fun r => (r.1, .agg r.2)
 | rs => if rs.all RV.flatB = true then some (none, packS (rs.map RV.sv)) else none
section
variable {P : Program} {G : Nat → Option (List D)} {X : Ctx} {σ τ : St} {tm : Array Value} {w w' : World} {O : Nat → LS} {Im Im' : Nat → Prop}
theorem z4j (h : ObjLe σ τ) {lend : Bool} {c : SC} {d : D} (e : σ.inD lend c = some d) : τ.inD lend c = some d := by
 cases c with
 | r id off len =>
  simp only [St.inD] at e ⊢
  split at e
  ·rename_i ho; rw [h.obj ho]; exact e
  ·rename_i ho; rw [h.obj ho]; exact e
  ·cases e
 | _ => exact e
theorem y4o (h : ObjLe σ τ) {lend : Bool} : ∀ {cs : List SC} {ds : List D}, σ.inDs lend cs = some ds → τ.inDs lend cs = some ds
 | [], ds, e => e
 | c :: cs, ds, e => by
  simp only [St.inDs] at e ⊢
  split at e
  ·rename_i d ds' h1 h2; rw [z4j h h1, y4o h h2]; exact e
  ·cases e
theorem inP_le (h : ObjLe σ τ) {lend : Bool} {x : Ptr} {d : D} (e : σ.inP lend x = some d) : τ.inP lend x = some d := by
 unfold St.inP at e ⊢
 split at e
 ·split at e
  ·rename_i ho
   rw [h.obj ho]
   simp only
   split at e
   ·rename_i hl
    rw [if_pos hl]
    simp only [Option.map_eq_some_iff] at e ⊢
    obtain ⟨ds, e, rfl⟩ := e
    exact ⟨ds, y4o h e, rfl⟩
   ·cases e
  ·cases e
 ·cases e
theorem inE_le (h : ObjLe σ τ) {lend : Bool} {c : SC} {d : D} (e : σ.inE lend c = some d) : τ.inE lend c = some d := by
 cases c with
 | p x => exact inP_le h e
 | r id off len => exact z4j (c := .r id off len) h e
 | _ => exact e
theorem x3q (h : ObjLe σ τ) {lend : Bool} : ∀ {cs : List SC} {ds : List D}, σ.inEs lend cs = some ds → τ.inEs lend cs = some ds
 | [], ds, e => e
 | c :: cs, ds, e => by
  simp only [St.inEs] at e ⊢
  split at e
  ·rename_i d ds' h1 h2; rw [inE_le h h1, x3q h h2]; exact e
  ·cases e
theorem inPP_le (h : ObjLe σ τ) {lend : Bool} {x : Ptr} {d : D} (e : σ.inPP lend x = some d) : τ.inPP lend x = some d := by
 unfold St.inPP at e ⊢
 split at e
 ·split at e
  ·rename_i ho
   rw [h.obj ho]
   simp only
   split at e
   ·rename_i hl
    rw [if_pos hl]
    simp only [Option.map_eq_some_iff] at e ⊢
    obtain ⟨ds, e, rfl⟩ := e
    exact ⟨ds, x3q h e, rfl⟩
   ·cases e
  ·cases e
 ·cases e
theorem z4o (h : ObjLe σ τ) {lend : Bool} : ∀ {cs : List Ptr} {ds : List D}, σ.inPs lend cs = some ds → τ.inPs lend cs = some ds
 | [], ds, e => e
 | c :: cs, ds, e => by
  simp only [St.inPs] at e ⊢
  split at e
  ·rename_i d ds' h1 h2; rw [inPP_le h h1, z4o h h2]; exact e
  ·cases e
theorem w5j (h : ObjLe σ τ) {lend : Bool} {c c' : SC} (e : σ.inC lend c = some c') : τ.inC lend c = some c' := by
 cases c with
 | p x =>
  simp only [St.inC] at e ⊢
  unfold St.inPC at e ⊢
  split at e
  ·split at e
   ·rename_i ho
    rw [h.obj ho]
    simp only
    split at e
    ·rename_i hl
     rw [if_pos hl]
     simp only [Option.map_eq_some_iff] at e ⊢
     obtain ⟨ds, e, rfl⟩ := e
     exact ⟨ds, x3q h e, rfl⟩
    ·cases e
   ·cases e
  ·exact e
  ·cases e
 | c fn caps =>
  simp only [St.inC, Option.map_eq_some_iff] at e ⊢
  obtain ⟨d, e, rfl⟩ := e
  exact ⟨d, z4o h e, rfl⟩
 | r id off len =>
  simp only [St.inC, Option.map_eq_some_iff] at e ⊢
  obtain ⟨d, e, rfl⟩ := e
  exact ⟨d, z4j h e, rfl⟩
 | _ => exact e
theorem x4o (h : ObjLe σ τ) {lend : Bool} : ∀ {cs : List SC} {ds : List SC}, σ.inCs lend cs = some ds → τ.inCs lend cs = some ds
 | [], ds, e => e
 | c :: cs, ds, e => by
  simp only [St.inCs] at e ⊢
  split at e
  ·rename_i d ds' h1 h2; rw [w5j h h1, x4o h h2]; exact e
  ·cases e
theorem inV_le (h : ObjLe σ τ) {lend : Bool} {c c' : SV} (e : σ.inV lend c = some c') : τ.inV lend c = some c' := by
 unfold St.inV at e ⊢
 split at e
 ·simp only [Option.map_eq_some_iff] at e ⊢
  obtain ⟨d, e, rfl⟩ := e
  exact ⟨d, w5j h e, rfl⟩
 ·simp only [Option.map_eq_some_iff] at e ⊢
  obtain ⟨d, e, rfl⟩ := e
  exact ⟨d, x4o h e, rfl⟩
 ·exact e
 ·cases e
theorem y3q (h : ObjLe σ τ) {lend : Bool} : ∀ {cs : List SV} {ds : List SV}, σ.inVs lend cs = some ds → τ.inVs lend cs = some ds
 | [], ds, e => e
 | c :: cs, ds, e => by
  simp only [St.inVs] at e ⊢
  split at e
  ·rename_i d ds' h1 h2; rw [inV_le h h1, y3q h h2]; exact e
  ·cases e

theorem RelD.flat_fp {h : Array Obj} {d : D} {v : Value} {fp : List Nat} (r : RelD h Im d v fp) (hf : d.flat = true) : RelD h Im d v [] := by
 have := r.flat hf; subst this; exact r
theorem z3r {h : Array Obj} : ∀ {ds : List D} {vs : List Value} {fp : List Nat}, RelCs h Im ds vs fp → (∀ d ∈ ds, d.flat = true) → RelCl h Im O (ds.map .d) (vs.take ds.length)
 | _, _, _, .nil _, _ => by simpa using RelCl.nil
 | _, _, _, .cons d v f ds vs fs r rs, hf => .cons _ _ _ _ (.d _ _ (r.flat_fp (hf d (by simp)))) (z3r rs fun d hd => hf d (by simp [hd]))
theorem z3c {h : Array Obj} : ∀ {rs : List RV} {vs : List Value} {fp : List Nat}, RelRs h Im rs vs fp → (∀ r ∈ rs, r.flatB = true) → RelVs h Im O (rs.map RV.sv) vs
 | _, _, _, .nil, _ => .nil
 | _, _, _, .cons r v f rs vs fs q qs, hf => by
  refine .cons _ _ _ _ ?_ (z3c qs fun d hd => hf d (by simp [hd]))
  have h0 := hf r (by simp)
  cases q with
  | one d v f q => exact .one _ _ (.d _ _ (q.flat_fp h0))
  | agg ds cv f q hl =>
   have := z3r (O := O) q (by simpa [RV.flatB] using h0)
   rw [← hl, ← Array.length_toList, List.take_length] at this
   exact .agg _ _ this
theorem w2m {n : Nat} : ∀ {ds : List D} {o0 : VO} {o : Option VO} {cs : List SC}, y0k n ds (some o0) = some (o, cs) → o = some o0 ∧ cs = ds.map .d ∧ ∀ d ∈ ds, d.flat = true
 | [], o0, o, cs, e => by simp only [y0k, Option.some.injEq, Prod.mk.injEq] at e; exact ⟨e.1.symm, by simpa using e.2.symm, fun d h => by cases h⟩
 | d :: ds, o0, o, cs, e => by
  have e2 : (if d.flat = true then (y0k n ds (some o0)).map fun r => (r.1, SC.d d :: r.2) else none) = some (o, cs) := by
   cases d <;> exact e
  split at e2
  ·rename_i hf
   simp only [Option.map_eq_some_iff, Prod.mk.injEq] at e2
   obtain ⟨⟨o1, c1⟩, e3, rfl, rfl⟩ := e2
   obtain ⟨g1, g2, g3⟩ := w2m e3
   exact ⟨g1, by simp [g2], fun d' h => by
    rcases List.mem_cons.1 h with rfl | h
    ·exact hf
    ·exact g3 d' h⟩
  ·cases e2
theorem x3k {τ : St} (s1 : SimW G X τ tm w O Im) (hfree : O τ.next = .free) {d : D} {v : Value} {fp : List Nat} (r1 : RelD w.heap Im d v fp) (hnd : fp.Nodup) (hfb : ∀ b ∈ fp, x0h X τ w O Im b) {vo : VO} {n : Nat}
 (hd : (∃ sz rows, d = .o sz rows ∧ vo = .arr sz rows false ∧ n = rows.length) ∨ (∃ sz rows, d = .t sz rows ∧ vo = .tre sz rows none ∧ n = rows.length)) :
 ∃ O', SimW G X (τ.new vo) tm w O' Im ∧ RelC w.heap Im O' (.r τ.next 0 n) v ∧ ∀ k, k ≠ τ.next → O' k = O k := by
 rcases hd with ⟨sz, rows, rfl, rfl, rfl⟩ | ⟨sz, rows, rfl, rfl, rfl⟩
 ·cases r1 with
  | o0 =>
   exact ⟨upd O τ.next (.live ⟨none, 0, sz, []⟩), s1.adopt (l := ⟨none, 0, sz, []⟩) hfree (vo := .arr sz [] false) (.an _ _ _) (fun b h => by simp [Own] at h) rfl (by funext u; simp [St.new, upd]), .rn _ 0 sz _ (xf _ _ _), fun k hk => yf _ _ _ _ hk⟩
  | o _ _ b cap ad sc c e h1 h2 h3 h4 h5 h6 h7 h8 =>
   obtain ⟨q1, q2, q3, q4⟩ := hfb b (by simp)
   refine ⟨upd O τ.next (.live ⟨some b, cap, sz, []⟩), s1.adopt (l := ⟨some b, cap, sz, []⟩) hfree (vo := .arr sz rows false) ?_ ?_ rfl (by funext u; simp [St.new, upd]), ?_, fun k hk => yf _ _ _ _ hk⟩
   ·exact .arr sz rows false b cap c e (0, 0) h1 (fun _ => rfl) h2 (by omega) h5 h6 h8 ⟨fun h => (by cases h), fun h => absurd h q1⟩
   ·intro b' hb'; simp only [Own, Option.some.injEq, List.not_mem_nil, or_false] at hb'; subst hb'; exact ⟨q1, q2, q3, q4⟩
   ·exact .r _ _ _ b cap sz ad sc (xf _ _ _) h3 (by omega) (by simpa using h7)
 ·cases r1 with
  | t0 =>
   exact ⟨upd O τ.next (.live ⟨none, 0, sz, []⟩), s1.adopt (l := ⟨none, 0, sz, []⟩) hfree (vo := .tre sz [] none) (.tn _ _) (fun b h => by simp [Own] at h) rfl (by funext u; simp [St.new, upd]), .rn _ 0 sz _ (xf _ _ _), fun k hk => yf _ _ _ _ hk⟩
  | t _ _ b cap ad sc c e fp h1 h2 h3 h4 h5 h6 h7 h8 =>
   obtain ⟨q1, q2, q3, q4⟩ := hfb b (by simp)
   refine ⟨upd O τ.next (.live ⟨some b, cap, sz, fp⟩), s1.adopt (l := ⟨some b, cap, sz, fp⟩) hfree (vo := .tre sz rows none) ?_ ?_ rfl (by funext u; simp [St.new, upd]), ?_, fun k hk => yf _ _ _ _ hk⟩
   ·exact .tre sz rows none b cap c e fp h1 h2 (by omega) h5 h6 q1 hnd h8 trivial
   ·intro b' hb'
    refine hfb b' ?_
    rcases hb' with hb' | hb'
    ·simp only [Option.some.injEq] at hb'; simp [hb']
    ·exact List.mem_cons_of_mem _ hb'
   ·exact .r _ _ _ b cap sz ad sc (xf _ _ _) h3 (by omega) (by simpa using h7)
theorem z3d {τ : St} (s1 : SimW G X τ tm w O Im) (hfree : O τ.next = .free) : ∀ {ds : List D} {vs : List Value} {fp : List Nat} {o : Option VO} {cs : List SC}, RelCs w.heap Im ds vs fp → fp.Nodup → (∀ b ∈ fp, x0h X τ w O Im b) → y0k τ.next ds none = some (o, cs) →
 ∃ O', SimW G X (addO τ o) tm w O' Im ∧ RelCl w.heap Im O' cs (vs.take ds.length) ∧ ∀ k, k ≠ τ.next → O' k = O k
 | [], vs, fp, o, cs, r, hnd, hfb, e => by
  simp only [y0k, Option.some.injEq, Prod.mk.injEq] at e
  obtain ⟨rfl, rfl⟩ := e
  exact ⟨O, s1, .nil, fun _ _ => rfl⟩
 | d :: ds, _, _, o, cs, .cons _ v f _ vs fs r1 r2, hnd, hfb, e => by
  obtain ⟨n1, n2, n3⟩ := List.nodup_append.1 hnd
  have own : ∀ vo n, ((∃ sz rows, d = .o sz rows ∧ vo = .arr sz rows false ∧ n = rows.length) ∨ (∃ sz rows, d = .t sz rows ∧ vo = .tre sz rows none ∧ n = rows.length)) → (y0k τ.next ds (some vo)).map (fun r => (r.1, SC.r τ.next 0 n :: r.2)) = some (o, cs) →
   ∃ O', SimW G X (addO τ o) tm w O' Im ∧ RelCl w.heap Im O' cs ((v :: vs).take (d :: ds).length) ∧ ∀ k, k ≠ τ.next → O' k = O k := by
   intro vo n hd e2
   simp only [Option.map_eq_some_iff, Prod.mk.injEq] at e2
   obtain ⟨⟨o1, c1⟩, e3, rfl, rfl⟩ := e2
   obtain ⟨rfl, rfl, g3⟩ := w2m e3
   obtain ⟨O', s', q, hk⟩ := x3k s1 hfree r1 n1 (fun b hb => hfb b (by simp [hb])) hd
   exact ⟨O', s', .cons _ _ _ _ q (z3r r2 g3), hk⟩
  have flt : d.flat = true → (y0k τ.next ds none).map (fun r => (r.1, SC.d d :: r.2)) = some (o, cs) → ∃ O', SimW G X (addO τ o) tm w O' Im ∧ RelCl w.heap Im O' cs ((v :: vs).take (d :: ds).length) ∧ ∀ k, k ≠ τ.next → O' k = O k := by
   intro hf e2
   simp only [Option.map_eq_some_iff, Prod.mk.injEq] at e2
   obtain ⟨⟨o1, c1⟩, e3, rfl, rfl⟩ := e2
   obtain ⟨O', s', q, hk⟩ := z3d s1 hfree r2 n2 (fun b hb => hfb b (by simp [hb])) e3
   exact ⟨O', s', .cons _ _ _ _ (.d _ _ (r1.flat_fp hf)) q, hk⟩
  cases d with
  | o sz rows => exact own _ _ (.inl ⟨sz, rows, rfl, rfl, rfl⟩) e
  | t sz rows => exact own _ _ (.inr ⟨sz, rows, rfl, rfl, rfl⟩) e
  | x cells => simp [y0k, D.flat] at e
  | _ => exact flt rfl (by simpa only [y0k, D.flat, if_true] using e)
theorem CallD.ro {f : Nat} {svs as : List SV} {rs0 : List RV} {res : Option VO} {v : SV} (lend : Bool) (h : FnRO P G f as (fun rs => rs = rs0)) (ha : σ.inVs lend svs = some as) (hq : lend = false ∨ rs0.all RV.plain = true) (hr : dres σ.next rs0 = some (res, v)) :
 CallD P G f svs σ res v := by
 refine ⟨h.1, fun τ hle hn X tm w O Im vals s hfree hrel0 => ?_⟩
 have hL : ∀ b, w0a τ O Im lend b → b < w.heap.size := by
  rintro b (hb | ⟨_, u, o, l, h1, h2, h3⟩)
  ·exact s.imlt b hb
  ·exact (s.ownblk h1 h2 h3).2.1
 refine (h.2 w (w0a τ O Im lend) vals (fun g c hg => (s.glob g c hg).keep (fun b h => .inl h) fun _ _ => rfl) hL (y2c s hrel0 (y3q (σ := σ) hle ha))).mono ?_
 rintro e w' ⟨vs, rs, Im', fp, rfl, rfl, hext, i1, i2, i3, hrel, hnd, hfp⟩
 let Im'' : Nat → Prop := fun b => Im b ∨ (Im' b ∧ w.heap.size ≤ b)
 have s1 : SimW G X τ tm w' O Im'' := s.called hext (fun b h => .inl h) (fun b h => h.imp (fun h => h) fun h => ⟨h.2, i3 b h.1⟩)
 have hrel' : RelRs w'.heap Im'' rs vs fp := by
  rcases hq with rfl | hpl
  ·refine hrel.up fun b hb => ?_
   rcases i2 b hb with (h | ⟨h, _⟩) | h
   ·exact .inl h
   ·cases h
   ·exact .inr ⟨hb, h⟩
  ·exact x0w hrel (by simpa using hpl) _
 have hfb : ∀ b ∈ fp, x0h X τ w' O Im'' b := fun b hb => by
  obtain ⟨g1, g2, g3⟩ := hfp b hb
  refine ⟨?_, g3, .inr (Nat.le_trans s.ext.size g2), ?_⟩
  ·rintro (h | h)
   ·have := s.imlt b h; omega
   ·exact g1 h.1
  ·intro u o l' h1 h2 h3
   have := (s.ownblk h1 h2 h3).2.1
   omega
 have hone : ∀ {d : D} {vo : VO} {n : Nat}, ((∃ sz rows, d = .o sz rows ∧ vo = .arr sz rows false ∧ n = rows.length) ∨ (∃ sz rows, d = .t sz rows ∧ vo = .tre sz rows none ∧ n = rows.length)) → RelRs w'.heap Im'' [.one d] vs fp →
  ∃ u O' Im', Ending.returned (packV vs) = Ending.returned u ∧ SimW G X (addO τ (some vo)) tm w' O' Im' ∧ RelV w'.heap Im' O' (.one (.r σ.next 0 n)) u ∧ ∀ k, k ≠ τ.next → O k = .free → O' k = .free := by
  intro d vo n hd hrel'
  cases hrel' with
  | cons _ u f1 _ vs' f2 r1 r2 =>
   cases r2
   cases r1 with
   | one _ _ _ r1 =>
    simp only [List.append_nil] at hnd hfb
    obtain ⟨O', s', q, hk⟩ := x3k s1 hfree r1 hnd hfb hd
    exact ⟨_, O', Im'', rfl, s', by rw [← hn]; exact .one _ _ q, fun k h1 h2 => by rw [hk k h1, h2]⟩
 unfold dres at hr
 split at hr
 ·simp only [Option.some.injEq, Prod.mk.injEq] at hr
  obtain ⟨rfl, rfl⟩ := hr
  exact hone (.inl ⟨_, _, rfl, rfl, rfl⟩) hrel'
 ·simp only [Option.some.injEq, Prod.mk.injEq] at hr
  obtain ⟨rfl, rfl⟩ := hr
  exact hone (.inr ⟨_, _, rfl, rfl, rfl⟩) hrel'
 ·rename_i ds
  simp only [Option.map_eq_some_iff, Prod.mk.injEq] at hr
  obtain ⟨⟨o1, c1⟩, e3, rfl, rfl⟩ := hr
  cases hrel' with
  | cons _ u f1 _ vs' f2 r1 r2 =>
   cases r2
   cases r1 with
   | agg _ cv _ r1 hl =>
    simp only [List.append_nil] at hnd hfb
    obtain ⟨O', s', q, hk⟩ := z3d s1 hfree r1 hnd hfb (by rw [hn]; exact e3)
    rw [← hl, ← Array.length_toList, List.take_length] at q
    exact ⟨_, O', Im'', rfl, s', .agg _ _ q, fun k h1 h2 => by rw [hk k h1, h2]⟩
 ·split at hr
  ·rename_i hfl
   simp only [Option.some.injEq, Prod.mk.injEq] at hr
   obtain ⟨rfl, rfl⟩ := hr
   exact ⟨_, O, Im'', rfl, s1, v0y (z3c hrel' (by simpa using hfl)), fun _ _ h => h⟩
  ·cases hr
end
def St.enter (σ : St) (svs : List SV) : St := ⟨fun t => if t < 1000000 then svs.getD t .dead else σ.slots (t - 1000000), σ.objs, σ.next⟩
def St.lift (σ : St) : St := ⟨fun t => σ.slots (t + 1000000), σ.objs, σ.next⟩
def endX (res : List RVar) (K : St → SV → Prop) : Ex → St → Prop
 | .exit _, _ => False
 | _, σ => ∃ vs, resVs σ res = some vs ∧ K σ.lift (packS vs)
section
variable {P : Program} {G : Nat → Option (List D)}
theorem z1z (gh : Nat → Value) (tm : Array Value) {t : Nat} (h : tm.size ≤ 1000000) : tmAt gh tm (t + 1000000) = gh t := by
 have h1 : ¬ t + 1000000 < 1000000 := by omega
 have h2 : ¬ t + 1000000 < tm.size := by omega
 simp only [tmAt, Array.getD, h2, h1, dite_false, if_false, Nat.add_sub_cancel]
def CallL (P : Program) (G : Nat → Option (List D)) (f : Nat) (svs : List SV) (σ : St) (K : St → SV → Prop) : Prop :=
 ∀ X tm w O Im vals, SimW G X σ tm w O Im → (∀ u, σ.next ≤ u → O u = .free) → RelVs w.heap Im O svs vals →
  Calls P f vals.toArray w fun e w' => ∃ v σ' sv O' Im', e = .returned v ∧ K σ' sv ∧ SimW G X σ' tm w' O' Im' ∧ (∀ u, σ'.next ≤ u → O' u = .free) ∧ RelV w'.heap Im' O' sv v
theorem CallL.x {f : Nat} {F : VFn} {svs : List SV} {σ : St} {K : St → SV → Prop} (hf : lowF P f = some F.strip) (hn : svs.length ≤ F.ntmps) (hm : F.ntmps ≤ 1000000)
 (h : wpv P G F.body (endX F.results K) (σ.enter svs)) : CallL P G f svs σ K := by
 intro X tm w O Im vals s hfr hr
 unfold lowF at hf
 simp only [Option.bind_eq_some_iff, Option.map_eq_some_iff] at hf
 obtain ⟨fn, h1, c, h2, vc, h3, res, h4, hf⟩ := hf
 obtain ⟨nt, vb, res'⟩ := F
 simp only [VFn.strip, VFn.mk.injEq] at hf
 obtain ⟨rfl, rfl, rfl⟩ := hf
 have hlen : vals.length = svs.length := by
  have : ∀ {xs : List SV} {ys : List Value}, RelVs w.heap Im O xs ys → ys.length = xs.length := by
   intro xs
   induction xs with
   | nil => intro ys r; cases r; rfl
   | cons x xs ih => intro ys r; cases r with | cons _ _ _ _ _ r => simp [ih r]
  exact this hr
 have hat : ∀ {xs : List SV} {ys : List Value}, RelVs w.heap Im O xs ys → ∀ t, RelV w.heap Im O (xs.getD t .dead) (ys.getD t undef) := by
  intro xs
  induction xs with
  | nil => intro ys r t; exact .dead _
  | cons x xs ih => intro ys r t; cases r with
   | cons _ v _ vs r1 r2 => cases t with
    | zero => simpa using r1
    | succ t => simpa using ih r2 t
 let X' : Ctx := ⟨w, fun b => ∃ u o l, σ.objs u = some o ∧ O u = .live l ∧ Own o l b, Im, fun t => tmAt X.gh tm t⟩
 have hown : ∀ b, X'.own b → ¬ Im b ∧ b < w.heap.size ∧ (X.own b ∨ X.w0.heap.size ≤ b) := by
  rintro b ⟨u, o, l, g1, g2, g3⟩
  exact s.ownblk g1 g2 g3
 have hsz : (vals.toArray ++ Array.replicate (fn.ntmps - vals.toArray.size) undef).size = fn.ntmps := by
  have hn' : svs.length ≤ fn.ntmps := hn
  simp [hlen]; omega
 refine (calls_of_wp h1 h2 (wp_mono (w2f (X := X') c vb h3 _ _ _ _ h ⟨O, Im, ?_, hfr, rfl, hsz⟩) ?_)).mono (fun e w' h => h)
 ·refine ⟨.refl _ _, fun b hb => (hown b hb).2.1, s.imlt, fun _ h => h, fun b h => .inl h, s.dead, ?_, s.disj, ?_, s.glob⟩
  ·intro u o ho
   obtain ⟨l, hl, hro, hb⟩ := s.obj u o ho
   exact ⟨l, hl, hro, fun b e => ⟨(hb b e).1, (hb b e).2.1, .inl ⟨u, o, l, ho, hl, e⟩⟩⟩
  ·intro t
   show RelV _ _ _ (if t < 1000000 then svs.getD t .dead else σ.slots (t - 1000000)) _
   by_cases ht : t < 1000000
   ·rw [if_pos ht, y1z _ _ ht]
    have := hat hr t
    have e : (vals.toArray ++ Array.replicate (fn.ntmps - vals.toArray.size) undef).getD t undef = vals.getD t undef := by
     simp only [Array.getD_eq_getD_getElem?, List.getD_eq_getElem?_getD, Array.getElem?_append, Array.getElem?_replicate, List.getElem?_toArray, List.size_toArray]
     split
     ·rfl
     ·rename_i hlt
      rw [List.getElem?_eq_none (by omega)]
      split <;> rfl
    show RelV _ _ _ _ ((vals.toArray ++ Array.replicate (fn.ntmps - vals.toArray.size) undef).getD t undef)
    rw [e]
    exact this
   ·rw [if_neg ht]
    obtain ⟨k, rfl⟩ : ∃ k, t = k + 1000000 := ⟨t - 1000000, by omega⟩
    have e : tmAt X'.gh (vals.toArray ++ Array.replicate (fn.ntmps - vals.toArray.size) undef) (k + 1000000) = tmAt X.gh tm k := z1z _ _ (by rw [hsz]; exact hm)
    show RelV _ _ _ _ (tmAt X'.gh (vals.toArray ++ Array.replicate (fn.ntmps - vals.toArray.size) undef) (k + 1000000))
    rw [e, Nat.add_sub_cancel]
    exact s.slot k
 ·rintro e a w' ⟨x, σ', hx, hq, O', Im', s', hfree, hd, hs⟩
  have s2 : SimW G X σ'.lift tm w' O' Im' := by
   refine ⟨s.ext.trans' s'.ext.os s'.ext.tape s'.ext.output s'.ext.size (fun b hb hnb => s'.ext.block b (Nat.lt_of_lt_of_le hb s.ext.size) (fun ho => ?_)), s.ownlt, s'.imlt, fun b h => s'.im0 b (s.im0 b h), ?_, s'.dead, ?_, s'.disj, ?_, s'.glob⟩
   ·rcases (hown b ho).2.2 with h | h
    ·exact hnb h
    ·omega
   ·intro b hb
    rcases s'.im1 b hb with h | h | h
    ·exact s.im1 b h
    ·exact .inr (hown b h).2.2
    ·exact .inr (.inr (Nat.le_trans s.ext.size h))
   ·intro u o ho
    obtain ⟨l, hl, hro, hb⟩ := s'.obj u o ho
    refine ⟨l, hl, hro, fun b e => ⟨(hb b e).1, (hb b e).2.1, ?_⟩⟩
    rcases (hb b e).2.2 with h | h
    ·exact (hown b h).2.2
    ·exact .inr (Nat.le_trans s.ext.size h)
   ·intro t
    have := s'.slot (t + 1000000)
    rw [z1z _ _ (by rw [hs]; exact hm)] at this
    exact this
  have fin : (∃ vs, resVs σ' res = some vs ∧ K σ'.lift (packS vs)) → a.defers = [] ∧ ∃ v, (results fn a.tmps).run P w' = .ok v w' ∧ ∃ v' σ'' sv O'' Im'', Ending.returned v = .returned v' ∧ K σ'' sv ∧ SimW G X σ'' tm w' O'' Im'' ∧ (∀ u, σ''.next ≤ u → O'' u = .free) ∧ RelV w'.heap Im'' O'' sv v' := by
   rintro ⟨svs', e1, e2⟩
   refine ⟨hd, ?_⟩
   obtain ⟨vs, r1, hrun⟩ := z0w (a := a) s' h4 e1
   have hres : (results fn a.tmps).run P w' = .ok (packV vs) w' := by
    have hm : (fn.results.mapM (resM a.tmps)).run P w' = .ok vs.toArray w' := by
     rw [Array.mapM_eq_mapM_toList]
     simp [hrun]
    unfold results
    simp only [Sem.run_bind]
    have hm2 : (fn.results.mapM fun r => match r with | .tmp t => (pure (a.tmps.getD t undef) : Sem Value) | .cell c t => do loadVar t (← asAddr (a.tmps.getD c undef))) = fn.results.mapM (resM a.tmps) := by
     congr 1
    refine Eq.trans (congrArg (fun m : Sem (Array Value) => (m.run P w').andThen fun a w' => Sem.run P (pure (if h : a.size = 1 then a[0] else Value.tuple a)) w') hm2) ?_
    simp only [hm]
    simp only [Result.andThen_ok, Sem.run_pure]
    rw [v2z]
   exact ⟨packV vs, hres, packV vs, σ'.lift, packS svs', O', Im', rfl, e2, s2, hfree, v0y r1⟩
  cases x <;> cases e <;> simp only [exRel] at hx
  ·exact fin hq
  ·exact hq.elim
  ·exact fin hq
theorem CallV.x {f : Nat} {F : VFn} {svs : List SV} {σ : St} {K : St → SV → Prop} (hf : lowF P f = some F.strip) (hok : fOk P f = true) (hn : svs.length ≤ F.ntmps) (hm : F.ntmps ≤ 1000000)
 (h : wpv P G F.body (endX F.results K) (σ.enter svs)) : CallV P G f svs σ K := .inl ⟨hok, CallL.x hf hn hm h⟩
end
def D.fz : D → D
 | .o sz rows => .l sz rows
 | .t sz rows => .l sz (rows.map (List.map D.fw))
 | d => d
def RV.fz : RV → RV
 | .one d => .one d.fz
 | .agg ds => .agg (ds.map D.fz)
section
variable {P : Program} {G : Nat → Option (List D)} {h : Array Obj} {Im Im' : Nat → Prop}
theorem RelD.fzd {d : D} {v : Value} {fp : List Nat} (r : RelD h Im d v fp) (hi : ∀ b, Im b → Im' b) (hf : ∀ b ∈ fp, Im' b) (hfl : d.fz.flat = true) : RelD h Im' d.fz v [] := by
 have r0 := r
 cases r with
 | o0 sz a => exact .l0 sz a 0
 | o sz rows b cap a sc c e hb hu hl hl2 hm hs ha hc =>
  cases rows with
  | nil => exact .l0 sz _ _
  | cons r rs =>
   have e1 : a = ⟨b, 0, none⟩ := ha.resolve_right (fun e => by subst e; simp at hl)
   subst e1
   exact .l sz _ b 0 sc c e (0, 0) (hf b (by simp)) hb hu ⟨by omega, hl⟩ (by rw [List.drop_zero]; exact hc.keep hi (fun _ _ => rfl))
 | x => simp [D.fz, D.flat] at hfl
 | t0 sz a => exact .l0 sz a 0
 | t sz rows b cap a sc c e fp hb hu hl hl2 hm hs ha hc =>
  cases rows with
  | nil => exact .l0 sz _ _
  | cons r rs =>
   have e1 : a = ⟨b, 0, none⟩ := ha.resolve_right (fun e => by subst e; simp at hl)
   subst e1
   have hfw := hc.fwd (Im' := Im') hi (fun k hk => hf k (by simp [hk]))
   rw [List.map_flatten] at hfw
   have := RelD.l (h := h) (Im := Im') sz ((r :: rs).map (List.map D.fw)) b 0 sc c e (0, 0) (hf b (by simp)) hb (fun r' hr' => by
    obtain ⟨r1, hr1, rfl⟩ := List.mem_map.1 hr'
    rw [List.length_map]; exact hu r1 hr1) (by simp only [List.length_map]; omega) (by rw [List.drop_zero]; exact hfw)
   rw [List.length_map] at this
   exact this
 | _ => exact RelD.keep hi r0 (fun _ _ => rfl)
theorem RelCs.fzd : ∀ {ds : List D} {vs : List Value} {fp : List Nat}, RelCs h Im ds vs fp → (∀ b, Im b → Im' b) → (∀ b ∈ fp, Im' b) → (∀ d ∈ ds, d.fz.flat = true) → RelCs h Im' (ds.map D.fz) vs []
 | _, _, _, .nil vs, _, _, _ => .nil vs
 | _, _, _, .cons d v f ds vs fs r rs, hi, hf, hfl => .cons _ _ [] _ _ [] (r.fzd hi (fun b hb => hf b (List.mem_append_left _ hb)) (hfl d (by simp))) (RelCs.fzd rs hi (fun b hb => hf b (List.mem_append_right _ hb)) fun d hd => hfl d (by simp [hd]))
theorem RelRs.fzd : ∀ {rs : List RV} {vs : List Value} {fp : List Nat}, RelRs h Im rs vs fp → (∀ b, Im b → Im' b) → (∀ b ∈ fp, Im' b) → (∀ r ∈ rs, r.fz.flatB = true) → RelRs h Im' (rs.map RV.fz) vs []
 | _, _, _, .nil, _, _, _ => .nil
 | _, _, _, .cons r v f rs vs fs q qs, hi, hf, hfl => by
  have q' : RelR h Im' r.fz v [] := by
   have h0 := hfl r (by simp)
   cases q with
   | one d v f q => exact .one _ _ _ (q.fzd hi (fun b hb => hf b (List.mem_append_left _ hb)) h0)
   | agg ds cv f q hl => exact .agg _ _ _ (q.fzd hi (fun b hb => hf b (List.mem_append_left _ hb)) (by simpa [RV.fz, RV.flatB] using h0)) (by simpa using hl)
  exact .cons _ _ [] _ _ [] q' (RelRs.fzd qs hi (fun b hb => hf b (List.mem_append_right _ hb)) fun r hr => hfl r (by simp [hr]))
theorem FnRO.fz {f : Nat} {args : List SV} {rs1 : List RV} (h : FnRO P G f args (fun rs => rs.map RV.fz = rs1)) (hfl : rs1.all RV.flatB = true) : FnRO P G f args (fun rs => rs = rs1) := by
 refine ⟨h.1, fun w Im vals hg him hr => (h.2 w Im vals hg him hr).mono ?_⟩
 rintro e w' ⟨vs, rs, Im', fp, rfl, hR, hext, i1, i2, i3, hrel, hnd, hfp⟩
 subst hR
 refine ⟨vs, rs.map RV.fz, fun b => Im' b ∨ b ∈ fp, [], rfl, rfl, hext, fun b hb => .inl (i1 b hb), ?_, ?_, ?_, .nil, fun b hb => by simp at hb⟩
 ·rintro b (hb | hb)
  ·exact i2 b hb
  ·exact .inr (hfp b hb).2.1
 ·rintro b (hb | hb)
  ·exact i3 b hb
  ·exact (hfp b hb).2.2
 ·refine hrel.fzd (fun b hb => .inl hb) (fun b hb => .inr hb) fun r hr => ?_
  have := List.all_eq_true.1 hfl r.fz (List.mem_map.2 ⟨r, hr, rfl⟩)
  exact this
theorem FnRO.fz' {f : Nat} {args : List SV} {rs0 rs1 : List RV} (h : FnRO P G f args (fun rs => rs = rs0)) (he : rs0.map RV.fz = rs1) (hfl : rs1.all RV.flatB = true) : FnRO P G f args (fun rs => rs = rs1) :=
 FnRO.fz ⟨h.1, fun w Im vals hg him hr => (h.2 w Im vals hg him hr).mono fun e w' ⟨vs, rs, Im', fp, h1, h2, h3⟩ => ⟨vs, rs, Im', fp, h1, by rw [h2]; exact he, h3⟩⟩ hfl
def SameD (a b : D) : Prop := a = b ∨ ∃ sz, a = .o sz [] ∧ (b = .t sz [] ∨ b = .l sz [])
theorem sameD_o (sz sz' : Nat) : SameD (.o sz []) (.t sz' []) = (sz = sz') := by simp [SameD, eq_comm]
theorem y5e (sz sz' : Nat) : SameD (.o sz []) (.l sz' []) = (sz = sz') := by simp [SameD, eq_comm]
theorem z5e (sz sz' : Nat) (r r' : List (List D)) : SameD (.o sz r) (.o sz' r') = (D.o sz r = .o sz' r') := by simp [SameD]
theorem sameD_t (sz sz' : Nat) (r r' : List (List D)) : SameD (.t sz r) (.t sz' r') = (D.t sz r = .t sz' r') := by simp [SameD]
theorem sameD_l (sz : Nat) (r : List (List D)) (b : D) : SameD (.l sz r) b = (D.l sz r = b) := by simp [SameD]
theorem sameD_i (k : IntKind) (n : Int) (b : D) : SameD (.i k n) b = (D.i k n = b) := by simp [SameD]
theorem sameD_b (n : Bool) (b : D) : SameD (.b n) b = (D.b n = b) := by simp [SameD]
theorem sameD_s (n : ByteArray) (b : D) : SameD (.s n) b = (D.s n = b) := by simp [SameD]
theorem z4h (b : D) : SameD b b = True := by simp [SameD]
def z1u : List D → List D → Prop
 | [], [] => True
 | a :: as, b :: bs => SameD a b ∧ z1u as bs
 | _, _ => False
def w1j : List RV → List RV → Prop
 | [], [] => True
 | .one a :: rs, .one b :: rs' => SameD a b ∧ w1j rs rs'
 | .agg a :: rs, .agg b :: rs' => z1u a b ∧ w1j rs rs'
 | _, _ => False
theorem SameD.rel {a b : D} (s : SameD a b) {v : Value} {fp : List Nat} (r : RelD h Im a v fp) : ∃ fp', fp'.Sublist fp ∧ RelD h Im b v fp' := by
 rcases s with rfl | ⟨sz, rfl, rfl | rfl⟩
 ·exact ⟨fp, .refl _, r⟩
 ·cases r with
  | o0 sz a => exact ⟨[], .refl _, .t0 _ _⟩
  | o sz rows b cap a sc c e hb hu hl hl2 hm hs ha hc => exact ⟨[b], .refl _, .t sz [] b cap a sc c e [] hb hu hl hl2 hm hs ha (.nil _)⟩
 ·cases r with
  | o0 sz a => exact ⟨[], .refl _, .l0 _ _ _⟩
  | o sz rows b cap a sc c e hb hu hl hl2 hm hs ha hc => exact ⟨[], List.nil_sublist _, .l0 _ _ _⟩
theorem z1u.rel : ∀ {ds ds' : List D} {vs : List Value} {fp : List Nat}, z1u ds ds' → RelCs h Im ds vs fp → ∃ fp', fp'.Sublist fp ∧ RelCs h Im ds' vs fp' ∧ ds'.length = ds.length
 | [], [], _, _, _, r => ⟨_, .refl _, r, rfl⟩
 | a :: as, b :: bs, _, _, s, r => by
  cases r with
  | cons _ v f _ vs fs q qs =>
   obtain ⟨f1, s1, r1⟩ := s.1.rel q
   obtain ⟨f2, s2, r2, hl⟩ := z1u.rel s.2 qs
   exact ⟨f1 ++ f2, s1.append s2, .cons _ _ _ _ _ _ r1 r2, by simp [hl]⟩
 | [], _ :: _, _, _, s, _ => s.elim
 | _ :: _, [], _, _, s, _ => s.elim
theorem w1j.rel : ∀ {rs rs' : List RV} {vs : List Value} {fp : List Nat}, w1j rs rs' → RelRs h Im rs vs fp → ∃ fp', fp'.Sublist fp ∧ RelRs h Im rs' vs fp'
 | [], [], _, _, _, r => ⟨_, .refl _, r⟩
 | .one a :: rs, .one b :: rs', _, _, s, r => by
  cases r with
  | cons _ v f _ vs fs q qs =>
   obtain ⟨f2, s2, r2⟩ := w1j.rel s.2 qs
   cases q with
   | one d v f q =>
    obtain ⟨f1, s1, r1⟩ := s.1.rel q
    exact ⟨f1 ++ f2, s1.append s2, .cons _ _ _ _ _ _ (.one _ _ _ r1) r2⟩
 | .agg a :: rs, .agg b :: rs', _, _, s, r => by
  cases r with
  | cons _ v f _ vs fs q qs =>
   obtain ⟨f2, s2, r2⟩ := w1j.rel s.2 qs
   cases q with
   | agg ds cv f q hl =>
    obtain ⟨f1, s1, r1, h1⟩ := z1u.rel s.1 q
    exact ⟨f1 ++ f2, s1.append s2, .cons _ _ _ _ _ _ (.agg _ _ _ r1 (by rw [h1]; exact hl)) r2⟩
 | [], _ :: _, _, _, s, _ => s.elim
 | .one _ :: _, [], _, _, s, _ => s.elim
 | .agg _ :: _, [], _, _, s, _ => s.elim
 | .one _ :: _, .agg _ :: _, _, _, s, _ => s.elim
 | .agg _ :: _, .one _ :: _, _, _, s, _ => s.elim
theorem FnRO.same {f : Nat} {args : List SV} {rs1 : List RV} (h : FnRO P G f args (fun rs => w1j rs rs1)) : FnRO P G f args (fun rs => rs = rs1) := by
 refine ⟨h.1, fun w Im vals hg him hr => (h.2 w Im vals hg him hr).mono ?_⟩
 rintro e w' ⟨vs, rs, Im', fp, rfl, hR, hext, i1, i2, i3, hrel, hnd, hfp⟩
 obtain ⟨fp', hs, hr'⟩ := hR.rel hrel
 exact ⟨vs, rs1, Im', fp', rfl, rfl, hext, i1, i2, i3, hr', hnd.sublist hs, fun b hb => hfp b (hs.subset hb)⟩
theorem CallD.rofz {σ : St} {f : Nat} {svs as : List SV} {rs0 rs1 : List RV} (h : FnRO P G f as (fun rs => rs = rs0)) (ha : σ.inVs true svs = some as) (hp : rs0.all RV.plain = true) (he : rs0.map RV.fz = rs1) (hfl : rs1.all RV.flatB = true) :
 CallD P G f svs σ none (packS (rs1.map RV.sv)) := by
 refine ⟨h.1, fun τ hle hn X tm w O Im vals s hfree hrel0 => ?_⟩
 have hL : ∀ b, w0a τ O Im true b → b < w.heap.size := by
  rintro b (hb | ⟨_, u, o, l, h1, h2, h3⟩)
  ·exact s.imlt b hb
  ·exact (s.ownblk h1 h2 h3).2.1
 refine (h.2 w (w0a τ O Im true) vals (fun g c hg => (s.glob g c hg).keep (fun b h => .inl h) fun _ _ => rfl) hL (y2c s hrel0 (y3q (σ := σ) hle ha))).mono ?_
 rintro e w' ⟨vs, rs, Im', fp, rfl, rfl, hext, i1, i2, i3, hrel, hnd, hfp⟩
 let Im'' : Nat → Prop := fun b => Im b ∨ (w.heap.size ≤ b ∧ b < w'.heap.size ∧ b ∈ fp)
 have s1 : SimW G X τ tm w' O Im'' := s.called hext (fun b h => .inl h) (fun b h => h.imp (fun h => h) fun h => ⟨h.1, h.2.1⟩)
 have hrel' : RelRs w'.heap Im rs vs fp := x0w hrel (by simpa using hp) _
 have hfl' : ∀ r ∈ rs, r.fz.flatB = true := fun r hr => List.all_eq_true.1 hfl r.fz (by rw [← he]; exact List.mem_map.2 ⟨r, hr, rfl⟩)
 have hrel'' : RelRs w'.heap Im'' (rs.map RV.fz) vs [] := hrel'.fzd (fun b hb => .inl hb) (fun b hb => .inr ⟨(hfp b hb).2.1, (hfp b hb).2.2, hb⟩) hfl'
 rw [he] at hrel''
 exact ⟨_, O, Im'', rfl, s1, v0y (z3c hrel'' (by simpa using hfl)), fun _ _ h => h⟩
end
inductive Sh where
 | int (k : IntKind)
 | bool
 | str
 | sl (sz bytes : Nat) (cells : List Sh)
mutual
def fitD : Sh → D → Prop
 | .int k, .i k' n => k' = k ∧ k.has n
 | .bool, .b _ => True
 | .str, .s b => b.size ≤ maxLen ∧ b.size ≤ reachBytes
 | .sl sz bytes cells, .l sz' rows => sz' = sz ∧ rows.length ≤ maxLen ∧ rows.length * bytes ≤ reachBytes ∧ ∀ r ∈ rows, fitCs cells r
 | _, _ => False
def fitCs : List Sh → List D → Prop
 | [], [] => True
 | s :: ss, d :: ds => fitD s d ∧ fitCs ss ds
 | _, _ => False
end
def shFs (P : Program) (g : TypeId → Option (List Sh)) : Nat → List Field → Option (List Sh)
 | _, [] => some []
 | off, f :: fs => if f.offset = off then (g f.type).bind fun k => if k.length = P.cellsOf f.type then (shFs P g (off + k.length) fs).map (k ++ ·) else none else none
def shOf (P : Program) : Nat → TypeId → Option (List Sh)
 | 0, _ => none
 | n + 1, t => match P.underlying t with
  | some .bool => some [.bool]
  | some (.int k) => some [.int k]
  | some .string => some [.str]
  | some (.slice e) => (shOf P n e).bind fun c => if c.length = P.cellsOf e ∧ 0 < P.cellsOf e then some [.sl (P.cellsOf e) (P.bytesOf e) c] else none
  | some (.struct fs) => (shFs P (shOf P n) 0 fs.toList).bind fun c => if c.length = P.cellsOf t then some c else none
  | _ => none

theorem v0z : ∀ {ss : List Sh} {ds : List D}, fitCs ss ds → ds.length = ss.length
 | [], [], _ => rfl
 | s :: ss, d :: ds, h => by simp only [fitCs] at h; simp [v0z h.2]
 | [], _ :: _, h => by simp [fitCs] at h
 | _ :: _, [], h => by simp [fitCs] at h
theorem z3k : ∀ {ss ts : List Sh} {ds es : List D}, fitCs ss ds → fitCs ts es → fitCs (ss ++ ts) (ds ++ es)
 | [], ts, [], es, _, q => q
 | s :: ss, ts, d :: ds, es, h, q => by simp only [fitCs] at h; simp only [List.cons_append, fitCs]; exact ⟨h.1, z3k h.2 q⟩
 | [], _, _ :: _, _, h, _ => by simp [fitCs] at h
 | _ :: _, _, [], _, h, _ => by simp [fitCs] at h
theorem u3g (a : Addr) : a.add 0 = a := by simp [Addr.add]
theorem w3u (a : Addr) (i j : Nat) : (a.add i).add j = a.add (i + j) := by
 unfold Addr.add
 by_cases hi : i = 0 <;> by_cases hj : j = 0 <;> simp [hi, hj, Nat.add_assoc]
theorem z3p {α β : Type} {f : α → Option β} : ∀ {l : List α} {ys : List β}, l.mapM f = some ys → ys.length = l.length ∧ ∀ (i : Nat) (x : α), l[i]? = some x → ∃ y, ys[i]? = some y ∧ f x = some y
 | [], ys, h => by simp only [List.mapM_nil, Option.pure_def, Option.some.injEq] at h; subst h; exact ⟨rfl, fun i x hx => by simp at hx⟩
 | x :: l, ys, h => by
  simp only [List.mapM_cons, Option.bind_eq_bind, Option.bind_eq_some_iff, Option.pure_def, Option.some.injEq] at h
  obtain ⟨y, h1, ys', h2, rfl⟩ := h
  obtain ⟨g1, g2⟩ := z3p h2
  refine ⟨by simp [g1], fun i x' hx => ?_⟩
  cases i with
  | zero => simp at hx; subst hx; exact ⟨y, by simp, h1⟩
  | succ i => simpa using g2 i x' (by simpa using hx)
theorem v2m {α : Type} {p : Nat → α → Prop} : ∀ (n : Nat), (∀ i, i < n → ∃ r, p i r) → ∃ rows : List α, rows.length = n ∧ ∀ (i : Nat) (r : α), rows[i]? = some r → p i r
 | 0, _ => ⟨[], rfl, fun i r h => by simp at h⟩
 | n + 1, h => by
  obtain ⟨rows, h1, h2⟩ := v2m n fun i hi => h i (by omega)
  obtain ⟨r, hr⟩ := h n (by omega)
  refine ⟨rows ++ [r], by simp [h1], fun i r' hi => ?_⟩
  by_cases hlt : i < rows.length
  ·rw [List.getElem?_append_left hlt] at hi; exact h2 i r' hi
  ·rw [List.getElem?_append_right (by omega)] at hi
   have := (List.getElem?_eq_some_iff.1 hi).1
   simp at this
   have hin : i = n := by omega
   subst hin
   simp [h1] at hi
   exact hi ▸ hr

section
variable {P : Program} {H : Type} {enc : TypeId × Value → H} {w : World}
theorem v2j {e : TypeId} : ∀ {elems : List (DataW H)} {N : Nat}, (DataW.weightsAll P e elems).all (· ≤ N) = true → ∀ (i : Nat) (d : DataW H), elems[i]? = some d → (d.weights P e).all (· ≤ N) = true
 | [], _, _, i, d, h => by simp at h
 | x :: l, N, h, i, d, hd => by
  simp only [DataW.weightsAll, List.all_append, Bool.and_eq_true] at h
  cases i with
  | zero => simp at hd; subst hd; exact h.1
  | succ i => exact v2j h.2 i d (by simpa using hd)

theorem cells?_at {base : Nat} {a : Addr} {n : Nat} {cs : List Value} (h : w.cells? base a n = some cs) : cs.length = n ∧ ∀ j, j < n → w.cell? (a.add j) = cs[j]? := by
 unfold World.cells? at h
 split at h
 ·obtain ⟨h1, h2⟩ := z3p h
  refine ⟨by simpa using h1, fun j hj => ?_⟩
  obtain ⟨y, hy, hc⟩ := h2 j j (by simp [hj])
  rw [hc, hy]
 ·cases h
theorem cell?_block {a : Addr} {v : Value} (h : w.cell? a = some v) : a.spot = none ∧ a.block < w.heap.size ∧ ∃ c e fr, w.heap[a.block]? = some (.cells c e fr) ∧ c[a.off]? = some v := by
 unfold World.cell? at h
 split at h
 ·rename_i c e fr hb
  split at h
  ·cases h
  ·rename_i hs
   refine ⟨by simpa using hs, (Array.getElem?_eq_some_iff.1 hb).1, c, e, fr, hb, h⟩
 ·cases h

mutual
def nD : D → Nat
 | .l _ rows => 1 + nRs rows
 | .s b => b.size + 1
 | _ => 1
def nRs : List (List D) → Nat
 | [] => 0
 | r :: rs => nCs r + nRs rs
def nCs : List D → Nat
 | [] => 0
 | d :: ds => nD d + nCs ds
end
theorem z4n : ∀ (a b : List D), nCs (a ++ b) = nCs a + nCs b
 | [], b => by simp [nCs]
 | d :: a, b => by simp only [List.cons_append, nCs, z4n a b]; omega
structure BulkOk (B : DataW H → Nat) (BA : List (DataW H) → Nat) : Prop where
 one : ∀ d, 1 ≤ B d
 nil : BA [] = 0
 cons : ∀ x r, BA (x :: r) = B x + BA r
 slice : ∀ es sp, BA es + 1 ≤ B (.slice es sp)
 agg : ∀ ps, BA ps ≤ B (.agg ps)
 str : ∀ s : List UInt8, s.length + 1 ≤ B (.lit (.string s))
theorem u5h {B : DataW H → Nat} {BA : List (DataW H) → Nat} (K : BulkOk B BA) : ∀ {rows : List (List D)} {es : List (DataW H × List MemPlace)}, rows.length = es.length → (∀ (i : Nat) (r : List D), rows[i]? = some r → ∃ y, es[i]? = some y ∧ nCs r ≤ B y.1) → nRs rows ≤ BA (es.map (·.1))
 | [], [], _, _ => by simp [nRs]
 | r :: rs, e :: es, hl, h => by
  obtain ⟨y, h1, h2⟩ := h 0 r (by simp)
  simp only [List.getElem?_cons_zero, Option.some.injEq] at h1
  subst h1
  have := u5h K (rows := rs) (es := es) (by simpa using hl) (fun i r hr => by simpa using h (i + 1) r (by simpa using hr))
  rw [List.map_cons, K.cons, nRs]; omega
 | [], _ :: _, hl, _ => by simp at hl
 | _ :: _, [], hl, _ => by simp at hl
def x4q (P : Program) (enc : TypeId × Value → H) (w : World) (t : TypeId) (shs : List Sh) : Prop :=
 ∀ (fuel : Nat) (cs : List Value) (dw : DataW H) (ps : List MemPlace), DataW.trod enc P w 0 (fun _ => true) true fuel t cs = some (dw, ps) → (dw.weights P t).all (· ≤ reachBytes) = true →
  ∃ ds, cs.length = shs.length ∧ RelCs w.heap (fun b => b < w.heap.size) ds cs [] ∧ fitCs shs ds ∧ ∀ B BA, BulkOk B BA → nCs ds ≤ B dw

theorem w4m {g : TypeId → Option (List Sh)} (ih : ∀ t shs, g t = some shs → x4q P enc w t shs) {fuel : Nat} {cs : List Value} : ∀ (fs : List Field) (off : Nat) (shs : List Sh) (xs : List (DataW H × List MemPlace)), shFs P g off fs = some shs →
 (fs.mapM fun f => DataW.trod enc P w 0 (fun _ => true) true fuel f.type ((cs.drop f.offset).take (P.cellsOf f.type))) = some xs → (DataW.weightsEach P (fs.map (·.type)) (xs.map (·.1))).all (· ≤ reachBytes) = true →
 ∃ ds, RelCs w.heap (fun b => b < w.heap.size) ds (cs.drop off) [] ∧ fitCs shs ds ∧ ∀ B BA, BulkOk B BA → nCs ds ≤ BA (xs.map (·.1))
 | [], off, shs, xs, h, _, _ => by
  simp only [shFs, Option.some.injEq] at h; subst h
  exact ⟨[], .nil _, by simp [fitCs], fun B BA K => by simp [nCs]⟩
 | f :: fs, off, shs, xs, h, hm, hw => by
  simp only [shFs] at h
  split at h
  ·rename_i hoff
   subst hoff
   simp only [Option.bind_eq_some_iff] at h
   obtain ⟨k, hk, h⟩ := h
   split at h
   ·rename_i hkl
    simp only [Option.map_eq_some_iff] at h
    obtain ⟨rest, hr, rfl⟩ := h
    simp only [List.mapM_cons, Option.bind_eq_bind, Option.bind_eq_some_iff, Option.pure_def, Option.some.injEq] at hm
    obtain ⟨⟨x, p⟩, h1, xs', h2, rfl⟩ := hm
    simp only [List.map_cons, DataW.weightsEach, List.all_append, Bool.and_eq_true] at hw
    obtain ⟨ds, g1, g2, g3, g4⟩ := ih _ _ hk fuel _ x p h1 hw.1
    obtain ⟨es, q1, q2, q3⟩ := w4m ih fs (f.offset + k.length) rest xs' hr h2 hw.2
    refine ⟨ds ++ es, ?_, z3k g3 q2, fun B BA K => by rw [z4n, List.map_cons, K.cons]; have := g4 B BA K; have := q3 B BA K; simp only at *; omega⟩
    have := wx (rest := []) g2 (by rw [g1, v0z g3]) q1
    rw [List.append_nil, hkl, ← List.drop_drop, List.take_append_drop] at this
    exact this
   ·cases h
  ·cases h

theorem w4h : ∀ (n : Nat) (t : TypeId) (shs : List Sh), shOf P n t = some shs → x4q P enc w t shs
 | 0, t, shs, h => by simp [shOf] at h
 | n + 1, t, shs, h => by
  intro fuel cs dw ps ht hw
  cases fuel with
  | zero => simp [DataW.trod] at ht
  | succ fuel =>
   unfold shOf at h
   cases hu : P.underlying t with
   | none => simp [hu] at h
   | some d =>
    rw [hu] at h
    cases d <;> simp only [reduceCtorEq, Option.some.injEq] at h
    case bool =>
     subst h
     unfold DataW.trod at ht
     simp only [hu] at ht
     split at ht <;> simp_all
     exact ⟨[.b _], .cons _ _ [] _ _ [] (.b _) (.nil _), by simp [fitCs, fitD], fun B BA K => K.one _⟩
    case int k =>
     subst h
     unfold DataW.trod at ht
     simp only [hu] at ht
     split at ht <;> simp_all
     obtain ⟨⟨rfl, hwf⟩, _⟩ := ht
     refine ⟨[.i _ _], .cons _ _ [] _ _ [] (.i _ _) (.nil _), ?_, fun B BA K => K.one _⟩
     simpa [fitCs, fitD, IntKind.has, Lit.wf] using hwf
    case string =>
     subst h
     unfold DataW.trod at ht
     simp only [hu] at ht
     split at ht
     all_goals first | (exfalso; simp_all; done) | skip
     rename_i s _
     split at ht
     case isFalse => cases ht
     rename_i hle
     simp only [Option.some.injEq, Prod.mk.injEq] at ht
     obtain ⟨rfl, _⟩ := ht
     refine ⟨[.s s], rfl, .cons _ _ [] _ _ [] (.s _) (.nil _), ?_⟩
     simp only [DataW.weights, List.all_cons, List.all_nil, Bool.and_true, decide_eq_true_eq] at hw
     have hl : s.data.toList.length = s.size := Array.length_toList
     rw [hl] at hw
     exact ⟨⟨⟨hle, hw⟩, trivial⟩, fun B BA K => by have h := K.str s.data.toList; rw [hl] at h; simp only [nCs, nD]; omega⟩
    case slice e =>
     simp only [Option.bind_eq_some_iff] at h
     obtain ⟨c, hc, h⟩ := h
     split at h
     ·rename_i hcl
      simp only [Option.some.injEq] at h
      subst h
      unfold DataW.trod at ht
      simp only [hu] at ht
      split at ht
      all_goals first | (exfalso; simp_all; done) | skip
      ·simp only [Option.some.injEq, Prod.mk.injEq] at ht
       exact ⟨[.l _ []], rfl, .cons _ _ [] _ _ [] (.l0 _ _ _) (.nil _), ⟨⟨rfl, Nat.zero_le _, by rw [List.length_nil, Nat.zero_mul]; exact Nat.zero_le _, fun r hr => by cases hr⟩, trivial⟩, fun B BA K => K.one _⟩
      ·rename_i e' a len cap hue
       cases hue
       split at ht
       ·rename_i hb
        simp only [Option.bind_eq_some_iff, Option.map_eq_some_iff, Prod.mk.injEq] at ht
        obtain ⟨elems, h1, rest, h2, rfl, _⟩ := ht
        obtain ⟨g1, g2⟩ := z3p h1
        simp only [List.length_range] at g1
        simp only [DataW.weights, hu, List.all_cons, List.all_append, Bool.and_eq_true, decide_eq_true_eq, List.length_map] at hw
        obtain ⟨rows, r1, r2⟩ := v2m (p := fun i r => ∃ ci, w.cells? 0 (a.add (i * P.cellsOf e)) (P.cellsOf e) = some ci ∧ RelCs w.heap (fun b => b < w.heap.size) r ci [] ∧ fitCs c r ∧ ∃ y, elems[i]? = some y ∧ ∀ B BA, BulkOk B BA → nCs r ≤ B y.1) len (by
         intro i hi
         obtain ⟨y, hy, hf⟩ := g2 i i (by simp [hi])
         simp only [Option.bind_eq_some_iff] at hf
         obtain ⟨ci, hci, hf⟩ := hf
         obtain ⟨ds, q1, q2, q3, q4⟩ := w4h n e c hc fuel ci y.1 y.2 hf (v2j hw.2.1 i y.1 (by simp [hy]))
         exact ⟨ds, ci, hci, q2, q3, y, hy, q4⟩)
        have hru : ∀ r ∈ rows, r.length = P.cellsOf e := by
         intro r hr
         obtain ⟨i, hi⟩ := List.getElem?_of_mem hr
         obtain ⟨ci, _, _, q, _⟩ := r2 i r hi
         rw [v0z q, hcl.1]
        have hfit : fitCs [.sl (P.cellsOf e) (P.bytesOf e) c] [.l (P.cellsOf e) rows] := by
         refine ⟨⟨rfl, by omega, ?_, ?_⟩, trivial⟩
         ·refine Nat.le_trans (Nat.mul_le_mul_right _ ?_) hw.1
          omega
         ·intro r hr
          obtain ⟨i, hi⟩ := List.getElem?_of_mem hr
          obtain ⟨ci, _, _, q, _⟩ := r2 i r hi
          exact q
        have hbulk : ∀ B BA, BulkOk B BA → nCs [.l (P.cellsOf e) rows] ≤ B (.slice (elems.map (·.1)) (rest.map (·.1))) := fun B BA K => by
         have h1 := u5h K (rows := rows) (es := elems) (by omega) fun i r hr => by
          obtain ⟨ci, _, _, _, y, hy, hq⟩ := r2 i r hr
          exact ⟨y, hy, hq B BA K⟩
         have h2 := K.slice (elems.map (·.1)) (rest.map (·.1))
         simp only [nCs, nD]; omega
        refine ⟨[.l (P.cellsOf e) rows], rfl, .cons _ _ [] _ _ [] ?_ (.nil _), hfit, hbulk⟩
        by_cases h0 : len = 0
        ·subst h0
         obtain rfl : rows = [] := List.eq_nil_of_length_eq_zero r1
         exact .l0 _ _ _
        ·have hcell : ∀ i, i < len → ∀ m, m < P.cellsOf e → ∃ v, w.cell? (a.add (i * P.cellsOf e + m)) = some v ∧ ∃ r d, rows[i]? = some r ∧ r[m]? = some d ∧ RelD w.heap (fun b => b < w.heap.size) d v [] := by
          intro i hi m hm
          have hir : i < rows.length := by omega
          obtain ⟨ci, q1, q2, q3, _⟩ := r2 i rows[i] (by simp [hir])
          obtain ⟨k1, k2⟩ := cells?_at q1
          have hml : m < rows[i].length := by rw [hru _ (List.getElem_mem hir)]; exact hm
          obtain ⟨v, hv, hd⟩ := q2.at_ m rows[i][m] (by simp [hml])
          refine ⟨v, ?_, rows[i], rows[i][m], by simp [hir], by simp [hml], hd⟩
          have := k2 m hm
          rw [hv] at this
          rw [w3u] at this; exact this
         obtain ⟨v0, hv0, _⟩ := hcell 0 (by omega) 0 hcl.2
         obtain ⟨s1, s2, cc, ty, fr, s3, s4⟩ := cell?_block hv0
         rw [show 0 * P.cellsOf e + 0 = 0 from by omega, u3g] at s1 s2 s3
         obtain ⟨ab, ao, asp⟩ := a
         simp only at s1 s2 s3
         subst s1
         rw [← r1]
         refine .l _ rows ab ao cap cc ty fr s2 s3 hru ⟨by omega, by omega⟩ (RelCs.of_at _ _ ?_)
         intro j d hj
         have hjl := (List.getElem?_eq_some_iff.1 hj).1
         rw [wa hru] at hjl
         have hdm : j = (j / P.cellsOf e) * P.cellsOf e + j % P.cellsOf e := by rw [Nat.mul_comm]; exact (Nat.div_add_mod j _).symm
         have hml := Nat.mod_lt j hcl.2
         have hdl : j / P.cellsOf e < rows.length := (Nat.div_lt_iff_lt_mul hcl.2).2 hjl
         obtain ⟨v, k1, r, d', k2, k3, k4⟩ := hcell (j / P.cellsOf e) (by omega) _ hml
         rw [hdm, flatten_getElem? hru _ _ hml, k2] at hj
         simp only [Option.bind_some, k3, Option.some.injEq] at hj
         subst hj
         refine ⟨v, ?_, k4⟩
         rw [Addr.add_lit, ← hdm] at k1
         obtain ⟨_, _, c2, ty2, fr2, t3, t4⟩ := cell?_block k1
         simp only at t3 t4
         rw [s3] at t3
         cases t3
         rw [List.getElem?_drop]
         simpa using t4
       ·cases ht
     ·cases h
    case struct fs =>
     simp only [Option.bind_eq_some_iff] at h
     obtain ⟨c, hc, h⟩ := h
     split at h
     ·rename_i hcl
      simp only [Option.some.injEq] at h
      subst h
      unfold DataW.trod at ht
      simp only [hu] at ht
      split at ht
      all_goals first | (exfalso; simp_all; done) | skip
      rename_i hl
      simp only [Option.map_eq_some_iff, Prod.mk.injEq] at ht
      obtain ⟨xs, hm, rfl, _⟩ := ht
      simp only [DataW.weights, hu] at hw
      obtain ⟨ds, g1, g2, g3⟩ := w4m (fun t shs h => w4h n t shs h) fs.toList 0 c xs hc hm hw
      exact ⟨ds, by omega, by simpa using g1, g2, fun B BA K => Nat.le_trans (g3 B BA K) (K.agg _)⟩
     ·cases h
end
def x3r (P : Program) (t : TypeId) (sv : SV) : Prop :=
 ∃ shs, shOf P 16 t = some shs ∧ ((xn P t = true ∧ ∃ ds, fitCs shs ds ∧ sv = .agg (ds.map .d)) ∨ (xn P t = false ∧ ∃ d, fitCs shs [d] ∧ sv = .one (.d d)))
def u2t (P : Program) : List TypeId → List SV → Prop
 | [], [] => True
 | t :: ts, sv :: svs => x3r P t sv ∧ u2t P ts svs
 | _, _ => False

section
variable {P : Program} {H : Type} {enc : TypeId × Value → H} {W : World}
theorem y5d {n : Nat} {t : TypeId} {shs : List Sh} (h : shOf P n t = some shs) : ∃ d, P.underlying t = some d ∧ (xn P t = false → shs.length = 1 ∧ match d with | .bool | .int _ | .string | .slice _ => True | _ => False) := by
 cases n with
 | zero => simp [shOf] at h
 | succ n =>
  unfold shOf at h
  cases hu : P.underlying t with
  | none => simp [hu] at h
  | some d =>
   refine ⟨d, rfl, ?_⟩
   rw [hu] at h
   cases d <;> simp only [reduceCtorEq, Option.some.injEq] at h
   case bool => subst h; intro; simp
   case int => subst h; intro; simp
   case string => subst h; intro; simp
   case slice e =>
    simp only [Option.bind_eq_some_iff] at h
    obtain ⟨c, _, h⟩ := h
    split at h
    ·cases h; intro; simp
    ·cases h
   case struct fs => intro hb; simp [xn, hu] at hb
def nSCs : List SC → Nat
 | [] => 0
 | .d d :: r => nD d + nSCs r
 | _ :: r => nSCs r
def nSV : SV → Nat
 | .one c => nSCs [c]
 | .agg cs => nSCs cs
 | _ => 0
def nSVs : List SV → Nat
 | [] => 0
 | x :: r => nSV x + nSVs r
theorem y3z : ∀ (ds : List D), nSCs (ds.map .d) = nCs ds
 | [] => rfl
 | d :: ds => by simp only [List.map_cons, nSCs, nCs, y3z ds]
theorem law_arg {t : TypeId} {v : Value} {dw : DataW H} {ps : List MemPlace} {base : Nat} (hsh : (shOf P 16 t).isSome = true) (h : DataW.Trod enc P W 0 (fun _ => true) true t v dw ps) (hval : Value.okWide P W .any base t v) (hw : (dw.weights P t).all (· ≤ reachBytes) = true) :
 ∃ sv, RelV W.heap (fun b => b < W.heap.size) (fun _ => .free) sv v ∧ x3r P t sv ∧ ∀ B BA, BulkOk B BA → nSV sv ≤ B dw := by
 obtain ⟨shs, hs⟩ := Option.isSome_iff_exists.1 hsh
 obtain ⟨fuel, hf⟩ := h
 obtain ⟨ds, h1, h2, h3, h4⟩ := w4h 16 t shs hs fuel _ _ _ hf hw
 obtain ⟨d, hu, hd⟩ := y5d hs
 cases hb : xn P t with
 | true =>
  obtain ⟨cv, rfl⟩ : ∃ cv, v = .agg cv := by
   unfold xn at hb
   unfold Value.okWide at hval
   split at hb
   ·rename_i hx; rw [hx] at hval; obtain ⟨cs, rfl, _⟩ := hval; exact ⟨cs, rfl⟩
   ·rename_i hx; rw [hx] at hval; obtain ⟨cs, rfl, _⟩ := hval; exact ⟨cs, rfl⟩
   ·cases hb
  refine ⟨.agg (ds.map .d), .agg _ _ ?_, ⟨shs, hs, .inl ⟨hb, ds, h3, rfl⟩⟩, fun B BA K => by rw [nSV, y3z]; exact h4 B BA K⟩
  have hcl : cv.toList.length = ds.length := by rw [v0z h3]; exact h1
  have h2' : RelCs W.heap (fun b => b < W.heap.size) ds cv.toList [] := h2
  have := h2'.cl (O := fun _ => LS.free)
  rw [← hcl, List.take_length] at this
  exact this
 | false =>
  obtain ⟨hl, hk⟩ := hd hb
  have hc : v.cells = #[v] := by
   apply v2i
   unfold Value.okWide at hval
   rw [hu] at hval
   cases d <;> simp only at hk
   all_goals
    simp only [Cell.okWide, hu, Cell.ok] at hval
    cases v <;> first | rfl | exact hval.elim
  obtain ⟨d0, rfl⟩ : ∃ d0, ds = [d0] := by
   have := v0z h3
   rw [hl] at this
   match ds, this with
   | [d0], _ => exact ⟨d0, rfl⟩
  rw [hc] at h2
  obtain ⟨v', hv, hr⟩ := h2.at_ 0 d0 (by simp)
  simp at hv; subst hv
  exact ⟨.one (.d d0), .one _ _ (.d _ _ hr), ⟨shs, hs, .inr ⟨hb, d0, h3, rfl⟩⟩, fun B BA K => h4 B BA K⟩
theorem y3b {base : Nat} : ∀ {ts : List TypeId} {vs : List Value} {ds : List (DataW H)} {ps : List MemPlace}, ts.all (fun t => (shOf P 16 t).isSome) = true → DataW.TrodAll enc P W 0 (fun _ => true) true ts vs ds ps →
 (∀ (j : Nat) t v, ts[j]? = some t → vs[j]? = some v → Value.okWide P W .any base t v) → (DataW.weightsEach P ts ds).all (· ≤ reachBytes) = true →
 ∃ svs, RelVs W.heap (fun b => b < W.heap.size) (fun _ => .free) svs vs ∧ u2t P ts svs ∧ ∀ B BA, BulkOk B BA → nSVs svs ≤ BA ds
 | [], vs, ds, ps, _, h, _, _ => by
  obtain ⟨rfl, rfl, rfl⟩ := ChangeShapes.trodAll_nil h
  exact ⟨[], .nil, trivial, fun B BA K => Nat.zero_le _⟩
 | t :: ts, vs, ds, ps, hsh, h, hval, hw => by
  obtain ⟨v, vs', d, ds', p, q, rfl, rfl, rfl, h1, h2⟩ := ChangeShapes.trodAll_cons h
  simp only [List.all_cons, Bool.and_eq_true] at hsh
  simp only [DataW.weightsEach, List.all_append, Bool.and_eq_true] at hw
  obtain ⟨sv, r1, f1, b1⟩ := law_arg hsh.1 h1 (hval 0 t v (by simp) (by simp)) hw.1
  obtain ⟨svs, r2, f2, b2⟩ := y3b hsh.2 h2 (fun j t v ht hv => hval (j + 1) t v (by simpa using ht) (by simpa using hv)) hw.2
  exact ⟨sv :: svs, .cons _ _ _ _ r1 r2, ⟨f1, f2⟩, fun B BA K => by have := b1 B BA K; have := b2 B BA K; rw [nSVs, K.cons]; omega⟩
theorem w5i {base : Nat} : ∀ {ts : List TypeId} {vs : List Value} {ds : List (DataW H)} {ps : List MemPlace}, ts.all (fun t => (shOf P 16 t).isSome) = true → DataW.TrodAll enc P W 0 (fun _ => true) true ts vs ds ps →
 (∀ (j : Nat) t v, ts[j]? = some t → vs[j]? = some v → Value.okWide P W .any base t v) → (DataW.weightsEach P ts ds).all (· ≤ reachBytes) = true →
 ∃ svs, RelVs W.heap (fun b => b < W.heap.size) (fun _ => .free) svs vs ∧ u2t P ts svs := fun h1 h2 h3 h4 =>
 let ⟨svs, r, f, _⟩ := y3b h1 h2 h3 h4
 ⟨svs, r, f⟩
theorem x4a (hl : laidOutB P = true) {W' : World} (hb : RowKit.Below W.heap.size W W') : ∀ {ts : List TypeId} {vs : List Value} {ds : List (DataW H)} {ps : List MemPlace}, (ts.all fun t => P.readableRec t && decide (t < P.types.size)) = true →
 DataW.TrodAll enc P W 0 (fun _ => true) true ts vs ds ps → DataW.TrodAll enc P W' 0 (fun b => decide (b < W.heap.size)) true ts vs ds ps
 | [], vs, ds, ps, _, h => by
  obtain ⟨rfl, rfl, rfl⟩ := ChangeShapes.trodAll_nil h
  exact ChangeShapes.trodAll_mk0
 | t :: ts, vs, ds, ps, hr, h => by
  obtain ⟨v, vs', d, ds', p, q, rfl, rfl, rfl, h1, h2⟩ := ChangeShapes.trodAll_cons h
  simp only [List.all_cons, Bool.and_eq_true, decide_eq_true_eq] at hr
  have hlt : ∀ x ∈ p, x.block < W.heap.size := by obtain ⟨m, hm⟩ := h1; exact DataW.trod_lt m _ _ _ hm
  exact ⟨p, q, RowKit.Below.trod hl hr.1.1 hr.1.2 h1 hb hlt, x4a hl hb hr.2 h2, rfl⟩
theorem law_run {f : Nat} {svs : List SV} {vals : Array Value} (h : FnRO P (fun _ => none) f svs (fun rs => rs = [.one (.b true)])) (hr : RelVs W.heap (fun b => b < W.heap.size) (fun _ => .free) svs vals.toList) :
 Calls P f vals W fun e W' => e = .returned (.bool true) ∧ RowKit.Below W.heap.size W W' := by
 have := h.2 W (fun b => b < W.heap.size) vals.toList (fun g c h => by cases h) (fun b hb => hb) hr
 rw [Array.toArray_toList] at this
 refine this.mono ?_
 rintro e W' ⟨vs, rs, Im', fp, rfl, rfl, hext, _, _, _, hrel, _⟩
 refine ⟨?_, hext.os, hext.tape, hext.output, hext.size, fun k hk => hext.block k hk (fun h => h)⟩
 cases hrel with
 | cons _ v _ _ _ _ r1 r2 =>
  cases r2
  cases r1 with
  | one _ _ _ r => cases r; rfl
end
/-! ### A law's arguments, as typed data -/
theorem xu {s : Sh} {ss : List Sh} {ds : List D} (h : fitCs (s :: ss) ds) : ∃ d ds', ds = d :: ds' ∧ fitD s d ∧ fitCs ss ds' := by
 cases ds with
 | nil => simp [fitCs] at h
 | cons d ds => exact ⟨d, ds, rfl, by simpa [fitCs] using h⟩
theorem w0z {ds : List D} (h : fitCs [] ds) : ds = [] := by
 cases ds with
 | nil => rfl
 | cons d ds => simp [fitCs] at h
theorem y0i {k : IntKind} {d : D} (h : fitD (.int k) d) : ∃ n, d = .i k n ∧ k.has n := by
 cases d <;> simp only [fitD] at h
 obtain ⟨rfl, h⟩ := h; exact ⟨_, rfl, h⟩
theorem x4y {d : D} (h : fitD .bool d) : ∃ b, d = .b b := by
 cases d <;> simp only [fitD] at h
 exact ⟨_, rfl⟩
theorem fitD_str {d : D} (h : fitD .str d) : ∃ b, d = .s b ∧ b.size ≤ maxLen ∧ b.size ≤ reachBytes := by
 cases d <;> simp only [fitD] at h
 exact ⟨_, rfl, h⟩
theorem y3r {sz bytes : Nat} {cells : List Sh} {d : D} (h : fitD (.sl sz bytes cells) d) : ∃ rows, d = .l sz rows ∧ rows.length ≤ maxLen ∧ rows.length * bytes ≤ reachBytes ∧ ∀ r ∈ rows, fitCs cells r := by
 cases d <;> simp only [fitD] at h
 obtain ⟨rfl, h1, h2, h3⟩ := h; exact ⟨_, rfl, h1, h2, h3⟩
theorem y2q {α : Type} {enc : α → List D} {ok : α → Prop} {cells : List Sh} (he : ∀ {ds}, fitCs cells ds → ∃ x, ds = enc x ∧ ok x) : ∀ {rows : List (List D)}, (∀ r ∈ rows, fitCs cells r) → ∃ xs : List α, rows = xs.map enc ∧ ∀ x ∈ xs, ok x
 | [], _ => ⟨[], rfl, fun x h => by cases h⟩
 | r :: rows, h => by
  obtain ⟨x, rfl, hx⟩ := he (h r (by simp))
  obtain ⟨xs, rfl, hxs⟩ := y2q he (rows := rows) fun r hr => h r (by simp [hr])
  exact ⟨x :: xs, rfl, fun y hy => by rcases List.mem_cons.1 hy with rfl | hy; exact hx; exact hxs y hy⟩
theorem arg_agg {P : Program} {t : TypeId} {shs : List Sh} {sv : SV} (hs : shOf P 16 t = some shs) (hb : xn P t = true) (h : x3r P t sv) : ∃ ds, fitCs shs ds ∧ sv = .agg (ds.map .d) := by
 obtain ⟨shs', hs', ⟨_, ds, hf, rfl⟩ | ⟨hb', _⟩⟩ := h
 ·rw [hs] at hs'; cases hs'; exact ⟨ds, hf, rfl⟩
 ·rw [hb] at hb'; cases hb'
theorem y4q {P : Program} {t : TypeId} {shs : List Sh} {sv : SV} (hs : shOf P 16 t = some shs) (hb : xn P t = false) (h : x3r P t sv) : ∃ d, fitCs shs [d] ∧ sv = .one (.d d) := by
 obtain ⟨shs', hs', ⟨hb', _⟩ | ⟨_, d, hf, rfl⟩⟩ := h
 ·rw [hb] at hb'; cases hb'
 ·rw [hs] at hs'; cases hs'; exact ⟨d, hf, rfl⟩
def withK {B R : Type} (K : B) (F : B → Option R) : Option R := F K
def St.init (args : List SV) : St := ⟨fun t => args.getD t .dead, fun _ => none, 0⟩
theorem FnRO.of' {P : Program} {G : Nat → Option (List D)} {f : Nat} {F : VFn} {args : List SV} {R : List RV → Prop} (hf : lowF P f = some F.strip) (hok : fOk P f = true) (hn : args.length ≤ F.ntmps)
 (h : wpv P G F.body (endQ F.results R) (St.init args)) : FnRO P G f args R := FnRO.of hf hok hn h
section
variable (σ : St) (t u : Nat) (v : SV) (o : VO) (oo : Option VO) (G : Nat → Option (List D))
theorem y2t : (σ.put t v).get u = if u = t then v else σ.get u := (rfl)
theorem x2t : (σ.new o).get u = σ.get u := (rfl)
theorem w2c : (σ.setO t oo).get u = σ.get u := (rfl)
theorem v2c (args : List SV) : (St.init args).get u = args.getD u .dead := (rfl)
theorem w2q : (σ.put t v).obj u = σ.obj u := (rfl)
theorem v2q : (σ.new o).obj u = if u = σ.next then some o else σ.obj u := (rfl)
theorem w2a : (σ.setO t oo).obj u = if u = t then oo else σ.obj u := (rfl)
theorem v2a (args : List SV) : (St.init args).obj u = none := (rfl)
theorem y2b : (σ.put t v).next = σ.next := (rfl)
theorem x2b : (σ.new o).next = σ.next + 1 := (rfl)
theorem w1n : (σ.setO t oo).next = σ.next := (rfl)
theorem v1n (args : List SV) : (St.init args).next = 0 := (rfl)
theorem ev_t : σ.ev G (.t t) = σ.get t := (rfl)
theorem ev_c : σ.ev G (.c v) = v := (rfl)
theorem ev_g : σ.ev G (.g t) = z1j G t := (rfl)
theorem ev_fn : σ.ev G (.fn t) = .one (.d (.f t [])) := (rfl)
theorem z1n : σ.putO (some t) v = σ.put t v := (rfl)
theorem y1n : σ.putO none v = σ := (rfl)
theorem y2u {α : Type} (a : α) (p : α → Prop) : (∃ r, some a = some r ∧ p r) ↔ p a := by simp
theorem x2u {α : Type} (p : α → Prop) : (∃ r, (none : Option α) = some r ∧ p r) ↔ False := by simp
theorem x2f (b : Bool) : asBool (.one (.d (.b b))) = some b := (rfl)
theorem u2v (k : IntKind) (n : Int) : asInt (.one (.d (.i k n))) = some n := (rfl)
theorem x2v (s : ByteArray) : asStr (.one (.d (.s s))) = some s := (rfl)
theorem u1p (cs : List SC) : asAgg (.agg cs) = some cs := (rfl)
theorem w2v (x : Ptr) : asPtr (.one (.p x)) = some x := (rfl)
theorem v2v (cs : List D) : asPtr (.one (.d (.k cs))) = some (.l cs.length [cs] 0 0) := (rfl)
theorem v1e (c : SC) : (SV.one c).cells? = some [c] := (rfl)
theorem y1p (cs : List SC) : (SV.agg cs).cells? = some cs := (rfl)
end
def bindP {α : Type} (x : Option α) (f : α → Prop) : Prop := ∃ r, x = some r ∧ f r
theorem u1e {α : Type} (a : α) (f : α → Prop) : bindP (some a) f = f a := by simp [bindP]
theorem z1f {α : Type} (f : α → Prop) : bindP (none : Option α) f = False := by simp [bindP]
theorem bindP_congr {α : Type} {x y : Option α} (f : α → Prop) (h : x = y) : bindP x f = bindP y f := by rw [h]
theorem y1f {α β : Type} (x : Option α) (g : α → Option β) (f : β → Prop) : bindP (x.bind g) f = bindP x fun a => bindP (g a) f := by cases x <;> simp [bindP]
theorem v1p {α β : Type} (x : Option α) (g : α → β) (f : β → Prop) : bindP (x.map g) f = bindP x fun a => f (g a) := by cases x <;> simp [bindP]
section
variable (P : Program) (G : Nat → Option (List D)) (Q : Ex → St → Prop) (σ : St)
def stepK (d : Option Nat) (r : List VOper) : St × SV → Prop := fun x => wOps P G r Q (x.1.putO d x.2)
theorem u1z (d : Option Nat) (r : List VOper) (σ' : St) (v : SV) : stepK P G Q d r (σ', v) = wOps P G r Q (σ'.putO d v) := (rfl)
def callK (d : Option Nat) (r : List VOper) : St → SV → Prop := fun σ' v => wOps P G r Q (σ'.putO d v)
theorem w1p (d : Option Nat) (r : List VOper) (σ' : St) (v : SV) : callK P G Q d r σ' v = wOps P G r Q (σ'.putO d v) := (rfl)
def y4l (svs : List SV) (K : St → SV → Prop) (f : SV) : Prop := match f with
 | .one (.c fn caps) => CallV P G fn (svs ++ caps.map fun x => .one (.p x)) σ K
 | .one (.d (.f fn caps)) => CallV P G fn (svs ++ caps.map fun d => .one (.d d)) σ K
 | _ => False
def grdK (d : Option Nat) (op : VOp) (want : Bool) (r : List VOper) : Option Bool → Prop := fun v => if v = some want then wOps P G (⟨d, op, none⟩ :: r) Q σ else wOps P G r Q (σ.putO d .und)
theorem x2s (d op r) : grdK P G Q σ d op true r (some true) = wOps P G (⟨d, op, none⟩ :: r) Q σ := by simp [grdK]
theorem u2s (d op r) : grdK P G Q σ d op false r (some false) = wOps P G (⟨d, op, none⟩ :: r) Q σ := by simp [grdK]
theorem w2s (d op r) : grdK P G Q σ d op true r (some false) = wOps P G r Q (σ.putO d .und) := by simp [grdK]
theorem v2s (d op r) : grdK P G Q σ d op false r (some true) = wOps P G r Q (σ.putO d .und) := by simp [grdK]
theorem w3q (d op w r) : grdK P G Q σ d op w r none = wOps P G r Q (σ.putO d .und) := by simp [grdK]
theorem grd_b (b : Bool) : grd (.one (.d (.b b))) = some (some b) := (rfl)
theorem grd_u : grd .und = some none := (rfl)
theorem x1v : wOps P G [] Q σ = Q .normal σ := (rfl)
theorem u1a (d : Option Nat) (op : VOp) (t : Nat) (want : Bool) (r : List VOper) : wOps P G (⟨d, op, some (t, want)⟩ :: r) Q σ = bindP (grd (σ.get t)) (grdK P G Q σ d op want r) := (rfl)
theorem x1k (d : Option Nat) (f : Nat) (args : List Od) (r : List VOper) : wOps P G (⟨d, .call f args, none⟩ :: r) Q σ = CallV P G f (args.map (σ.ev G)) σ (callK P G Q d r) := (rfl)
theorem v4e (d : Option Nat) (f : Od) (args : List Od) (r : List VOper) : wOps P G (⟨d, .callv f args, none⟩ :: r) Q σ = y4l P G σ (args.map (σ.ev G)) (callK P G Q d r) (σ.ev G f) := (rfl)
theorem u5l (svs : List SV) (K : St → SV → Prop) (fn : Nat) (caps : List D) : y4l P G σ svs K (.one (.d (.f fn caps))) = CallV P G fn (svs ++ caps.map fun d => .one (.d d)) σ K := (rfl)
theorem z5m (svs : List SV) (K : St → SV → Prop) (fn : Nat) (caps : List Ptr) : y4l P G σ svs K (.one (.c fn caps)) = CallV P G fn (svs ++ caps.map fun x => .one (.p x)) σ K := (rfl)
theorem u2o (d : Option Nat) (x) (r : List VOper) : wOps P G (⟨d, .mv x, none⟩ :: r) Q σ = bindP (stepF G (.mv x) σ) (stepK P G Q d r) := (rfl)
theorem z1k (d : Option Nat) (c a b) (r : List VOper) : wOps P G (⟨d, .pick c a b, none⟩ :: r) Q σ = bindP (stepF G (.pick c a b) σ) (stepK P G Q d r) := (rfl)
theorem y1b (d : Option Nat) (z) (r : List VOper) : wOps P G (⟨d, .alloc z, none⟩ :: r) Q σ = bindP (stepF G (.alloc z) σ) (stepK P G Q d r) := (rfl)
theorem u1w (d : Option Nat) (n x) (r : List VOper) : wOps P G (⟨d, .box n x, none⟩ :: r) Q σ = bindP (stepF G (.box n x) σ) (stepK P G Q d r) := (rfl)
theorem z1b (d : Option Nat) (z p) (r : List VOper) : wOps P G (⟨d, .build z p, none⟩ :: r) Q σ = bindP (stepF G (.build z p) σ) (stepK P G Q d r) := (rfl)
theorem v1w (d : Option Nat) (s n z p) (r : List VOper) : wOps P G (⟨d, .bsl s n z p, none⟩ :: r) Q σ = bindP (stepF G (.bsl s n z p) σ) (stepK P G Q d r) := (rfl)
theorem y2p (d : Option Nat) (g n a) (r : List VOper) : wOps P G (⟨d, .ld g n a, none⟩ :: r) Q σ = bindP (stepF G (.ld g n a) σ) (stepK P G Q d r) := (rfl)
theorem w2o (d : Option Nat) (n a x) (r : List VOper) : wOps P G (⟨d, .st n a x, none⟩ :: r) Q σ = bindP (stepF G (.st n a x) σ) (stepK P G Q d r) := (rfl)
theorem u2p (d : Option Nat) (o x) (r : List VOper) : wOps P G (⟨d, .fa o x, none⟩ :: r) Q σ = bindP (stepF G (.fa o x) σ) (stepK P G Q d r) := (rfl)
theorem v2p (d : Option Nat) (g o n x) (r : List VOper) : wOps P G (⟨d, .fl g o n x, none⟩ :: r) Q σ = bindP (stepF G (.fl g o n x) σ) (stepK P G Q d r) := (rfl)
theorem w2p (d : Option Nat) (s x i) (r : List VOper) : wOps P G (⟨d, .ia s x i, none⟩ :: r) Q σ = bindP (stepF G (.ia s x i) σ) (stepK P G Q d r) := (rfl)
theorem x2p (d : Option Nat) (x i) (r : List VOper) : wOps P G (⟨d, .ix x i, none⟩ :: r) Q σ = bindP (stepF G (.ix x i) σ) (stepK P G Q d r) := (rfl)
theorem v2o (d : Option Nat) (s x l h) (r : List VOper) : wOps P G (⟨d, .sl s x l h, none⟩ :: r) Q σ = bindP (stepF G (.sl s x l h) σ) (stepK P G Q d r) := (rfl)
theorem z1v (d : Option Nat) (x l h) (r : List VOper) : wOps P G (⟨d, .sls x l h, none⟩ :: r) Q σ = bindP (stepF G (.sls x l h) σ) (stepK P G Q d r) := (rfl)
theorem x5a (d : Option Nat) (n z x l h) (r : List VOper) : wOps P G (⟨d, .sla n z x l h, none⟩ :: r) Q σ = bindP (stepF G (.sla n z x l h) σ) (stepK P G Q d r) := (rfl)
theorem z1x (d : Option Nat) (k o x y) (r : List VOper) : wOps P G (⟨d, .bin k o x y, none⟩ :: r) Q σ = bindP (stepF G (.bin k o x y) σ) (stepK P G Q d r) := (rfl)
theorem y1w (d : Option Nat) (n k x y) (r : List VOper) : wOps P G (⟨d, .eqs n k x y, none⟩ :: r) Q σ = bindP (stepF G (.eqs n k x y) σ) (stepK P G Q d r) := (rfl)
theorem x2o (d : Option Nat) (o x) (r : List VOper) : wOps P G (⟨d, .un o x, none⟩ :: r) Q σ = bindP (stepF G (.un o x) σ) (stepK P G Q d r) := (rfl)
theorem x4r (d : Option Nat) (o : Bool) (x) (r : List VOper) : wOps P G (⟨d, .inil o x, none⟩ :: r) Q σ = bindP (stepF G (.inil o x) σ) (stepK P G Q d r) := (rfl)
theorem x1w (d : Option Nat) (k x) (r : List VOper) : wOps P G (⟨d, .cvi k x, none⟩ :: r) Q σ = bindP (stepF G (.cvi k x) σ) (stepK P G Q d r) := (rfl)
theorem w1w (d : Option Nat) (x) (r : List VOper) : wOps P G (⟨d, .cid x, none⟩ :: r) Q σ = bindP (stepF G (.cid x) σ) (stepK P G Q d r) := (rfl)
def lenK (d : Option Nat) (r : List VOper) : Nat → Prop := fun n => n ≤ maxLen → wOps P G r Q (σ.putO d (.one (.d (.i .i64 (n : Int)))))
theorem w2b (d : Option Nat) (r : List VOper) (n : Nat) : lenK P G Q σ d r n = (n ≤ maxLen → wOps P G r Q (σ.putO d (.one (.d (.i .i64 (n : Int)))))) := (rfl)
theorem u1v (d : Option Nat) (x) (r : List VOper) : wOps P G (⟨d, .len x, none⟩ :: r) Q σ = bindP (σ.lenV (σ.ev G x).ur) (lenK P G Q σ d r) := (rfl)
theorem y1k (d : Option Nat) (x) (r : List VOper) : wOps P G (⟨d, .lens x, none⟩ :: r) Q σ = bindP (stepF G (.lens x) σ) (stepK P G Q d r) := (rfl)
theorem w5a (d : Option Nat) (s x y) (r : List VOper) : wOps P G (⟨d, .cpy s x y, none⟩ :: r) Q σ = bindP (stepF G (.cpy s x y) σ) (stepK P G Q d r) := (rfl)
theorem y1x (d : Option Nat) (s b x y) (r : List VOper) : wOps P G (⟨d, .app s b x y, none⟩ :: r) Q σ = bindP (stepF G (.app s b x y) σ) (stepK P G Q d r) := (rfl)
theorem w1v (d : Option Nat) (s b z l c) (r : List VOper) : wOps P G (⟨d, .mks s b z l c, none⟩ :: r) Q σ = bindP (stepF G (.mks s b z l c) σ) (stepK P G Q d r) := (rfl)
theorem v1v (d : Option Nat) (f c) (r : List VOper) : wOps P G (⟨d, .mkf f c, none⟩ :: r) Q σ = bindP (stepF G (.mkf f c) σ) (stepK P G Q d r) := (rfl)
theorem z1w (d : Option Nat) (x i) (r : List VOper) : wOps P G (⟨d, .ext x i, none⟩ :: r) Q σ = bindP (stepF G (.ext x i) σ) (stepK P G Q d r) := (rfl)
theorem x0v (d : Option Nat) (x) (r : List VOper) : wOps P G (⟨d, .nilchk x, none⟩ :: r) Q σ = bindP (stepF G (.nilchk x) σ) (stepK P G Q d r) := (rfl)
def nilK (d : Option Nat) (r : List VOper) (neg : Bool) : Nat → Prop := fun n => if n = 0 then ∀ b : Bool, wOps P G r Q (σ.putO d (.one (.d (.b b)))) else wOps P G r Q (σ.putO d (.one (.d (.b neg))))
theorem y3a (d : Option Nat) (r : List VOper) (neg : Bool) (n : Nat) : nilK P G Q σ d r neg n = if n = 0 then ∀ b : Bool, wOps P G r Q (σ.putO d (.one (.d (.b b)))) else wOps P G r Q (σ.putO d (.one (.d (.b neg)))) := (rfl)
theorem v1a (d : Option Nat) (neg x) (r : List VOper) : wOps P G (⟨d, .isnil neg x, none⟩ :: r) Q σ = bindP (σ.lenV (σ.ev G x)) (nilK P G Q σ d r neg) := (rfl)
theorem y1v (d : Option Nat) (s x l h m) (r : List VOper) : wOps P G (⟨d, .sl3 s x l h m, none⟩ :: r) Q σ = bindP (stepF G (.sl3 s x l h m) σ) (stepK P G Q d r) := (rfl)
theorem y3w (d : Option Nat) (n s x i) (r : List VOper) : wOps P G (⟨d, .iaa n s x i, none⟩ :: r) Q σ = bindP (stepF G (.iaa n s x i) σ) (stepK P G Q d r) := (rfl)
theorem u4r (d : Option Nat) (n x) (r : List VOper) : wOps P G (⟨d, .boxk n x, none⟩ :: r) Q σ = bindP (stepF G (.boxk n x) σ) (stepK P G Q d r) := (rfl)
theorem v4s (d : Option Nat) (s b x y) (r : List VOper) : wOps P G (⟨d, .appq s b x y, none⟩ :: r) Q σ = bindP (stepF G (.appq s b x y) σ) (stepK P G Q d r) := (rfl)
theorem w4s (d : Option Nat) (s b x y) (r : List VOper) : wOps P G (⟨d, .appr s b x y, none⟩ :: r) Q σ = bindP (stepF G (.appr s b x y) σ) (stepK P G Q d r) := (rfl)
theorem room_lk {c : VCode} (t id off len sz : Nat) (rows : List (List D)) (fz : Bool) (h1 : σ.get t = .one (.r id off len)) (h2 : σ.obj id = some (.arr sz rows fz)) (h : ∀ cp, len ≤ cp → cp ≤ maxLen → wpv P G c Q (σ.put t (.one (.rc id off len cp)))) : wpv P G (.room t c) Q σ := ⟨id, off, len, sz, rows, fz, h1, h2, h⟩
theorem u4s (d : Option Nat) (s b n y) (r : List VOper) : wOps P G (⟨d, .appf s b n y, none⟩ :: r) Q σ = bindP (stepF G (.appf s b n y) σ) (stepK P G Q d r) := (rfl)
theorem v4r (d : Option Nat) (s n z ps) (r : List VOper) : wOps P G (⟨d, .bslf s n z ps, none⟩ :: r) Q σ = bindP (stepF G (.bslf s n z ps) σ) (stepK P G Q d r) := (rfl)
theorem w4r (d : Option Nat) (s n z ps) (r : List VOper) : wOps P G (⟨d, .bslw s n z ps, none⟩ :: r) Q σ = bindP (σ.bslW G s n z ps) (stepK P G Q d r) := (rfl)
theorem x3w (d : Option Nat) (T e) (r : List VOper) : wOps P G (⟨d, .allocb T e, none⟩ :: r) Q σ = stepK P G Q d r (σ.new (.bld T e []), .one (.p (.q σ.next 0 0))) := (rfl)
theorem x4s (d : Option Nat) (b x y) (r : List VOper) : wOps P G (⟨d, .apps b x y, none⟩ :: r) Q σ = bindP (σ.apps b (σ.ev G y) (σ.ev G x).ur) (stepK P G Q d r) := (rfl)
theorem y4s (d : Option Nat) (s b x y) (r : List VOper) : wOps P G (⟨d, .appw s b x y, none⟩ :: r) Q σ = bindP (σ.appW s b (σ.ev G y) (σ.ev G x)) (stepK P G Q d r) := (rfl)
theorem gho_lk {c : VCode} (gs : List GC) (h : wpv P G c Q (σ.frz gs)) : wpv P G (.gho c) Q σ := ⟨gs, h⟩
theorem z5b (d : Option Nat) (x) (r : List VOper) : wOps P G (⟨d, .b2s x, none⟩ :: r) Q σ = bindP (stepF G (.b2s x) σ) (stepK P G Q d r) := (rfl)
theorem u5a (d : Option Nat) (x) (r : List VOper) : wOps P G (⟨d, .cap x, none⟩ :: r) Q σ = bindP (stepF G (.cap x) σ) (stepK P G Q d r) := (rfl)
theorem z4s (d : Option Nat) (sz b z x n) (r : List VOper) : wOps P G (⟨d, .appz sz b z x n, none⟩ :: r) Q σ = bindP (stepF G (.appz sz b z x n) σ) (stepK P G Q d r) := (rfl)
theorem v5a (d : Option Nat) (sz z x) (r : List VOper) : wOps P G (⟨d, .clr sz z x, none⟩ :: r) Q σ = bindP (stepF G (.clr sz z x) σ) (stepK P G Q d r) := (rfl)
theorem z2p (d : Option Nat) (m x y) (r : List VOper) : wOps P G (⟨d, .mm m x y, none⟩ :: r) Q σ = bindP (stepF G (.mm m x y) σ) (stepK P G Q d r) := (rfl)
def seqQ (b : VCode) : Ex → St → Prop := fun e σ' => match e with | .normal => wpv P G b Q σ' | e => Q e σ'
def blkQ (id : Nat) : Ex → St → Prop := fun e σ' => match e with | .exit n => if n = id then Q .normal σ' else Q (.exit n) σ' | e => Q e σ'
def seqO (l : List VOper) : Ex → St → Prop := fun e σ' => match e with | .normal => wOps P G l Q σ' | _ => False
def seqF (o : VOper) (l : List VOper) : Ex → St → Prop := fun e σ' => match e with | .normal => v2f P G o l Q σ' | _ => False
def tailQ (o : VOper) (r : List VOper) : Ex → St → Prop := fun e σ' => match e with | .normal => chkF G o σ' ∧ wOps P G r Q σ' | _ => False
theorem seqF_n (o : VOper) (l : List VOper) : seqF P G Q o l .normal σ = v2f P G o l Q σ := (rfl)
theorem seqO_n (l : List VOper) : seqO P G Q l .normal σ = wOps P G l Q σ := (rfl)
theorem w3m (b : VCode) : seqQ P G Q b .normal σ = wpv P G b Q σ := (rfl)
theorem v3m (b : VCode) (n : Nat) : seqQ P G Q b (.exit n) σ = Q (.exit n) σ := (rfl)
theorem x3m (b : VCode) : seqQ P G Q b .ret σ = Q .ret σ := (rfl)
theorem v3t (id : Nat) : blkQ Q id .normal σ = Q .normal σ := (rfl)
theorem u3t (id n : Nat) : blkQ Q id (.exit n) σ = if n = id then Q .normal σ else Q (.exit n) σ := (rfl)
theorem w3t (id : Nat) : blkQ Q id .ret σ = Q .ret σ := (rfl)
theorem y1u : wpv P G .skip Q σ = Q .normal σ := (rfl)
theorem z2o : wpv P G .ret Q σ = Q .ret σ := (rfl)
theorem x1u (n : Nat) : wpv P G (.exit n) Q σ = Q (.exit n) σ := (rfl)
theorem y2o (ops : List VOper) : wpv P G (.reg ops) Q σ = wOps P G ops Q σ := (rfl)
theorem x4e (l : List (List VOper)) : wpv P G (.orders l) Q σ = wAll P G l Q σ := (rfl)
theorem y5b : wAll P G [] Q σ = True := (rfl)
theorem u4t (o : List VOper) (l : List (List VOper)) : wAll P G (o :: l) Q σ = (wOps P G o Q σ ∧ wAll P G l Q σ) := (rfl)
theorem u2n (a b : VCode) : wpv P G (.seq a b) Q σ = wpv P G a (seqQ P G Q b) σ := (rfl)
theorem u1j (id : Nat) (c : VCode) : wpv P G (.block id c) Q σ = wpv P G c (blkQ Q id) σ := (rfl)
def condK (x y : VCode) : Bool → Prop := fun t => if t = true then wpv P G x Q σ else wpv P G y Q σ
theorem u2u (x y : VCode) : condK P G Q σ x y true = wpv P G x Q σ := by simp [condK]
theorem z2v (x y : VCode) : condK P G Q σ x y false = wpv P G y Q σ := by simp [condK]
theorem v1u (c : Od) (x y : VCode) : wpv P G (.cond c x y) Q σ = bindP (asBool (σ.ev G c)) (condK P G Q σ x y) := (rfl)
def loopQ {A : Type} (J : A → Prop) (sl : A → List (Nat × SV)) (ob : A → List (Option VO)) : Ex → St → Prop := fun e σ'' => match e with | .normal => ∃ a, J a ∧ Wk σ'' (sl a) (ob a) | e => Q e σ''
theorem loopQ_n {A : Type} (J : A → Prop) (sl ob) : loopQ Q J sl ob .normal σ = ∃ a, J a ∧ Wk σ (sl a) (ob a) := (rfl)
theorem w2r {A : Type} (J : A → Prop) (sl ob) (m : Nat) : loopQ Q J sl ob (.exit m) σ = Q (.exit m) σ := (rfl)
theorem x2r {A : Type} (J : A → Prop) (sl ob) : loopQ Q J sl ob .ret σ = Q .ret σ := (rfl)
theorem wpv_loopQ {A : Type} (J : A → Prop) (sl ob) (c : VCode) (h : wpv P G c (loopQ Q J sl ob) σ) : wpv P G c (fun e σ'' => match e with | .normal => ∃ a, J a ∧ Wk σ'' (sl a) (ob a) | e => Q e σ'') σ := h
theorem v4c (op : VOp) {K K' : St → SV → Prop} (hk : ∀ σ v, K σ v → K' σ v) (h : dOp P G op σ K) : dOp P G op σ K' := by
 cases op
 case call f args => obtain ⟨res, v, h1, h2⟩ := h; exact ⟨res, v, h1, hk _ _ h2⟩
 case callv => exact h.elim
 case isnil => exact h.elim
 all_goals
  obtain ⟨r, e, h⟩ := h
  exact ⟨r, e, hk _ _ h⟩
theorem y1s {Q Q' : Ex → St → Prop} (hq : ∀ e σ, Q e σ → Q' e σ) (base : Nat) : ∀ (ds : List DOper) (i : Nat) (σ : St), wDraw P G base i ds Q σ → wDraw P G base i ds Q' σ := by
 intro ds
 induction ds with
 | nil => intro i σ h; exact hq _ _ h
 | cons d r ih =>
  intro i σ h
  simp only [wDraw] at h ⊢
  split at h
  ·exact ⟨h.1, v4c P G _ _ (fun σ v h => ih _ _ h) h.2⟩
  ·obtain ⟨hck, v, hv, h⟩ := h
   refine ⟨hck, v, hv, ?_⟩
   split at h
   ·rename_i hvw; rw [if_pos hvw]; exact ⟨h.1, v4c P G _ _ (fun σ v h => ih _ _ h) h.2⟩
   ·rename_i hvw; rw [if_neg hvw]; exact ih _ _ h
theorem z3v {Q Q' : Ex → St → Prop} : ∀ (c : VCode) (σ : St), (∀ e σ, Q e σ → Q' e σ) → wpv P G c Q σ → wpv P G c Q' σ := by
 intro c
 induction c generalizing Q Q' with
 | skip => intro σ hq h; exact hq _ _ h
 | ret => intro σ hq h; exact hq _ _ h
 | exit n => intro σ hq h; exact hq _ _ h
 | reg ops => intro σ hq h; exact x0k hq _ _ h
 | drawt m ops =>
  intro σ hq h
  simp only [wpv] at h ⊢
  by_cases hm : m < 1000
  ·rw [if_pos hm] at h ⊢
   refine y1s P G (fun e σ h => ?_) _ _ _ _ h
   cases e with
   | normal => exact x0k hq _ _ h
   | _ => exact h
  ·rw [if_neg hm] at h ⊢
   refine y1s P G (fun e σ h => ?_) _ _ _ _ h
   cases e with
   | normal =>
    generalize (ops.drop (m % 1000)).map DOper.o = l at h ⊢
    cases l with
    | nil => exact h
    | cons x r => exact x0k (fun e σ h => by
     cases e with
     | normal => exact ⟨h.1, x0k hq _ _ h.2⟩
     | _ => exact h) _ _ h
   | _ => exact h
 | draw ops => intro σ hq h; exact y1s P G hq _ _ _ _ h
 | seq a b iha ihb =>
  intro σ hq h
  refine iha σ ?_ h
  intro e σ' h'
  cases e with
  | normal => exact ihb σ' hq h'
  | exit n => exact hq _ _ h'
  | ret => exact hq _ _ h'
 | cond c x y ihx ihy =>
  intro σ hq h
  obtain ⟨t, ht, h⟩ := h
  refine ⟨t, ht, ?_⟩
  split at h
  ·rename_i e; rw [if_pos e]; exact ihx σ hq h
  ·rename_i e; rw [if_neg e]; exact ihy σ hq h
 | block id c ih =>
  intro σ hq h
  refine ih σ ?_ h
  intro e σ' h'
  cases e with
  | normal => exact hq _ _ h'
  | exit n =>
   simp only at h' ⊢
   split at h'
   ·rename_i e; rw [if_pos e]; exact hq _ _ h'
   ·rename_i e; rw [if_neg e]; exact hq _ _ h'
  | ret => exact hq _ _ h'
 | loop c ih =>
  intro σ hq h
  obtain ⟨I, n, h0, hs⟩ := h
  refine ⟨I, n, h0, fun n σ' hi => ih σ' ?_ (hs n σ' hi)⟩
  intro e σ'' h'
  cases e with
  | normal => exact h'
  | exit n => exact hq _ _ h'
  | ret => exact hq _ _ h'
 | room t c ih =>
  intro σ hq h
  obtain ⟨id, off, len, sz, rows, fz, h1, h2, h⟩ := h
  exact ⟨id, off, len, sz, rows, fz, h1, h2, fun cp h3 h4 => ih _ hq (h cp h3 h4)⟩
 | orders l =>
  intro σ hq h
  have : ∀ (l : List (List VOper)), wAll P G l Q σ → wAll P G l Q' σ := by
   intro l
   induction l with
   | nil => intro h; exact trivial
   | cons o r ih => intro h; exact ⟨x0k hq _ _ h.1, ih h.2⟩
  exact this l h
 | regs l =>
  intro σ hq h
  have : ∀ (l : List (List VOper)) (σ : St), wRegs P G l Q σ → wRegs P G l Q' σ := by
   intro l
   induction l with
   | nil => intro σ h; exact hq _ _ h
   | cons o r ih =>
    intro σ h
    cases r with
    | nil => exact x0k hq _ _ h
    | cons b r =>
     refine x0k ?_ _ _ h
     intro e σ' h'
     cases e with
     | normal => obtain ⟨sl, ob, h1, h2⟩ := h'; exact ⟨sl, ob, h1, ih _ h2⟩
     | exit n => exact h'
     | ret => exact h'
  exact this l σ h
 | gho c ih =>
  intro σ hq h
  obtain ⟨gs, h⟩ := h
  exact ⟨gs, ih _ hq h⟩
 | pre c ih =>
  intro σ hq h
  obtain ⟨sl, ob, h1, h2⟩ := h
  exact ⟨sl, ob, h1, ih _ hq h2⟩
 | wk c ih =>
  intro σ hq h
  refine ih σ ?_ h
  intro e σ' h'
  cases e with
  | normal => obtain ⟨sl, ob, h1, h2⟩ := h'; exact ⟨sl, ob, h1, hq _ _ h2⟩
  | exit n => exact hq _ _ h'
  | ret => exact hq _ _ h'
theorem y1o {A : Type} {c : VCode} (J : Nat → A → Prop) (sl : A → List (Nat × SV)) (ob : A → List (Option VO)) (n0 : Nat) (a0 : A) (h0 : J n0 a0) (hw : Wk σ (sl a0) (ob a0)) (hz : ∀ a, ¬ J 0 a)
 (hs : ∀ n a, J (n + 1) a → wpv P G c (loopQ Q (J n) sl ob) (St.of (sl a) (ob a))) : wpv P G (.loop c) Q σ := by
 refine ⟨fun n σ' => ∃ a, J n a ∧ σ' = St.of (sl a) (ob a), n0, .inr ⟨_, _, hw, a0, h0, rfl⟩, ?_⟩
 rintro n σ' ⟨a, hj, rfl⟩
 cases n with
 | zero => exact absurd hj (hz a)
 | succ n =>
  refine z3v (Q := loopQ Q (J n) sl ob) P G _ _ ?_ (hs n a hj)
  intro e σ' h
  cases e with
  | normal => obtain ⟨a', h1, h2⟩ := h; exact ⟨n, Nat.lt_succ_self n, .inr ⟨_, _, h2, a', h1, rfl⟩⟩
  | exit n => exact h
  | ret => exact h
def joinQ {B : Type} (J : B → Prop) (sl : B → List (Nat × SV)) (ob : B → List (Option VO)) : Ex → St → Prop := fun e σ'' => match e with | .normal => ∃ b, J b ∧ Wk σ'' (sl b) (ob b) | e => Q e σ''
theorem joinQ_n {A : Type} (J : A → Prop) (sl ob) : joinQ Q J sl ob .normal σ = ∃ a, J a ∧ Wk σ (sl a) (ob a) := (rfl)
theorem u2r {A : Type} (J : A → Prop) (sl ob) (m : Nat) : joinQ Q J sl ob (.exit m) σ = Q (.exit m) σ := (rfl)
theorem v2r {A : Type} (J : A → Prop) (sl ob) : joinQ Q J sl ob .ret σ = Q .ret σ := (rfl)
theorem y0w {B : Type} {a b : List VOper} {r : List (List VOper)} (J : B → Prop) (sl : B → List (Nat × SV)) (ob : B → List (Option VO)) (h1 : wOps P G a (joinQ (fun _ _ => False) J sl ob) σ) (h2 : ∀ x, J x → wRegs P G (b :: r) Q (St.of (sl x) (ob x))) : wRegs P G (a :: b :: r) Q σ := by
 show wOps P G a _ σ
 refine x0k (Q := joinQ (fun _ _ => False) J sl ob) ?_ a σ h1
 intro e σ' h
 cases e with
 | normal => obtain ⟨b, hb, hw⟩ := h; exact ⟨_, _, hw, h2 b hb⟩
 | exit n => exact h
 | ret => exact h
theorem z5a (l : List (List VOper)) : wpv P G (.regs l) Q σ = wRegs P G l Q σ := (rfl)
theorem y4r (a : List VOper) : wRegs P G [a] Q σ = wOps P G a Q σ := (rfl)
theorem v0w {B : Type} {c : VCode} (J : B → Prop) (sl : B → List (Nat × SV)) (ob : B → List (Option VO)) (h1 : wpv P G c (joinQ Q J sl ob) σ) (h2 : ∀ b, J b → Q .normal (St.of (sl b) (ob b))) : wpv P G (.wk c) Q σ := by
 show wpv P G c _ σ
 refine z3v (Q := joinQ Q J sl ob) P G c σ ?_ h1
 intro e σ' h
 cases e with
 | normal => obtain ⟨b, hb, hw⟩ := h; exact ⟨_, _, hw, h2 b hb⟩
 | exit n => exact h
 | ret => exact h
theorem v3q (sl ob) (t : Nat) : (St.of sl ob).get t = lookS sl t := (rfl)
theorem w3o (sl ob) (u : Nat) : (St.of sl ob).obj u = (ob[u]?).join := (rfl)
theorem u2q (sl ob) : (St.of sl ob).next = ob.length := (rfl)
theorem joinQ_i {Q : Ex → St → Prop} {σ : St} {B : Type} {J : B → Prop} {sl ob} (b : B) (hb : J b) (rn : List (Option Nat)) (h1 : zu rn = true) (h2 : yo rn σ (sl b)) (h3 : vq rn σ (ob b) rn) : joinQ Q J sl ob .normal σ := ⟨b, hb, rn, [], h1, h2, h3⟩
theorem loopQ_i {Q : Ex → St → Prop} {σ : St} {B : Type} {J : B → Prop} {sl ob} (b : B) (hb : J b) (rn : List (Option Nat)) (h1 : zu rn = true) (h2 : yo rn σ (sl b)) (h3 : vq rn σ (ob b) rn) : loopQ Q J sl ob .normal σ := ⟨b, hb, rn, [], h1, h2, h3⟩
theorem wk_i (σ : St) (sl ob) (rn : List (Option Nat)) (h1 : zu rn = true) (h2 : yo rn σ sl) (h3 : vq rn σ ob rn) : Wk σ sl ob := ⟨rn, [], h1, h2, h3⟩
theorem joinQ_f {Q : Ex → St → Prop} {σ : St} {B : Type} {J : B → Prop} {sl ob} (fs : List GC) (b : B) (hb : J b) (rn : List (Option Nat)) (h1 : zu rn = true) (h2 : yo rn (σ.frz fs) (sl b)) (h3 : vq rn (σ.frz fs) (ob b) rn) : joinQ Q J sl ob .normal σ := ⟨b, hb, rn, fs, h1, h2, h3⟩
theorem loopQ_f {Q : Ex → St → Prop} {σ : St} {B : Type} {J : B → Prop} {sl ob} (fs : List GC) (b : B) (hb : J b) (rn : List (Option Nat)) (h1 : zu rn = true) (h2 : yo rn (σ.frz fs) (sl b)) (h3 : vq rn (σ.frz fs) (ob b) rn) : loopQ Q J sl ob .normal σ := ⟨b, hb, rn, fs, h1, h2, h3⟩
theorem wk_f (σ : St) (sl ob) (fs : List GC) (rn : List (Option Nat)) (h1 : zu rn = true) (h2 : yo rn (σ.frz fs) sl) (h3 : vq rn (σ.frz fs) ob rn) : Wk σ sl ob := ⟨rn, fs, h1, h2, h3⟩
theorem joinQ_c {Q : Ex → St → Prop} {σ : St} {B : Type} {J : B → Prop} {sl ob} (b : B) (hb : J b) (rn : List (Option Nat)) (h1 : zu rn = true) (h2 : yo rn σ (sl b) ∧ vq rn σ (ob b) rn) : joinQ Q J sl ob .normal σ := ⟨b, hb, rn, [], h1, h2.1, h2.2⟩
theorem loopQ_c {Q : Ex → St → Prop} {σ : St} {B : Type} {J : B → Prop} {sl ob} (b : B) (hb : J b) (rn : List (Option Nat)) (h1 : zu rn = true) (h2 : yo rn σ (sl b) ∧ vq rn σ (ob b) rn) : loopQ Q J sl ob .normal σ := ⟨b, hb, rn, [], h1, h2.1, h2.2⟩
theorem wk_c (σ : St) (sl ob) (rn : List (Option Nat)) (h1 : zu rn = true) (h2 : yo rn σ sl ∧ vq rn σ ob rn) : Wk σ sl ob := ⟨rn, [], h1, h2.1, h2.2⟩
theorem loopQ_fc {Q : Ex → St → Prop} {σ : St} {B : Type} {J : B → Prop} {sl ob} (fs : List GC) (b : B) (hb : J b) (rn : List (Option Nat)) (h1 : zu rn = true) (h2 : yo rn (σ.frz fs) (sl b) ∧ vq rn (σ.frz fs) (ob b) rn) : loopQ Q J sl ob .normal σ := ⟨b, hb, rn, fs, h1, h2.1, h2.2⟩
theorem wk_fc (fs : List GC) (σ : St) (sl ob) (rn : List (Option Nat)) (h1 : zu rn = true) (h2 : yo rn (σ.frz fs) sl ∧ vq rn (σ.frz fs) ob rn) : Wk σ sl ob := ⟨rn, fs, h1, h2.1, h2.2⟩
theorem joinQ_fc {Q : Ex → St → Prop} {σ : St} {B : Type} {J : B → Prop} {sl ob} (fs : List GC) (b : B) (hb : J b) (rn : List (Option Nat)) (h1 : zu rn = true) (h2 : yo rn (σ.frz fs) (sl b) ∧ vq rn (σ.frz fs) (ob b) rn) : joinQ Q J sl ob .normal σ := ⟨b, hb, rn, fs, h1, h2.1, h2.2⟩
theorem z5g {c : VCode} (sl : List (Nat × SV)) (ob : List (Option VO)) (fs : List GC) (rn : List (Option Nat)) (h1 : zu rn = true) (h2 : yo rn (σ.frz fs) sl) (h3 : vq rn (σ.frz fs) ob rn) (h : wpv P G c Q (St.of sl ob)) : wpv P G (.pre c) Q σ := ⟨sl, ob, ⟨rn, fs, h1, h2, h3⟩, h⟩
/-! ### In step with a function that is plain -/
theorem condK_lk {R : Type} {t1 t2 : Option R} {r : R} {x y : VCode} {b : Bool} (h : (if b = true then t1 else t2) = some r) (ht : b = true → t1 = some r → wpv P G x Q σ) (hf : b = false → t2 = some r → wpv P G y Q σ) : condK P G Q σ x y b := by
 cases b with
 | true => rw [if_pos rfl] at h; simp only [condK, ↓reduceIte]; exact ht rfl h
 | false => rw [if_neg (by simp)] at h; simp only [condK, Bool.false_eq_true, ↓reduceIte]; exact hf rfl h
theorem grdK_lk {R : Type} {t1 t2 : Option R} {r : R} {d : Option Nat} {op : VOp} {want : Bool} {rest : List VOper} {b : Bool} (h : (if b = true then t1 else t2) = some r) (ht : b = true → t1 = some r → grdK P G Q σ d op want rest (some true)) (hf : b = false → t2 = some r → grdK P G Q σ d op want rest (some false)) : grdK P G Q σ d op want rest (some b) := by
 cases b with
 | true => rw [if_pos rfl] at h; exact ht rfl h
 | false => rw [if_neg (by simp)] at h; exact hf rfl h
theorem ite_lk {A R : Type} {c : Prop} {i1 i2 : Decidable c} {t : Option R} {r : R} {x : Option A} {f : A → Prop} (h : (@ite _ c i1 t none) = some r) (hk : c → t = some r → bindP x f) : bindP (@ite _ c i2 x none) f := by
 by_cases hc : c
 ·rw [if_pos hc] at h ⊢; exact hk hc h
 ·rw [if_neg hc] at h; cases h
theorem of_if {R : Type} {t1 t2 : Option R} {r : R} {b : Bool} (h : (if b = true then t1 else t2) = some r) : (b = true ∧ t1 = some r) ∨ (b = false ∧ t2 = some r) := by
 cases b with
 | true => exact .inl ⟨rfl, by simpa using h⟩
 | false => exact .inr ⟨rfl, by simpa using h⟩
theorem x3o {R : Type} {c : Prop} [Decidable c] {t : Option R} {r : R} (h : (if c then t else none) = some r) : c ∧ t = some r := by
 by_cases hc : c
 ·rw [if_pos hc] at h; exact ⟨hc, h⟩
 ·rw [if_neg hc] at h; cases h
theorem u4m {R : Type} {c : Prop} [Decidable c] {t : Option R} {r : R} (h : (if c then none else t) = some r) : ¬ c ∧ t = some r := by
 by_cases hc : c
 ·rw [if_pos hc] at h; cases h
 ·rw [if_neg hc] at h; exact ⟨hc, h⟩
theorem w5h {b : Bool} (h : (!b) = true) : b = false := by cases b <;> simp_all
theorem v5h {b : Bool} (h : (!b) = false) : b = true := by cases b <;> simp_all
theorem get_lk {A B R : Type} {x : Option A} {t : A → Option R} {r : R} {g : A → Option B} {f : B → Prop} (h : x.bind t = some r) (hk : ∀ a, x = some a → t a = some r → bindP (g a) f) : bindP (x.bind g) f := by
 cases x with
 | none => cases h
 | some a => exact hk a rfl h
end
def St.nx (σ : St) (k : Nat) : St := ⟨σ.slots, σ.objs, k⟩
section
variable (P : Program) (G : Nat → Option (List D)) (Q : Ex → St → Prop) (σ σ' : St) (base i k u t : Nat) (hid : List Nat) (prv : Option Nat) (hido : List Nat)
theorem u3q : (σ.nx k).get t = σ.get t := (rfl)
theorem v3o : (σ.nx k).obj u = σ.obj u := (rfl)
theorem z2r : (σ.nx k).next = k := (rfl)
theorem z2q : σ.vis base i [] [] = σ.nx (base + i) := by simp [St.vis, isHid, St.nx]
theorem z2t : (σ.vis base i hid hido).get t = σ.get t := (rfl)
theorem x2q : (σ.vis base i hid hido).obj u = if isHid base hid hido u = true then none else σ.obj u := (rfl)
theorem z2b : (σ.vis base i hid hido).next = base + i := (rfl)
theorem y2f : σ.back base [] [] σ' = σ' := by cases σ'; simp [St.back, isHid]
theorem u2c : (σ.back base hid hido σ').get t = σ'.get t := (rfl)
theorem u2a : (σ.back base hid hido σ').obj u = if isHid base hid hido u = true then σ.obj u else σ'.obj u := (rfl)
theorem u1n : (σ.back base hid hido σ').next = σ'.next := (rfl)
theorem w1o : isHid base [] hido u = hido.contains u := (rfl)
theorem y1e (h : Nat) : isHid base (h :: hid) hido u = (base + h == u || isHid base hid hido u) := by simp [isHid, Bool.or_assoc]
def drawK (d : Option Nat) (r : List DOper) : St × SV → Prop := fun x => wDraw P G base (i + 1) r Q ((σ.back base hid hido x.1).putO d x.2)
theorem w2d (d : Option Nat) (r : List DOper) (v : SV) : drawK P G Q σ base i hid hido d r (σ', v) = wDraw P G base (i + 1) r Q ((σ.back base hid hido σ').putO d v) := (rfl)
def drawG (d : Option Nat) (op : VOp) (want : Bool) (pre : Nat) (r : List DOper) : Option Bool → Prop := fun v => if v = some want then wDraw P G base i (⟨⟨d, op, none⟩, pre, hid, prv, hido⟩ :: r) Q σ else wDraw P G base (i + 1) r Q (σ.putO d .und)
theorem v2d (d op pre r) : drawG P G Q σ base i hid prv hido d op true pre r (some true) = wDraw P G base i (⟨⟨d, op, none⟩, pre, hid, prv, hido⟩ :: r) Q σ := by simp [drawG]
theorem y2e (d op pre r) : drawG P G Q σ base i hid prv hido d op false pre r (some false) = wDraw P G base i (⟨⟨d, op, none⟩, pre, hid, prv, hido⟩ :: r) Q σ := by simp [drawG]
theorem u2d (d op pre r) : drawG P G Q σ base i hid prv hido d op true pre r (some false) = wDraw P G base (i + 1) r Q (σ.putO d .und) := by simp [drawG]
theorem z2e (d op pre r) : drawG P G Q σ base i hid prv hido d op false pre r (some true) = wDraw P G base (i + 1) r Q (σ.putO d .und) := by simp [drawG]
theorem w2u (d op w pre r) : drawG P G Q σ base i hid prv hido d op w pre r none = wDraw P G base (i + 1) r Q (σ.putO d .und) := by simp [drawG]
def x1a (f : Nat) (svs : List SV) (K : Option VO → SV → Prop) : Prop := ∃ res v, CallD P G f svs σ res v ∧ K res v
def drawC (d : Option Nat) (r : List DOper) : Option VO → SV → Prop := fun res v => wDraw P G base (i + 1) r Q ((σ.back base hid hido (addO (σ.vis base i hid hido) res)).putO d v)
theorem u1o (d : Option Nat) (r : List DOper) (res : Option VO) (v : SV) : drawC P G Q σ base i hid hido d r res v = wDraw P G base (i + 1) r Q ((σ.back base hid hido (addO (σ.vis base i hid hido) res)).putO d v) := (rfl)
theorem chkQ_t (K : Prop) : chkQ true K = K := by simp [chkQ]
theorem chkB_n (op : VOp) : chkB G none [] base op σ = true := (rfl)
theorem chkH_n : chkH base none [] = true := (rfl)
theorem chkB_h (h : Nat) (hs : List Nat) (op : VOp) : chkB G none (h :: hs) base op σ = chkH base none (h :: hs) := by simp [chkB]
theorem chkH_c (h : Nat) (hs : List Nat) : chkH base prv (h :: hs) = (!(h == base) && chkH base prv hs) := by simp [chkH, Bool.and_assoc, bne]
theorem chkH_s (h : Nat) : chkH base (some h) [] = decide (h < base) := by simp [chkH]
def ptrU : Option Ptr → Option Nat
 | some (.q u _ _) => some u
 | _ => none
theorem ptrU_q (u i j : Nat) : ptrU (some (.q u i j)) = some u := (rfl)
def baseU : SV → Option Nat
 | .one (.r u _ _) => some u
 | _ => none
theorem baseU_r (u i j : Nat) : baseU (.one (.r u i j)) = some u := (rfl)
theorem w5l (h sz b : Nat) (x y : Od) : chkB G (some h) hido base (.app sz b x y) σ = (chkH base (some h) hido && baseU (σ.ev G x).ur == some h) := (rfl)
theorem y4z (h sz b : Nat) (x y : Od) : chkB G (some h) hido base (.appq sz b x y) σ = (chkH base (some h) hido && baseU (σ.ev G x).ur == some h) := (rfl)
theorem chkB_st (h n : Nat) (a x : Od) : chkB G (some h) hido base (.st n a x) σ = (chkH base (some h) hido && ptrU (asPtr (σ.ev G a)) == some h) := (rfl)
theorem y3l (c : SC) : (SV.one c).ur = .one c.ur := (rfl)
theorem x3l (cs : List SC) : (SV.agg cs).ur = .agg cs := (rfl)
theorem ur_d (d : D) : (SC.d d).ur = .d d := (rfl)
theorem ur_nl (n : Nat) : (SC.nl n).ur = .nl n := (rfl)
theorem ur_r (a b c : Nat) : (SC.r a b c).ur = .r a b c := (rfl)
theorem ur_rc (a b c d : Nat) : (SC.rc a b c d).ur = .r a b c := (rfl)
theorem ur_p (x : Ptr) : (SC.p x).ur = .p x := (rfl)
theorem ur_c (f : Nat) (x : List Ptr) : (SC.c f x).ur = .c f x := (rfl)
theorem ur_dead : SC.dead.ur = .dead := (rfl)
theorem y1q : addO σ none = σ := (rfl)
theorem z1q (o : VO) : addO σ (some o) = σ.new o := (rfl)
theorem v4q (m : Nat) (ops : List DOper) (h : m < 1000) : wpv P G (.drawt m ops) Q σ = wDraw P G σ.next 0 (ops.take m) (seqO P G Q ((ops.drop m).map DOper.o)) σ := by
 simp only [wpv, if_pos h]; rfl
theorem u4q (m : Nat) (ops : List DOper) (h : (m < 1000) = False) : wpv P G (.drawt m ops) Q σ = wDraw P G σ.next 0 (ops.take (m % 1000)) (seqF P G Q (ops.getD (m / 1000 - 1) default).o ((ops.drop (m % 1000)).map DOper.o)) σ := by
 simp only [wpv, if_neg (of_eq_false h)]; rfl
theorem u3v (o x : VOper) (r : List VOper) : v2f P G o (x :: r) Q σ = wOps P G [x] (tailQ P G Q o r) σ := (rfl)
theorem tailQ_n (o : VOper) (r : List VOper) : tailQ P G Q o r .normal σ = (chkF G o σ ∧ wOps P G r Q σ) := (rfl)
theorem chkF_mv (d k : Nat) {u i j : Nat} (h : σ.get k = .one (.p (.q u i j))) (h2 : σ.get d = .one (.p (.q u i j))) (h3 : (σ.obj u).isSome = true) : chkF G ⟨some d, .mv (.t k), none⟩ σ = True := by
 have e : stepF G (.mv (.t k)) σ = some (σ, .one (.p (.q u i j))) := by simp only [stepF]; rw [show σ.ev G (.t k) = σ.get k from rfl, h]
 simp only [chkF, e, Option.map_some, Option.getD_some, h2, h3, and_self]
theorem w1u (ops : List DOper) : wpv P G (.draw ops) Q σ = wDraw P G σ.next 0 ops Q σ := (rfl)
theorem z1l : wDraw P G base i [] Q σ = Q .normal (σ.nx (base + i)) := (rfl)
theorem w0v (d : Option Nat) (op : VOp) (want : Bool) (pre : Nat) (r : List DOper) : wDraw P G base i (⟨⟨d, op, some (t, want)⟩, pre, hid, prv, hido⟩ :: r) Q σ = chkQ (chkH (base + i) prv hido) (bindP (grd (σ.get t)) (drawG P G Q σ base i hid prv hido d op want pre r)) := (rfl)
theorem v1b (d : Option Nat) (f : Nat) (args : List Od) (pre : Nat) (r : List DOper) : wDraw P G base i (⟨⟨d, .call f args, none⟩, pre, hid, prv, hido⟩ :: r) Q σ = chkQ (chkB G prv hido (base + i) (.call f args) (σ.vis base i hid hido)) (x1a P G (σ.vis base i hid hido) f (args.map ((σ.vis base i hid hido).ev G)) (drawC P G Q σ base i hid hido d r)) := (rfl)
theorem u1x (d : Option Nat) (q_x) (pre : Nat) (r : List DOper) : wDraw P G base i (⟨⟨d, .mv q_x, none⟩, pre, hid, prv, hido⟩ :: r) Q σ = chkQ (chkB G prv hido (base + i) (.mv q_x) (σ.vis base i hid hido)) (bindP (stepF G (.mv q_x) (σ.vis base i hid hido)) (drawK P G Q σ base i hid hido d r)) := (rfl)
theorem x1b (d : Option Nat) (q_c q_a q_b) (pre : Nat) (r : List DOper) : wDraw P G base i (⟨⟨d, .pick q_c q_a q_b, none⟩, pre, hid, prv, hido⟩ :: r) Q σ = chkQ (chkB G prv hido (base + i) (.pick q_c q_a q_b) (σ.vis base i hid hido)) (bindP (stepF G (.pick q_c q_a q_b) (σ.vis base i hid hido)) (drawK P G Q σ base i hid hido d r)) := (rfl)
theorem u0v (d : Option Nat) (q_z) (pre : Nat) (r : List DOper) : wDraw P G base i (⟨⟨d, .alloc q_z, none⟩, pre, hid, prv, hido⟩ :: r) Q σ = chkQ (chkB G prv hido (base + i) (.alloc q_z) (σ.vis base i hid hido)) (bindP (stepF G (.alloc q_z) (σ.vis base i hid hido)) (drawK P G Q σ base i hid hido d r)) := (rfl)
theorem w1m (d : Option Nat) (q_n q_x) (pre : Nat) (r : List DOper) : wDraw P G base i (⟨⟨d, .box q_n q_x, none⟩, pre, hid, prv, hido⟩ :: r) Q σ = chkQ (chkB G prv hido (base + i) (.box q_n q_x) (σ.vis base i hid hido)) (bindP (stepF G (.box q_n q_x) (σ.vis base i hid hido)) (drawK P G Q σ base i hid hido d r)) := (rfl)
theorem x4f (d : Option Nat) (q_n q_x) (pre : Nat) (r : List DOper) : wDraw P G base i (⟨⟨d, .boxk q_n q_x, none⟩, pre, hid, prv, hido⟩ :: r) Q σ = chkQ (chkB G prv hido (base + i) (.boxk q_n q_x) (σ.vis base i hid hido)) (bindP (stepF G (.boxk q_n q_x) (σ.vis base i hid hido)) (drawK P G Q σ base i hid hido d r)) := (rfl)
theorem v0v (d : Option Nat) (q_z q_p) (pre : Nat) (r : List DOper) : wDraw P G base i (⟨⟨d, .build q_z q_p, none⟩, pre, hid, prv, hido⟩ :: r) Q σ = chkQ (chkB G prv hido (base + i) (.build q_z q_p) (σ.vis base i hid hido)) (bindP (stepF G (.build q_z q_p) (σ.vis base i hid hido)) (drawK P G Q σ base i hid hido d r)) := (rfl)
theorem x1m (d : Option Nat) (q_s q_n q_z q_p) (pre : Nat) (r : List DOper) : wDraw P G base i (⟨⟨d, .bsl q_s q_n q_z q_p, none⟩, pre, hid, prv, hido⟩ :: r) Q σ = chkQ (chkB G prv hido (base + i) (.bsl q_s q_n q_z q_p) (σ.vis base i hid hido)) (bindP (stepF G (.bsl q_s q_n q_z q_p) (σ.vis base i hid hido)) (drawK P G Q σ base i hid hido d r)) := (rfl)
theorem y1y (d : Option Nat) (q_g q_n q_a) (pre : Nat) (r : List DOper) : wDraw P G base i (⟨⟨d, .ld q_g q_n q_a, none⟩, pre, hid, prv, hido⟩ :: r) Q σ = chkQ (chkB G prv hido (base + i) (.ld q_g q_n q_a) (σ.vis base i hid hido)) (bindP (stepF G (.ld q_g q_n q_a) (σ.vis base i hid hido)) (drawK P G Q σ base i hid hido d r)) := (rfl)
theorem w1x (d : Option Nat) (q_n q_a q_x) (pre : Nat) (r : List DOper) : wDraw P G base i (⟨⟨d, .st q_n q_a q_x, none⟩, pre, hid, prv, hido⟩ :: r) Q σ = chkQ (chkB G prv hido (base + i) (.st q_n q_a q_x) (σ.vis base i hid hido)) (bindP (stepF G (.st q_n q_a q_x) (σ.vis base i hid hido)) (drawK P G Q σ base i hid hido d r)) := (rfl)
theorem u1y (d : Option Nat) (q_o q_x) (pre : Nat) (r : List DOper) : wDraw P G base i (⟨⟨d, .fa q_o q_x, none⟩, pre, hid, prv, hido⟩ :: r) Q σ = chkQ (chkB G prv hido (base + i) (.fa q_o q_x) (σ.vis base i hid hido)) (bindP (stepF G (.fa q_o q_x) (σ.vis base i hid hido)) (drawK P G Q σ base i hid hido d r)) := (rfl)
theorem v1y (d : Option Nat) (q_g q_o q_n q_x) (pre : Nat) (r : List DOper) : wDraw P G base i (⟨⟨d, .fl q_g q_o q_n q_x, none⟩, pre, hid, prv, hido⟩ :: r) Q σ = chkQ (chkB G prv hido (base + i) (.fl q_g q_o q_n q_x) (σ.vis base i hid hido)) (bindP (stepF G (.fl q_g q_o q_n q_x) (σ.vis base i hid hido)) (drawK P G Q σ base i hid hido d r)) := (rfl)
theorem x3h (d : Option Nat) (q_n q_s q_x q_i) (pre : Nat) (r : List DOper) : wDraw P G base i (⟨⟨d, .iaa q_n q_s q_x q_i, none⟩, pre, hid, prv, hido⟩ :: r) Q σ = chkQ (chkB G prv hido (base + i) (.iaa q_n q_s q_x q_i) (σ.vis base i hid hido)) (bindP (stepF G (.iaa q_n q_s q_x q_i) (σ.vis base i hid hido)) (drawK P G Q σ base i hid hido d r)) := (rfl)
theorem z4g (d : Option Nat) (q_s q_b q_n q_y) (pre : Nat) (r : List DOper) : wDraw P G base i (⟨⟨d, .appf q_s q_b q_n q_y, none⟩, pre, hid, prv, hido⟩ :: r) Q σ = chkQ (chkB G prv hido (base + i) (.appf q_s q_b q_n q_y) (σ.vis base i hid hido)) (bindP (stepF G (.appf q_s q_b q_n q_y) (σ.vis base i hid hido)) (drawK P G Q σ base i hid hido d r)) := (rfl)
theorem y4f (d : Option Nat) (q_s q_n q_z q_p) (pre : Nat) (r : List DOper) : wDraw P G base i (⟨⟨d, .bslf q_s q_n q_z q_p, none⟩, pre, hid, prv, hido⟩ :: r) Q σ = chkQ (chkB G prv hido (base + i) (.bslf q_s q_n q_z q_p) (σ.vis base i hid hido)) (bindP (stepF G (.bslf q_s q_n q_z q_p) (σ.vis base i hid hido)) (drawK P G Q σ base i hid hido d r)) := (rfl)
theorem w1y (d : Option Nat) (q_s q_x q_i) (pre : Nat) (r : List DOper) : wDraw P G base i (⟨⟨d, .ia q_s q_x q_i, none⟩, pre, hid, prv, hido⟩ :: r) Q σ = chkQ (chkB G prv hido (base + i) (.ia q_s q_x q_i) (σ.vis base i hid hido)) (bindP (stepF G (.ia q_s q_x q_i) (σ.vis base i hid hido)) (drawK P G Q σ base i hid hido d r)) := (rfl)
theorem x1y (d : Option Nat) (q_x q_i) (pre : Nat) (r : List DOper) : wDraw P G base i (⟨⟨d, .ix q_x q_i, none⟩, pre, hid, prv, hido⟩ :: r) Q σ = chkQ (chkB G prv hido (base + i) (.ix q_x q_i) (σ.vis base i hid hido)) (bindP (stepF G (.ix q_x q_i) (σ.vis base i hid hido)) (drawK P G Q σ base i hid hido d r)) := (rfl)
theorem v1x (d : Option Nat) (q_s q_x q_l q_h) (pre : Nat) (r : List DOper) : wDraw P G base i (⟨⟨d, .sl q_s q_x q_l q_h, none⟩, pre, hid, prv, hido⟩ :: r) Q σ = chkQ (chkB G prv hido (base + i) (.sl q_s q_x q_l q_h) (σ.vis base i hid hido)) (bindP (stepF G (.sl q_s q_x q_l q_h) (σ.vis base i hid hido)) (drawK P G Q σ base i hid hido d r)) := (rfl)
theorem v1k (d : Option Nat) (q_x q_l q_h) (pre : Nat) (r : List DOper) : wDraw P G base i (⟨⟨d, .sls q_x q_l q_h, none⟩, pre, hid, prv, hido⟩ :: r) Q σ = chkQ (chkB G prv hido (base + i) (.sls q_x q_l q_h) (σ.vis base i hid hido)) (bindP (stepF G (.sls q_x q_l q_h) (σ.vis base i hid hido)) (drawK P G Q σ base i hid hido d r)) := (rfl)
theorem z4t (d : Option Nat) (q_n q_z q_x q_l q_h) (pre : Nat) (r : List DOper) : wDraw P G base i (⟨⟨d, .sla q_n q_z q_x q_l q_h, none⟩, pre, hid, prv, hido⟩ :: r) Q σ = chkQ (chkB G prv hido (base + i) (.sla q_n q_z q_x q_l q_h) (σ.vis base i hid hido)) (bindP (stepF G (.sla q_n q_z q_x q_l q_h) (σ.vis base i hid hido)) (drawK P G Q σ base i hid hido d r)) := (rfl)
theorem v1m (d : Option Nat) (q_k q_o q_x q_y) (pre : Nat) (r : List DOper) : wDraw P G base i (⟨⟨d, .bin q_k q_o q_x q_y, none⟩, pre, hid, prv, hido⟩ :: r) Q σ = chkQ (chkB G prv hido (base + i) (.bin q_k q_o q_x q_y) (σ.vis base i hid hido)) (bindP (stepF G (.bin q_k q_o q_x q_y) (σ.vis base i hid hido)) (drawK P G Q σ base i hid hido d r)) := (rfl)
theorem u1l (d : Option Nat) (q_n q_k q_x q_y) (pre : Nat) (r : List DOper) : wDraw P G base i (⟨⟨d, .eqs q_n q_k q_x q_y, none⟩, pre, hid, prv, hido⟩ :: r) Q σ = chkQ (chkB G prv hido (base + i) (.eqs q_n q_k q_x q_y) (σ.vis base i hid hido)) (bindP (stepF G (.eqs q_n q_k q_x q_y) (σ.vis base i hid hido)) (drawK P G Q σ base i hid hido d r)) := (rfl)
theorem x1x (d : Option Nat) (q_o q_x) (pre : Nat) (r : List DOper) : wDraw P G base i (⟨⟨d, .un q_o q_x, none⟩, pre, hid, prv, hido⟩ :: r) Q σ = chkQ (chkB G prv hido (base + i) (.un q_o q_x) (σ.vis base i hid hido)) (bindP (stepF G (.un q_o q_x) (σ.vis base i hid hido)) (drawK P G Q σ base i hid hido d r)) := (rfl)
theorem z4f (d : Option Nat) (q_o q_x) (pre : Nat) (r : List DOper) : wDraw P G base i (⟨⟨d, .inil q_o q_x, none⟩, pre, hid, prv, hido⟩ :: r) Q σ = chkQ (chkB G prv hido (base + i) (.inil q_o q_x) (σ.vis base i hid hido)) (bindP (stepF G (.inil q_o q_x) (σ.vis base i hid hido)) (drawK P G Q σ base i hid hido d r)) := (rfl)
theorem z1m (d : Option Nat) (q_k q_x) (pre : Nat) (r : List DOper) : wDraw P G base i (⟨⟨d, .cvi q_k q_x, none⟩, pre, hid, prv, hido⟩ :: r) Q σ = chkQ (chkB G prv hido (base + i) (.cvi q_k q_x) (σ.vis base i hid hido)) (bindP (stepF G (.cvi q_k q_x) (σ.vis base i hid hido)) (drawK P G Q σ base i hid hido d r)) := (rfl)
theorem y1m (d : Option Nat) (q_x) (pre : Nat) (r : List DOper) : wDraw P G base i (⟨⟨d, .cid q_x, none⟩, pre, hid, prv, hido⟩ :: r) Q σ = chkQ (chkB G prv hido (base + i) (.cid q_x) (σ.vis base i hid hido)) (bindP (stepF G (.cid q_x) (σ.vis base i hid hido)) (drawK P G Q σ base i hid hido d r)) := (rfl)
theorem w1l (d : Option Nat) (q_x) (pre : Nat) (r : List DOper) : wDraw P G base i (⟨⟨d, .len q_x, none⟩, pre, hid, prv, hido⟩ :: r) Q σ = chkQ (chkB G prv hido (base + i) (.len q_x) (σ.vis base i hid hido)) (bindP (stepF G (.len q_x) (σ.vis base i hid hido)) (drawK P G Q σ base i hid hido d r)) := (rfl)
theorem w1b (d : Option Nat) (q_x) (pre : Nat) (r : List DOper) : wDraw P G base i (⟨⟨d, .lens q_x, none⟩, pre, hid, prv, hido⟩ :: r) Q σ = chkQ (chkB G prv hido (base + i) (.lens q_x) (σ.vis base i hid hido)) (bindP (stepF G (.lens q_x) (σ.vis base i hid hido)) (drawK P G Q σ base i hid hido d r)) := (rfl)
theorem u1m (d : Option Nat) (q_s q_b q_x q_y) (pre : Nat) (r : List DOper) : wDraw P G base i (⟨⟨d, .app q_s q_b q_x q_y, none⟩, pre, hid, prv, hido⟩ :: r) Q σ = chkQ (chkB G prv hido (base + i) (.app q_s q_b q_x q_y) (σ.vis base i hid hido)) (bindP (stepF G (.app q_s q_b q_x q_y) (σ.vis base i hid hido)) (drawK P G Q σ base i hid hido d r)) := (rfl)
theorem u4f (d : Option Nat) (q_s q_b q_x q_y) (pre : Nat) (r : List DOper) : wDraw P G base i (⟨⟨d, .appq q_s q_b q_x q_y, none⟩, pre, hid, prv, hido⟩ :: r) Q σ = chkQ (chkB G prv hido (base + i) (.appq q_s q_b q_x q_y) (σ.vis base i hid hido)) (bindP (stepF G (.appq q_s q_b q_x q_y) (σ.vis base i hid hido)) (drawK P G Q σ base i hid hido d r)) := (rfl)
theorem v4f (d : Option Nat) (q_s q_b q_x q_y) (pre : Nat) (r : List DOper) : wDraw P G base i (⟨⟨d, .appr q_s q_b q_x q_y, none⟩, pre, hid, prv, hido⟩ :: r) Q σ = chkQ (chkB G prv hido (base + i) (.appr q_s q_b q_x q_y) (σ.vis base i hid hido)) (bindP (stepF G (.appr q_s q_b q_x q_y) (σ.vis base i hid hido)) (drawK P G Q σ base i hid hido d r)) := (rfl)
theorem y1l (d : Option Nat) (q_s q_b q_z q_l q_c) (pre : Nat) (r : List DOper) : wDraw P G base i (⟨⟨d, .mks q_s q_b q_z q_l q_c, none⟩, pre, hid, prv, hido⟩ :: r) Q σ = chkQ (chkB G prv hido (base + i) (.mks q_s q_b q_z q_l q_c) (σ.vis base i hid hido)) (bindP (stepF G (.mks q_s q_b q_z q_l q_c) (σ.vis base i hid hido)) (drawK P G Q σ base i hid hido d r)) := (rfl)
theorem x1l (d : Option Nat) (q_f q_c) (pre : Nat) (r : List DOper) : wDraw P G base i (⟨⟨d, .mkf q_f q_c, none⟩, pre, hid, prv, hido⟩ :: r) Q σ = chkQ (chkB G prv hido (base + i) (.mkf q_f q_c) (σ.vis base i hid hido)) (bindP (stepF G (.mkf q_f q_c) (σ.vis base i hid hido)) (drawK P G Q σ base i hid hido d r)) := (rfl)
theorem v1l (d : Option Nat) (q_x q_i) (pre : Nat) (r : List DOper) : wDraw P G base i (⟨⟨d, .ext q_x q_i, none⟩, pre, hid, prv, hido⟩ :: r) Q σ = chkQ (chkB G prv hido (base + i) (.ext q_x q_i) (σ.vis base i hid hido)) (bindP (stepF G (.ext q_x q_i) (σ.vis base i hid hido)) (drawK P G Q σ base i hid hido d r)) := (rfl)
theorem y0s (d : Option Nat) (q_x) (pre : Nat) (r : List DOper) : wDraw P G base i (⟨⟨d, .nilchk q_x, none⟩, pre, hid, prv, hido⟩ :: r) Q σ = chkQ (chkB G prv hido (base + i) (.nilchk q_x) (σ.vis base i hid hido)) (bindP (stepF G (.nilchk q_x) (σ.vis base i hid hido)) (drawK P G Q σ base i hid hido d r)) := (rfl)
theorem u1k (d : Option Nat) (q_s q_x q_l q_h q_m) (pre : Nat) (r : List DOper) : wDraw P G base i (⟨⟨d, .sl3 q_s q_x q_l q_h q_m, none⟩, pre, hid, prv, hido⟩ :: r) Q σ = chkQ (chkB G prv hido (base + i) (.sl3 q_s q_x q_l q_h q_m) (σ.vis base i hid hido)) (bindP (stepF G (.sl3 q_s q_x q_l q_h q_m) (σ.vis base i hid hido)) (drawK P G Q σ base i hid hido d r)) := (rfl)
theorem v4t (d : Option Nat) (q_x) (pre : Nat) (r : List DOper) : wDraw P G base i (⟨⟨d, .b2s q_x, none⟩, pre, hid, prv, hido⟩ :: r) Q σ = chkQ (chkB G prv hido (base + i) (.b2s q_x) (σ.vis base i hid hido)) (bindP (stepF G (.b2s q_x) (σ.vis base i hid hido)) (drawK P G Q σ base i hid hido d r)) := (rfl)
theorem y4t (d : Option Nat) (q_s q_x q_y) (pre : Nat) (r : List DOper) : wDraw P G base i (⟨⟨d, .cpy q_s q_x q_y, none⟩, pre, hid, prv, hido⟩ :: r) Q σ = chkQ (chkB G prv hido (base + i) (.cpy q_s q_x q_y) (σ.vis base i hid hido)) (bindP (stepF G (.cpy q_s q_x q_y) (σ.vis base i hid hido)) (drawK P G Q σ base i hid hido d r)) := (rfl)
theorem w4t (d : Option Nat) (q_x) (pre : Nat) (r : List DOper) : wDraw P G base i (⟨⟨d, .cap q_x, none⟩, pre, hid, prv, hido⟩ :: r) Q σ = chkQ (chkB G prv hido (base + i) (.cap q_x) (σ.vis base i hid hido)) (bindP (stepF G (.cap q_x) (σ.vis base i hid hido)) (drawK P G Q σ base i hid hido d r)) := (rfl)
theorem w4f (d : Option Nat) (q_s q_b q_z q_x q_n) (pre : Nat) (r : List DOper) : wDraw P G base i (⟨⟨d, .appz q_s q_b q_z q_x q_n, none⟩, pre, hid, prv, hido⟩ :: r) Q σ = chkQ (chkB G prv hido (base + i) (.appz q_s q_b q_z q_x q_n) (σ.vis base i hid hido)) (bindP (stepF G (.appz q_s q_b q_z q_x q_n) (σ.vis base i hid hido)) (drawK P G Q σ base i hid hido d r)) := (rfl)
theorem x4t (d : Option Nat) (q_s q_z q_x) (pre : Nat) (r : List DOper) : wDraw P G base i (⟨⟨d, .clr q_s q_z q_x, none⟩, pre, hid, prv, hido⟩ :: r) Q σ = chkQ (chkB G prv hido (base + i) (.clr q_s q_z q_x) (σ.vis base i hid hido)) (bindP (stepF G (.clr q_s q_z q_x) (σ.vis base i hid hido)) (drawK P G Q σ base i hid hido d r)) := (rfl)
theorem z1y (d : Option Nat) (q_m q_x q_y) (pre : Nat) (r : List DOper) : wDraw P G base i (⟨⟨d, .mm q_m q_x q_y, none⟩, pre, hid, prv, hido⟩ :: r) Q σ = chkQ (chkB G prv hido (base + i) (.mm q_m q_x q_y) (σ.vis base i hid hido)) (bindP (stepF G (.mm q_m q_x q_y) (σ.vis base i hid hido)) (drawK P G Q σ base i hid hido d r)) := (rfl)
end
def encI (n : Int) : List D := [.i .i64 n]
def encU8 (n : Int) : List D := [.i .u8 n]
def encB (b : Bool) : List D := [.b b]
def encS (b : ByteArray) : List D := [.s b]
def encLO {α : Type} (sz : Nat) (f : α → List D) (l : List α) : List D := [.o sz (l.map f)]
def encL {α : Type} (sz : Nat) (f : α → List D) (l : List α) : List D := [.l sz (l.map f)]
theorem z5k {α : Type} (sz : Nat) (f : α → List D) (L : List (List α)) : (L.map (encLO sz f)).map (List.map D.fw) = L.map (encL sz f) := by simp [encLO, encL, D.fw]
theorem u2m : ∀ (xs : List Int), bytesOf (xs.map encU8) = some xs
 | [] => rfl
 | x :: xs => by simp only [List.map_cons, encU8, bytesOf, u2m xs, Option.map_some]
theorem x3u {α : Type} (l : List α) : (l.all fun _ => true) = true := by induction l <;> simp_all
theorem cast0 : ((0 : Nat) : Int) = 0 := (rfl)
theorem cast1 : ((1 : Nat) : Int) = 1 := (rfl)
theorem cast2 : ((2 : Nat) : Int) = 2 := (rfl)
theorem cast3 : ((3 : Nat) : Int) = 3 := (rfl)
theorem cast4 : ((4 : Nat) : Int) = 4 := (rfl)
theorem cast5 : ((5 : Nat) : Int) = 5 := (rfl)
theorem cast6 : ((6 : Nat) : Int) = 6 := (rfl)
theorem cast7 : ((7 : Nat) : Int) = 7 := (rfl)
theorem cast8 : ((8 : Nat) : Int) = 8 := (rfl)
theorem cast9 : ((9 : Nat) : Int) = 9 := (rfl)
theorem x3t : ((10 : Nat) : Int) = 10 := (rfl)
theorem y3t : ((11 : Nat) : Int) = 11 := (rfl)
theorem z3t : ((12 : Nat) : Int) = 12 := (rfl)
theorem cast13 : ((13 : Nat) : Int) = 13 := (rfl)
theorem cast14 : ((14 : Nat) : Int) = 14 := (rfl)
theorem cast15 : ((15 : Nat) : Int) = 15 := (rfl)
theorem cast16 : ((16 : Nat) : Int) = 16 := (rfl)
theorem cast20 : ((20 : Nat) : Int) = 20 := (rfl)
theorem cast24 : ((24 : Nat) : Int) = 24 := (rfl)
theorem cast30 : ((30 : Nat) : Int) = 30 := (rfl)
theorem cast31 : ((31 : Nat) : Int) = 31 := (rfl)
theorem cast32 : ((32 : Nat) : Int) = 32 := (rfl)
theorem cast60 : ((60 : Nat) : Int) = 60 := (rfl)
theorem cast64 : ((64 : Nat) : Int) = 64 := (rfl)
theorem u3l {α β : Type} (f : α → β) (l : List α) (i : Nat) : (l.map f).take i = (l.take i).map f := List.map_take.symm
theorem v3r {α β : Type} (f : α → β) (l : List α) (i : Nat) : (l.map f).drop i = (l.drop i).map f := List.map_drop.symm
theorem tk_dr {α : Type} (l : List α) (i : Nat) : (l.drop i).take (l.length - i) = l.drop i := by rw [← List.length_drop, List.take_length]
theorem u1b (m n : Nat) : ((m : Int) - (n : Int)).toNat = m - n := Int.toNat_sub m n
theorem vw {n : Int} (h0 : -9223372036854775808 ≤ n) (h1 : n ≤ 9223372036854775807) : IntKind.i64.wrap n = n := by rw [IntKind.wrap_i64]; omega
theorem wrap_succ {k : Nat} (h : k < 2 ^ 62) : IntKind.i64.wrap ((k : Int) + 1) = ((k + 1 : Nat) : Int) := by
 rw [vw (by omega) (by omega)]; omega
theorem v5e {α : Type} {enc : α → List D} : ∀ {rows : List (List D)}, (∀ r ∈ rows, ∃ x, r = enc x) → ∃ xs : List α, rows = xs.map enc
 | [], _ => ⟨[], rfl⟩
 | r :: rows, h => by
  obtain ⟨x, rfl⟩ := h r (by simp)
  obtain ⟨xs, rfl⟩ := v5e (enc := enc) (rows := rows) fun r hr => h r (by simp [hr])
  exact ⟨x :: xs, rfl⟩
theorem za {k n : Nat} (h : k < n) (hn : n ≤ maxLen) : IntKind.i64.wrap ((k : Int) + 1) = ((k + 1 : Nat) : Int) := by
 simp only [maxLen] at hn
 rw [vw (by omega) (by omega)]; omega
theorem v5d (k : IntKind) (a : Int) : shI .shr k a 1 = some (.i k (a.fdiv (2 ^ 1))) := by cases k <;> rfl
theorem w5d (k : IntKind) (a : Int) : shI .shr k a 2 = some (.i k (a.fdiv (2 ^ 2))) := by cases k <;> rfl
theorem x5d (k : IntKind) (a : Int) : shI .shr k a 8 = some (.i k (a.fdiv (2 ^ 8))) := by cases k <;> rfl
theorem y4v (a : Int) : shI .shr .u64 a 16 = some (.i .u64 (a.fdiv (2 ^ 16))) := rfl
theorem z4v (a : Int) : shI .shr .u64 a 32 = some (.i .u64 (a.fdiv (2 ^ 32))) := rfl
section
variable {σ : St}
/-! ### Calls that change what the caller owns -/
theorem z4y (svs : List SV) (t : Nat) : (σ.enter svs).get t = if t < 1000000 then svs.getD t .dead else σ.get (t - 1000000) := (rfl)
theorem x4w (svs : List SV) (u : Nat) : (σ.enter svs).obj u = σ.obj u := (rfl)
theorem z4i (svs : List SV) : (σ.enter svs).next = σ.next := (rfl)
theorem u5j (t : Nat) : σ.lift.get t = σ.get (t + 1000000) := (rfl)
theorem x5h (u : Nat) : σ.lift.obj u = σ.obj u := (rfl)
theorem w4w : σ.lift.next = σ.next := (rfl)
theorem z4u {α : Type} (l : List α) (x : α) : List.take (l.length + 1) (l ++ [x]) = l ++ [x] := List.take_of_length_le (by simp)
theorem v3f {α β : Type} (f : α → β) (l : List α) (x : β) : List.take (l.length + 1) (l.map f ++ [x]) = l.map f ++ [x] := List.take_of_length_le (by simp)
theorem y5k {α : Type} (a : α) : (∃ v, some a = some v) = True := by simp
theorem endX_n (res : List RVar) (K : St → SV → Prop) : endX res K .normal σ = ∃ vs, resVs σ res = some vs ∧ K σ.lift (packS vs) := (rfl)
theorem endX_r (res : List RVar) (K : St → SV → Prop) : endX res K .ret σ = ∃ vs, resVs σ res = some vs ∧ K σ.lift (packS vs) := (rfl)
end
/-! ### Functions of Go's library -/
def w1e (sz bytes : Nat) (z : List SC) : VFn := ⟨8, .seq (.reg [⟨some 2, .mv (.c (.one (.nl sz))), none⟩]) (.seq (.seq (.reg [⟨some 3, .mv (.t 0), none⟩, ⟨some 4, .isnil false (.t 3), none⟩]) (.cond (.t 4) (.seq (.reg [⟨some 2, .mv (.c (.one (.nl sz))), none⟩]) .ret) .skip)) (.seq (.reg [⟨some 5, .bsl sz 0 z [], none⟩, ⟨some 6, .mv (.t 0), none⟩, ⟨some 7, .app sz bytes (.t 5) (.t 6), none⟩, ⟨some 2, .mv (.t 7), none⟩]) .ret)), [.t 2]⟩
def v0o {α : Type} (bytes : Nat) (l : List α) : Option (List α) := if fits bytes l.length then some l else none
theorem x1j {P : Program} {f sz bytes : Nat} {z : List SC} (hl : lowF P f = some (w1e sz bytes z)) (hk : fOk P f = true) (G : Nat → Option (List D)) {α : Type} (enc : α → List D) (p0 r : List α) (h : v0o bytes p0 = some r) :
 FnRO P G f [.one (.d (.l sz (p0.map enc)))] (fun rs => rs = [.one (.o sz (r.map enc))]) := by
 obtain ⟨hf, h⟩ := x3o h
 cases h
 refine FnRO.of' (F := w1e sz bytes z) hl hk (by simp [w1e]) ?_
 simp only [y3l, x3l, ur_d, ur_nl, ur_r, w1e, y1u, z2o, x1u, y2o, u2n, u1j, v1u, u2u, z2v, w2r, x2r, x1v, u1a, x2s, u2s, w2s, v2s, u1z, w1p, u2o, z1k, y1b, u1w, z1b, v1w, y2p, w2o, u2p, v2p, w2p, x2p, v2o, z1v, z1x, y1w, x2o, x1w, w1w, u1v, y1k, y1x, w1v, v1v, z1w, x0v, x1k, z2p, mmV, w3m, v3m, x3m, v3t, u3t, w3t, u1e, z1f, y1f, v1p, stepF, ev_t, ev_c, ev_g, ev_fn, y2t, x2t, w2c, v2c, w2q, v2q, w2a, v2a, y2b, x2b, w1n, v1n, z1n, y1n, x2f, u2v, x2v, u1p, w2v, v2v, v1e, y1p, Option.bind_some, Option.bind_none, Option.map_some, Option.map_none, y2u, x2u, List.getD_cons_zero, List.getD_cons_succ, List.length_cons, List.length_nil, Nat.reduceAdd, Nat.reduceEqDiff, Nat.reduceLeDiff, Nat.reduceSub, reduceCtorEq, z0x, St.alive, St.ld, mkV, binV, binI, isSh, List.drop_succ_cons, List.drop_zero, List.take_succ_cons, List.take_zero, Option.isSome_some, ↓reduceIte, and_self, and_true, true_and, decide_true, decide_false, endQ, resVs, resV, St.outs, St.outV, St.outC, St.outC0, u0j, List.append_nil, List.nil_append, List.cons_append, List.map_cons, List.map_nil, St.addRs, St.addR, St.addD, St.addD0, St.addDs, packS, Bool.false_eq_true, not_true, not_false_iff, St.stO, St.toD, St.toDs, St.fill, repl, eqCs, eqC, Nat.zero_add, Nat.add_zero, List.set_cons_zero, List.set_cons_succ, List.getElem?_cons_zero, List.getElem?_cons_succ, ldRow, svExt, St.outCs, Bool.and_true, Bool.true_and, beq_self_eq_true, w1u, z1l, w0v, v1b, u1x, x1b, u0v, w1m, v0v, x1m, y1y, w1x, u1y, v1y, w1y, x1y, v1x, v1k, v1m, u1l, x1x, z1m, y1m, w1l, w1b, u1m, y1l, x1l, v1l, y0s, z1y, w2d, v2d, y2e, u2d, z2e, u1o, y1q, z1q, u3q, v3o, z2r, z2q, y2f, z2t, x2q, z2b, u2c, u2a, u1n, w1o, y1e, Bool.or_false, Bool.or_true, Bool.true_or, Bool.false_or, St.lenV, St.ia, St.slV, optI, List.length_map, unV, eq_self, Option.getD_none, Option.getD_some, Int.toNat_natCast, Int.sub_zero, Int.toNat_zero, List.getElem?_map, Nat.sub_zero, Nat.left_eq_add, Nat.add_eq_left, Nat.add_eq_zero_iff, Nat.le_refl, Int.natCast_nonneg, Int.ofNat_lt, Int.ofNat_le, Int.le_refl, Bool.not_true, Bool.not_false, true_or, or_true, false_or, or_false, false_and, and_false, Bool.and_false, Bool.false_and, grd_b, grd_u, w3q, w2u, bne_self_eq_false, List.all_cons, List.all_nil, RV.sv, y1v, u1k, St.sl3V, v1a, Nat.reduceBEq, List.contains_nil, List.take_length, u2r, v2r, v3q, w3o, u2q, lookS, Option.join_some, Option.join_none, w2b, List.length_append, List.length_set, List.length_take, List.length_drop, Int.reduceLT, Int.reduceLE, Int.reduceEq, Int.reduceBEq, Int.reduceBNe, Nat.reduceLT, cast0, cast1, cast2, cast3, cast4, cast5, cast6, cast7, cast8, cast9, x3t, y3t, z3t, u3l, v3r, tk_dr, u1b, Nat.reduceMul, St.rowsOf, St.app, mul1, rowsN, List.replicate_succ, List.replicate_zero, List.flatten_cons, List.flatten_nil, y3a, List.map_nil, List.take_nil]
 by_cases h0 : p0.length = 0
 ·obtain rfl := List.eq_nil_of_length_eq_zero h0
  intro b
  have hf0 : fits bytes 0 := hf
  cases b <;> simp only [y3l, x3l, ur_d, ur_nl, ur_r, hf, hf0, y1u, z2o, x1u, y2o, u2n, u1j, v1u, u2u, z2v, w2r, x2r, x1v, u1a, x2s, u2s, w2s, v2s, u1z, w1p, u2o, z1k, y1b, u1w, z1b, v1w, y2p, w2o, u2p, v2p, w2p, x2p, v2o, z1v, z1x, y1w, x2o, x1w, w1w, u1v, y1k, y1x, w1v, v1v, z1w, x0v, x1k, z2p, mmV, w3m, v3m, x3m, v3t, u3t, w3t, u1e, z1f, y1f, v1p, stepF, ev_t, ev_c, ev_g, ev_fn, y2t, x2t, w2c, v2c, w2q, v2q, w2a, v2a, y2b, x2b, w1n, v1n, z1n, y1n, x2f, u2v, x2v, u1p, w2v, v2v, v1e, y1p, Option.bind_some, Option.bind_none, Option.map_some, Option.map_none, y2u, x2u, List.getD_cons_zero, List.getD_cons_succ, List.length_cons, List.length_nil, Nat.reduceAdd, Nat.reduceEqDiff, Nat.reduceLeDiff, Nat.reduceSub, reduceCtorEq, z0x, St.alive, St.ld, mkV, binV, binI, isSh, List.drop_succ_cons, List.drop_zero, List.take_succ_cons, List.take_zero, Option.isSome_some, ↓reduceIte, and_self, and_true, true_and, decide_true, decide_false, endQ, resVs, resV, St.outs, St.outV, St.outC, St.outC0, u0j, List.append_nil, List.nil_append, List.cons_append, List.map_cons, List.map_nil, St.addRs, St.addR, St.addD, St.addD0, St.addDs, packS, Bool.false_eq_true, not_true, not_false_iff, St.stO, St.toD, St.toDs, St.fill, repl, eqCs, eqC, Nat.zero_add, Nat.add_zero, List.set_cons_zero, List.set_cons_succ, List.getElem?_cons_zero, List.getElem?_cons_succ, ldRow, svExt, St.outCs, Bool.and_true, Bool.true_and, beq_self_eq_true, w1u, z1l, w0v, v1b, u1x, x1b, u0v, w1m, v0v, x1m, y1y, w1x, u1y, v1y, w1y, x1y, v1x, v1k, v1m, u1l, x1x, z1m, y1m, w1l, w1b, u1m, y1l, x1l, v1l, y0s, z1y, w2d, v2d, y2e, u2d, z2e, u1o, y1q, z1q, u3q, v3o, z2r, z2q, y2f, z2t, x2q, z2b, u2c, u2a, u1n, w1o, y1e, Bool.or_false, Bool.or_true, Bool.true_or, Bool.false_or, St.lenV, St.ia, St.slV, optI, List.length_map, unV, eq_self, Option.getD_none, Option.getD_some, Int.toNat_natCast, Int.sub_zero, Int.toNat_zero, List.getElem?_map, Nat.sub_zero, Nat.left_eq_add, Nat.add_eq_left, Nat.add_eq_zero_iff, Nat.le_refl, Int.natCast_nonneg, Int.ofNat_lt, Int.ofNat_le, Int.le_refl, Bool.not_true, Bool.not_false, true_or, or_true, false_or, or_false, false_and, and_false, Bool.and_false, Bool.false_and, grd_b, grd_u, w3q, w2u, bne_self_eq_false, List.all_cons, List.all_nil, RV.sv, y1v, u1k, St.sl3V, v1a, Nat.reduceBEq, List.contains_nil, List.take_length, u2r, v2r, v3q, w3o, u2q, lookS, Option.join_some, Option.join_none, w2b, List.length_append, List.length_set, List.length_take, List.length_drop, Int.reduceLT, Int.reduceLE, Int.reduceEq, Int.reduceBEq, Int.reduceBNe, Nat.reduceLT, cast0, cast1, cast2, cast3, cast4, cast5, cast6, cast7, cast8, cast9, x3t, y3t, z3t, u3l, v3r, tk_dr, u1b, Nat.reduceMul, St.rowsOf, St.app, mul1, rowsN, List.replicate_succ, List.replicate_zero, List.flatten_cons, List.flatten_nil, y3a, List.map_nil, List.take_nil]
 ·simp only [y3l, x3l, ur_d, ur_nl, ur_r, h0, hf, y1u, z2o, x1u, y2o, u2n, u1j, v1u, u2u, z2v, w2r, x2r, x1v, u1a, x2s, u2s, w2s, v2s, u1z, w1p, u2o, z1k, y1b, u1w, z1b, v1w, y2p, w2o, u2p, v2p, w2p, x2p, v2o, z1v, z1x, y1w, x2o, x1w, w1w, u1v, y1k, y1x, w1v, v1v, z1w, x0v, x1k, z2p, mmV, w3m, v3m, x3m, v3t, u3t, w3t, u1e, z1f, y1f, v1p, stepF, ev_t, ev_c, ev_g, ev_fn, y2t, x2t, w2c, v2c, w2q, v2q, w2a, v2a, y2b, x2b, w1n, v1n, z1n, y1n, x2f, u2v, x2v, u1p, w2v, v2v, v1e, y1p, Option.bind_some, Option.bind_none, Option.map_some, Option.map_none, y2u, x2u, List.getD_cons_zero, List.getD_cons_succ, List.length_cons, List.length_nil, Nat.reduceAdd, Nat.reduceEqDiff, Nat.reduceLeDiff, Nat.reduceSub, reduceCtorEq, z0x, St.alive, St.ld, mkV, binV, binI, isSh, List.drop_succ_cons, List.drop_zero, List.take_succ_cons, List.take_zero, Option.isSome_some, ↓reduceIte, and_self, and_true, true_and, decide_true, decide_false, endQ, resVs, resV, St.outs, St.outV, St.outC, St.outC0, u0j, List.append_nil, List.nil_append, List.cons_append, List.map_cons, List.map_nil, St.addRs, St.addR, St.addD, St.addD0, St.addDs, packS, Bool.false_eq_true, not_true, not_false_iff, St.stO, St.toD, St.toDs, St.fill, repl, eqCs, eqC, Nat.zero_add, Nat.add_zero, List.set_cons_zero, List.set_cons_succ, List.getElem?_cons_zero, List.getElem?_cons_succ, ldRow, svExt, St.outCs, Bool.and_true, Bool.true_and, beq_self_eq_true, w1u, z1l, w0v, v1b, u1x, x1b, u0v, w1m, v0v, x1m, y1y, w1x, u1y, v1y, w1y, x1y, v1x, v1k, v1m, u1l, x1x, z1m, y1m, w1l, w1b, u1m, y1l, x1l, v1l, y0s, z1y, w2d, v2d, y2e, u2d, z2e, u1o, y1q, z1q, u3q, v3o, z2r, z2q, y2f, z2t, x2q, z2b, u2c, u2a, u1n, w1o, y1e, Bool.or_false, Bool.or_true, Bool.true_or, Bool.false_or, St.lenV, St.ia, St.slV, optI, List.length_map, unV, eq_self, Option.getD_none, Option.getD_some, Int.toNat_natCast, Int.sub_zero, Int.toNat_zero, List.getElem?_map, Nat.sub_zero, Nat.left_eq_add, Nat.add_eq_left, Nat.add_eq_zero_iff, Nat.le_refl, Int.natCast_nonneg, Int.ofNat_lt, Int.ofNat_le, Int.le_refl, Bool.not_true, Bool.not_false, true_or, or_true, false_or, or_false, false_and, and_false, Bool.and_false, Bool.false_and, grd_b, grd_u, w3q, w2u, bne_self_eq_false, List.all_cons, List.all_nil, RV.sv, y1v, u1k, St.sl3V, v1a, Nat.reduceBEq, List.contains_nil, List.take_length, u2r, v2r, v3q, w3o, u2q, lookS, Option.join_some, Option.join_none, w2b, List.length_append, List.length_set, List.length_take, List.length_drop, Int.reduceLT, Int.reduceLE, Int.reduceEq, Int.reduceBEq, Int.reduceBNe, Nat.reduceLT, cast0, cast1, cast2, cast3, cast4, cast5, cast6, cast7, cast8, cast9, x3t, y3t, z3t, u3l, v3r, tk_dr, u1b, Nat.reduceMul, St.rowsOf, St.app, mul1, rowsN, List.replicate_succ, List.replicate_zero, List.flatten_cons, List.flatten_nil, y3a, List.map_nil, List.take_nil]
theorem u5d (a : Int) : shI .shl .i64 a 8 = some (.i .i64 (IntKind.i64.wrap (a * 2 ^ 8))) := (rfl)
theorem x3x (n : Nat) : (((n : Nat) : Int) - 1).toNat = n - 1 := by omega
theorem y3x (n : Nat) : (((n : Nat) : Int) - 2).toNat = n - 2 := by omega
theorem z3x (n : Nat) : (((n : Nat) : Int) - 3).toNat = n - 3 := by omega
theorem u3w (n : Nat) : (((n : Nat) : Int) - 4).toNat = n - 4 := by omega
attribute [go_sem] u5d x3x y3x z3x u3w
theorem u5f {α : Type} (l : List α) : (l <+: l) = True := eq_true (List.prefix_refl l)
theorem v5f {α : Type} (l : List α) (n : Nat) : (l.take n <+: l) = True := eq_true (List.take_prefix n l)
theorem u3n {α β : Type} (f : α → β) (l : List α) (n : Nat) : ((l.take n).map f <+: l.map f) = True := eq_true (by rw [List.map_take]; exact List.take_prefix n _)
theorem pre_app {α : Type} (l r : List α) : (l <+: l ++ r) = True := eq_true (List.prefix_append l r)
theorem pre_nil {α : Type} (l : List α) : ([] <+: l) = True := eq_true (List.nil_prefix)
attribute [go_sem] chkQ_t chkB_n chkH_n chkB_h chkH_c chkH_s ptrU_q chkB_st baseU_r w5l List.contains_nil List.contains_cons
attribute [go_sem] St.inPs St.inPP St.inE St.inEs St.inP z4s w4f u5f v5f u3n pre_app pre_nil u5a v5a w4t x4t St.clr St.capV y3l x3l ur_d ur_nl ur_r ur_rc ur_p ur_c ur_dead w5a y4t St.inPC St.appz
theorem u5i {α : Type} {f : α → List D} (l : List α) (n sz : Nat) (ids : List Nat) : (if n = l.length then some (D.o sz (l.map f), ids) else some (D.o sz ((l.take n).map f), ids)) = some (D.o sz ((l.take n).map f), ids) := by
 split
 ·rename_i h; subst h; rw [List.take_length]
 ·rfl
theorem y4u {α : Type} {f : α → List D} (l : List α) (i : Nat) (x : List D) : ((l.map f).set i x).take l.length = (l.map f).set i x := List.take_of_length_le (by simp)
theorem snoc_at {α : Type} {f : α → List D} (l : List α) (x : List D) : (l.map f ++ [x])[l.length]? = some x := by
 rw [List.getElem?_append_right (by simp)]; simp
theorem x5b {α : Type} {f : α → List D} (l : List α) (x y : List D) : (l.map f ++ [x]).set l.length y = l.map f ++ [y] := by
 rw [List.set_append_right _ _ (by simp)]; simp
section
variable (a : IntKind) (b : Int) (c : Bool) (s : ByteArray) (z : Nat) (r : List (List D)) (q : List D) (f : FuncId)
theorem flat_i : (D.i a b).flat = true := rfl
theorem flat_b : (D.b c).flat = true := rfl
theorem flat_s : (D.s s).flat = true := rfl
theorem flat_l : (D.l z r).flat = true := rfl
theorem flat_k : (D.k q).flat = true := rfl
theorem flat_f : (D.f f q).flat = true := rfl
theorem flat_np : D.np.flat = true := rfl
theorem flat_nf : D.nf.flat = true := rfl
theorem flat_o : (D.o z r).flat = false := rfl
theorem flat_t : (D.t z r).flat = false := rfl
theorem flat_x : (D.x q).flat = false := rfl
theorem fw_i : (D.i a b).fw = .i a b := rfl
theorem fw_b : (D.b c).fw = .b c := rfl
theorem fw_s : (D.s s).fw = .s s := rfl
theorem fw_l : (D.l z r).fw = .l z r := rfl
theorem fw_o : (D.o z r).fw = .l z r := rfl
theorem fw_k : (D.k q).fw = .k q := rfl
theorem fw_np : D.np.fw = .np := rfl
end
theorem nilB_n : nilB .nilIface = some true := rfl
theorem nilB_i (t : TypeId) (p : Value) : nilB (.iface t p) = some false := rfl
attribute [go_sem] x5a z4t slaV x4r z4f nilV nilB_n nilB_i u5i beq_true beq_false Bool.not_not y4u fw_i fw_b fw_s fw_l fw_o fw_k fw_np snoc_at x5b flat_i flat_b flat_s flat_l flat_k flat_f flat_np flat_nf flat_o flat_t flat_x v4q u4q seqF_n u3v tailQ_n chkF seqO_n u4r x4f v4s u4f y4z St.appq u4s v4r z4g y4f St.frz D.fz RV.fz z5a y4r y3w x3h St.iaa z4u v3f y5k z4y x4w z4i u5j x5h w4w endX_n endX_r List.set_set List.contains_cons List.getElem?_set_self v5d w5d x5d x4e y5b u4t binS psOf z5b v4t y3w x3h u2m encI encU8 encB encS encL y1u z2o x1u y2o u2n u1j v1u u2u z2v w2r x2r x1v u1a x2s u2s w2s v2s u1z w1p u2o z1k y1b u1w z1b v1w y2p w2o u2p v2p w2p x2p v2o z1v z1x y1w x2o x1w w1w u1v y1k y1x w1v v1v z1w x0v x1k z2p mmV w3m v3m x3m v3t u3t w3t u1e z1f y1f v1p stepF ev_t ev_c ev_g ev_fn y2t x2t w2c v2c w2q v2q w2a v2a y2b x2b w1n v1n z1n y1n x2f u2v x2v u1p w2v v2v v1e y1p Option.bind_some Option.bind_none Option.map_some Option.map_none y2u x2u List.getD_cons_zero List.getD_cons_succ List.length_cons List.length_nil z0x St.alive St.ld mkV binV binI isSh List.drop_succ_cons List.drop_zero List.take_succ_cons List.take_zero Option.isSome_some and_self and_true true_and decide_true decide_false endQ resVs resV St.outs St.outV St.outC St.outC0 u0j List.append_nil List.nil_append List.cons_append List.map_cons List.map_nil St.addRs St.addR St.addD St.addD0 St.addDs packS Bool.false_eq_true not_true not_false_iff St.stO St.toD St.toDs St.fill repl eqCs eqC Nat.zero_add Nat.add_zero List.set_cons_zero List.set_cons_succ List.getElem?_cons_zero List.getElem?_cons_succ ldRow svExt St.outCs Bool.and_true Bool.true_and beq_self_eq_true w1u z1l w0v v1b u1x x1b u0v w1m v0v x1m y1y w1x u1y v1y w1y x1y v1x v1k v1m u1l x1x z1m y1m w1l w1b u1m y1l x1l v1l y0s z1y w2d v2d y2e u2d z2e u1o y1q z1q u3q v3o z2r z2q y2f z2t x2q z2b u2c u2a u1n w1o y1e Bool.or_false Bool.or_true Bool.true_or Bool.false_or St.lenV St.ia St.slV optI List.length_map unV eq_self Option.getD_none Option.getD_some Int.toNat_natCast Int.sub_zero Int.toNat_zero List.getElem?_map Nat.sub_zero Nat.left_eq_add Nat.add_eq_left Nat.add_eq_zero_iff Nat.le_refl Int.natCast_nonneg Int.ofNat_lt Int.ofNat_le Int.le_refl Bool.not_true Bool.not_false true_or or_true false_or or_false false_and and_false Bool.and_false Bool.false_and grd_b grd_u w3q w2u bne_self_eq_false List.all_cons List.all_nil RV.sv y1v u1k St.sl3V v1a List.contains_nil List.take_length u2r v2r v3q w3o u2q lookS Option.join_some Option.join_none w2b List.length_append List.length_set List.length_take List.length_drop cast0 cast1 cast2 cast3 cast4 cast5 cast6 cast7 cast8 cast9 x3t y3t z3t u3l v3r tk_dr u1b v4e u5l z5m St.rowsOf St.app mul1 rowsN List.replicate_succ List.replicate_zero List.flatten_cons List.flatten_nil St.inVs St.inV St.inC St.inD St.inDs St.inCs wv
attribute [go_sem] x4s x3w St.apps asStr
attribute [go_sem] cast13 cast14 cast15 cast16 cast20 cast24 cast30 cast31 cast32 cast60 cast64 y4v z4v w4s v4f St.appr St.kills ne_eq not_false_eq_true encLO z5k w1j z1u y5e z5e sameD_l sameD_o sameD_t sameD_i sameD_b sameD_s z4h Option.isSome_some List.all_cons List.all_nil w4r y4s St.gh1 St.ghZ St.ghF St.ghU St.outEs St.addEs rowsE St.bslW St.appW D.fw
attribute [go_sem] yo vq objWk y3o SV.wk SC.wk x1p VO.wk Ptr.wk w3n SC.isNl
theorem wrap_pred {n : Nat} (h : n + 1 ≤ maxLen) : IntKind.i64.wrap (((n + 1 : Nat) : Int) - 1) = ((n : Nat) : Int) := by
 rw [IntKind.wrap_i64]; simp only [maxLen] at h; omega
theorem obi {α β : Type} {x : Option α} {f : α → Option β} {r : β} (h : x.bind f = some r) : ∃ a, x = some a ∧ f a = some r := Option.bind_eq_some_iff.1 h
theorem gtx {α : Type} {l : List α} {i : Nat} {x : α} (h : l[i]? = some x) : i < l.length := (List.getElem?_eq_some_iff.1 h).1
abbrev vo (d : Nat) (op : VOp) : VOper := ⟨some d, op, none⟩
abbrev vm (d s : Nat) : VOper := ⟨some d, .mv (.t s), none⟩
abbrev vu (op : VOp) : VOper := ⟨none, op, none⟩
abbrev vd (o : VOper) (pre : Nat) : DOper := ⟨o, pre, [], none, []⟩
abbrev vf (d o s : Nat) : VOper := ⟨some d, .fa o (.t s), none⟩
abbrev vl (d n s : Nat) : VOper := ⟨some d, .ld true n (.t s), none⟩
abbrev vs (d s : Nat) : VOper := ⟨some d, .ld false 1 (.t s), none⟩
abbrev ci (n : Int) : Od := .c (.one (.d (.i .i64 n)))
abbrev cb (b : Bool) : Od := .c (.one (.d (.b b)))
abbrev zi (n : Int) : SC := .d (.i .i64 n)
attribute [go_sem] vo vm vu vd vf vl vs ci cb zi
attribute [go_sem_proc] Nat.reduceAdd Nat.reduceDiv Nat.reduceMod Nat.reduceEqDiff Nat.reduceLeDiff Nat.reduceSub reduceCtorEq Nat.reduceBEq Int.reduceLT Int.reduceLE Int.reduceEq Int.reduceBEq Int.reduceBNe Nat.reduceLT Nat.reduceMul Int.reduceToNat
attribute [go_sem_proc ↓] reduceIte
end Go.V
