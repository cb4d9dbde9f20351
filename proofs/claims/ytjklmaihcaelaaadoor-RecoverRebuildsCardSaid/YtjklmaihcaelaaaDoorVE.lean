/- Code and regions, held against the machine; no condition. -/
import Derived.Test.YtjklmaihcaelaaaDoorVT
import Derived.Orders
set_option linter.unusedVariables false
set_option linter.unusedSimpArgs false
namespace Go.V
open Go
def Inv (G : Nat → Option (List D)) (X : Ctx) (n : Nat) (σ : St) (a : Act) (w : World) : Prop :=
 ∃ O Im, SimW G X σ a.tmps w O Im ∧ (∀ u, σ.next ≤ u → O u = .free) ∧ a.defers = [] ∧ a.tmps.size = n
def exRel : Ex → Exit → Prop
 | .normal, .normal => True
 | .exit n, .exit m => n = m
 | .ret, .ret => True
 | _, _ => False
def QRel (G : Nat → Option (List D)) (X : Ctx) (n : Nat) (Q : Ex → St → Prop) : Exit → Act → World → Prop :=
 fun e a w => ∃ x σ, exRel x e ∧ Q x σ ∧ Inv G X n σ a w

section
variable {P : Program} {G : Nat → Option (List D)} {X : Ctx} {n : Nat}

theorem Inv.put {σ : St} {a : Act} {w : World} {O : Nat → LS} {Im : Nat → Prop} (s : SimW G X σ a.tmps w O Im) (hf : ∀ u, σ.next ≤ u → O u = .free) (hd : a.defers = []) (hs : a.tmps.size = n) {dst : Option Nat} (hdst : dst.all (· < n) = true) {sv : SV} {v : Value} (r : RelV w.heap Im O sv v) :
 Inv G X n (σ.putO dst sv) (a.put dst v) w := by
 cases dst with
 | none => exact ⟨O, Im, s, hf, hd, hs⟩
 | some t =>
  have ht : t < a.tmps.size := by simpa [hs] using hdst
  exact ⟨O, Im, s.put ht r, hf, hd, by simpa [Act.put] using hs⟩
theorem Inv.und {σ : St} {a : Act} {w : World} (h : Inv G X n σ a w) {dst : Option Nat} (hdst : dst.all (· < n) = true) : Inv G X n (σ.putO dst .und) (a.put dst undef) w := by
 obtain ⟨O, Im, s, hf, hd, hs⟩ := h
 exact Inv.put s hf hd hs hdst .und
def y3u : Value → Option Bool
 | .bool b => some b
 | _ => none
theorem y2s {h : Array Obj} {Im : Nat → Prop} {O : Nat → LS} {sv : SV} {v : Value} {r : Option Bool} (q : RelV h Im O sv v) (e : grd sv = some r) : y3u v = r := by
 unfold grd at e
 split at e
 ·cases e; have := q.one_inv.d_inv; cases this; rfl
 ·cases e; cases q; rfl
 ·cases e
theorem w1a {ops : Array Oper} {a : Act} {q d : Nat} (h1 : (ops[q]?).bind (·.dst) = some d) (h2 : d < a.tmps.size) : yielded ops a.tmps q = y3u (a.tmps.getD d undef) := by
 unfold yielded
 rw [h1]
 simp only [Option.bind_some, Array.getElem?_eq_getElem h2, Array.getD_eq_getD_getElem?, Option.getD_some]
 unfold y3u
 cases a.tmps[d] <;> rfl

theorem Post.inv {σ σ' : St} {a : Act} {w' : World} {O : Nat → LS} {sv : SV} {v : Value} (h : Post G X a.tmps σ O σ' sv v w') (hf : ∀ u, σ.next ≤ u → O u = .free) (hd : a.defers = []) (hs : a.tmps.size = n) {dst : Option Nat} (hdst : dst.all (· < n) = true) :
 Inv G X n (σ'.putO dst sv) (a.put dst v) w' := by
 obtain ⟨O', Im', s', r, hn⟩ := h
 refine Inv.put s' ?_ hd hs hdst r
 intro u hu
 rcases hn with ⟨h1, h2⟩ | ⟨h1, h2⟩
 ·exact h2 u (hf u (by omega))
 ·exact h2 u (by omega) (hf u (by omega))

theorem u1h {a : Act} {σ : St} {w : World} {O : Nat → LS} {Im : Nat → Prop} (s : SimW G X σ a.tmps w O Im) : ∀ {xs : List Operand} {ts : List TypeId} {ods : List Od}, v0e P xs ts = some ods → RelVs w.heap Im O (ods.map (σ.ev G)) (xs.map a.eval)
 | [], ts, ods, e => by simp only [v0e, Option.some.injEq] at e; subst e; exact .nil
 | x :: xs, ts, ods, e => by
  simp only [v0e, Option.bind_eq_some_iff, Option.map_eq_some_iff] at e
  obtain ⟨o, h1, os, h2, rfl⟩ := e
  exact .cons _ _ _ _ (ud s h1) (u1h s h2)
theorem RelVs.app {h Im O} : ∀ {xs ys : List SV} {vs us : List Value}, RelVs h Im O xs vs → RelVs h Im O ys us → RelVs h Im O (xs ++ ys) (vs ++ us)
 | _, _, _, _, .nil, r => r
 | _, _, _, _, .cons x v xs vs r rs, q => .cons x v _ _ r (rs.app q)

theorem y3c {a : Act} {o : Oper} {c : Call} {x : Operand} {f : Nat} {caps : Array Value} {w : World} (ho : o.op = .call c) (hc : c.callee = .value x) (hx : a.eval x = .func (.func f) #[] caps) (hf : fOk P f = true) :
 (execOp a.eval o).run P w = .ok (.enter f (c.args.map a.eval ++ caps)) w := by
 unfold fOk at hf
 cases hg : P.funcs[f]? with
 | none => simp [hg] at hf
 | some fn =>
  rw [hg] at hf
  simp only [Bool.and_eq_true, bne_iff_ne, ne_eq] at hf
  have h1 : fn.body ≠ none := by intro h; rw [h] at hf; simp at hf
  have h2 : fn.name ≠ "runtime.NumGoroutine" := hf.2
  simp [execOp, ho, resolve, hc, hx, Deferred.ofValue, invoke, callFunc, run_program, hg, h1, h2]

theorem psRel {h Im O} : ∀ {ps : List Ptr} {vs : List Value}, vs.length = ps.length → (∀ (j : Nat) (x : Ptr), ps[j]? = some x → ∃ v, vs[j]? = some v ∧ RelP h Im O x v) → RelVs h Im O (ps.map fun x => .one (.p x)) vs
 | [], [], _, _ => .nil
 | p :: ps, v :: vs, hl, hh => by
  obtain ⟨v', h1, h2⟩ := hh 0 p (by simp)
  simp at h1; subst h1
  exact .cons _ _ _ _ (.one _ _ (.p _ _ h2)) (psRel (by simpa using hl) fun j x hx => by simpa using hh (j + 1) x (by simpa using hx))
 | [], _ :: _, hl, _ => by simp at hl
 | _ :: _, [], hl, _ => by simp at hl
theorem dsRel {h Im O} : ∀ {ds : List D} {vs : List Value}, RelCs h Im ds vs [] → vs.length = ds.length → RelVs h Im O (ds.map fun d => .one (.d d)) vs := by
 intro ds
 induction ds with
 | nil => intro vs r hl; obtain rfl : vs = [] := List.eq_nil_of_length_eq_zero (by simpa using hl); exact .nil
 | cons d ds ih =>
  intro vs r hl
  match vs, hl with
  | v :: vs, hl =>
   refine .cons _ _ _ _ ?_ (ih ?_ (by simpa using hl))
   ·obtain ⟨v', h1, h2⟩ := r.at_ 0 d (by simp)
    simp at h1; subst h1
    exact .one _ _ (.d _ _ h2)
   ·refine RelCs.of_at _ _ fun j d' hd => ?_
    obtain ⟨v', h1, h2⟩ := r.at_ (j + 1) d' (by simpa using hd)
    exact ⟨v', by simpa using h1, h2⟩

theorem w4j {a : Act} {o : Oper} {c : Call} {x : Operand} {f : Nat} {caps : Array Value} {w : World} (ho : o.op = .call c) (hc : c.callee = .value x) (hx : a.eval x = .func (.func f) #[] caps) :
 (execOp a.eval o).run P w = (callFunc f (c.args.map a.eval ++ caps)).run P w := by
 simp [execOp, ho, resolve, hc, hx, Deferred.ofValue, invoke]
theorem x3a {o : Oper} {f : Nat} {args : List Od} (hl : lowOp P o = some (.call f args)) : ∃ c, o.op = .call c ∧ c.callee = .value (.func f) ∧ v0e P c.args.toList c.argTypes.toList = some args := by
 unfold lowOp at hl
 (repeat' split at hl) <;> first
   | (cases hl; done)
   | (simp only [Option.map_eq_some_iff, Option.bind_eq_some_iff, reduceCtorEq, and_false, exists_false] at hl; done)
   | skip
 ·rename_i c hop _ x hc
  unfold z0k at hl
  split at hl
  ·simp only [Option.map_eq_some_iff] at hl
   obtain ⟨_, h1, h2⟩ := hl
   cases h2
   exact ⟨_, hop, hc, h1⟩
  ·simp only [Option.map_eq_some_iff, Option.bind_eq_some_iff, reduceCtorEq, and_false, exists_false] at hl
 ·unfold lowBi at hl
  (repeat' split at hl) <;> first
    | (cases hl; done)
    | (simp only [Option.map_eq_some_iff, Option.bind_eq_some_iff, reduceCtorEq, and_false, exists_false] at hl; done)
theorem v4w {o : Oper} {x : Od} {args : List Od} (hl : lowOp P o = some (.callv x args)) : ∃ c x', o.op = .call c ∧ c.callee = .value x' ∧ lowOd P 0 x' = some x ∧ v0e P c.args.toList c.argTypes.toList = some args := by
 unfold lowOp at hl
 (repeat' split at hl) <;> first
   | (cases hl; done)
   | (simp only [Option.map_eq_some_iff, Option.bind_eq_some_iff, reduceCtorEq, and_false, exists_false] at hl; done)
   | skip
 ·rename_i c hop _ x' hc
  unfold z0k at hl
  split at hl
  ·simp only [Option.map_eq_some_iff, reduceCtorEq, and_false, exists_false] at hl
  ·simp only [Option.map_eq_some_iff, Option.bind_eq_some_iff] at hl
   obtain ⟨_, h0, _, h1, h2⟩ := hl
   cases h2
   exact ⟨_, _, hop, hc, h0, h1⟩
 ·unfold lowBi at hl
  (repeat' split at hl) <;> first
    | (cases hl; done)
    | (simp only [Option.map_eq_some_iff, Option.bind_eq_some_iff, reduceCtorEq, and_false, exists_false] at hl; done)
theorem low_len {o : Oper} {x : Od} (hl : lowOp P o = some (.len x)) : ∃ t x', lowOd P t x' = some x := by
 unfold lowOp at hl
 (repeat' split at hl) <;> first
   | (cases hl; done)
   | (simp only [Option.map_eq_some_iff, Option.bind_eq_some_iff, reduceCtorEq, and_false, exists_false] at hl; done)
   | skip
 ·unfold z0k at hl
  split at hl
  ·simp only [Option.map_eq_some_iff, reduceCtorEq, and_false, exists_false] at hl
  ·simp only [Option.map_eq_some_iff, Option.bind_eq_some_iff, reduceCtorEq, and_false, exists_false] at hl
 ·unfold lowBi at hl
  (repeat' split at hl) <;> first
    | (cases hl; done)
    | (simp only [Option.map_eq_some_iff, Option.bind_eq_some_iff, reduceCtorEq, and_false, exists_false] at hl; done)
    | (simp only [Option.map_eq_some_iff] at hl
       obtain ⟨_, h1, h2⟩ := hl
       cases h2
       exact ⟨_, _, h1⟩)

theorem u4e {ops : Array Oper} {o : Oper} {vop : VOp} (hl : lowOp P o = some vop.strip) (hdst : o.dst.all (· < n) = true) {σ : St} {a : Act} {w : World} (hi : Inv G X n σ a w) {K : St → SV → Prop} (h : wOp P G vop σ K) {next : Act → World → Prop} {Q : Exit → Act → World → Prop}
 (hn : ∀ σ' sv a' w', K σ' sv → Inv G X n (σ'.putO o.dst sv) a' w' → next a' w') : o.wp P a w next Q := by
 obtain ⟨O, Im, s, hf, hd, hs⟩ := hi
 unfold Oper.wp
 have plain : ∀ {σ' : St} {sv : SV}, stepF G vop σ = some (σ', sv) → K σ' sv → o.upon P a next Q ((execOp a.eval o).run P w) := by
  intro σ' sv e hk
  rcases u3h hl s (hf _ (Nat.le_refl _)) e with ⟨v, w', h1, h2⟩ | ⟨w', h1, h2⟩
  ·rw [h1, Oper.upon_value]
   exact hn _ _ _ _ hk (Post.inv h2 hf hd hs hdst)
  ·rw [h1, Oper.upon_skip]
   exact hn _ _ _ _ hk (Post.inv h2 hf hd hs hdst)
 have called : ∀ {c : Call} {x : Operand} {f : Nat} {caps : Array Value} {ods : List Od} {svs : List SV}, o.op = .call c → c.callee = .value x → a.eval x = .func (.func f) #[] caps → v0e P c.args.toList c.argTypes.toList = some ods → RelVs w.heap Im O svs caps.toList →
  CallV P G f (ods.map (σ.ev G) ++ svs) σ K → o.upon P a next Q ((execOp a.eval o).run P w) := by
  intro c x f caps ods svs hop hc hx ha hr hcv
  have hra : RelVs w.heap Im O (ods.map (σ.ev G) ++ svs) (c.args.map a.eval ++ caps).toList := by simpa using RelVs.app (u1h s ha) hr
  rcases hcv with hcv | hcv
  ·rw [y3c hop hc hx hcv.1, Oper.upon_enter]
   have := hcv.2 X a.tmps w O Im (c.args.map a.eval ++ caps).toList s hf hra
   rw [Array.toArray_toList] at this
   refine Calls.mono this ?_
   rintro e w' ⟨v, σ', sv, O', Im', rfl, hk, s', hf', r⟩
   exact hn _ _ _ _ hk (Inv.put s' hf' hd hs hdst r)
  ·obtain ⟨v, w', σ', sv, O', Im', hrun, hk, s', hf', r⟩ := hcv X a.tmps w O Im (c.args.map a.eval ++ caps).toList s hf hra
   rw [Array.toArray_toList] at hrun
   rw [w4j hop hc hx, hrun, Oper.upon_value]
   exact hn _ _ _ _ hk (Inv.put s' hf' hd hs hdst r)
 cases vop
 case call f args =>
  replace hl : lowOp P o = some (.call f args) := hl
  simp only [wOp] at h
  obtain ⟨c, hop, hc, ha⟩ := x3a hl
  refine called (svs := []) (caps := #[]) hop hc rfl ha .nil (by simpa using h)
 case callv x args =>
  replace hl : lowOp P o = some (.callv x args) := hl
  obtain ⟨c, x', hop, hc, hx, ha⟩ := v4w hl
  have rx := ud s hx
  simp only [wOp] at h
  split at h
  ·rename_i fn caps he
   rw [he] at rx
   have := rx.one_inv
   generalize hv : a.eval x' = vx at this
   cases this with
   | c _ _ cv h1 h2 => exact called hop hc hv ha (psRel (by simpa using h1) (by simpa using h2)) h
  ·rename_i fn caps he
   rw [he] at rx
   have := rx.one_inv.d_inv
   generalize hv : a.eval x' = vx at this
   cases this with
   | f _ _ cv h1 h2 => exact called hop hc hv ha (dsRel h2 (by simpa using h1)) h
  ·exact h.elim
 case len x =>
  replace hl : lowOp P o = some (.len x) := hl
  simp only [wOp] at h
  obtain ⟨m, e1, h⟩ := h
  obtain ⟨t, x', hx⟩ := low_len hl
  exact plain (σ' := σ) (sv := .one (.d (.i .i64 (m : Int)))) (by simp only [stepF, e1, Option.map_some]) (h (x5i s (ud s hx).ur e1))
 case isnil neg x =>
  replace hl : lowOp P o = some (.isnil neg x) := hl
  simp only [wOp] at h
  obtain ⟨m, e1, h⟩ := h
  obtain ⟨t, u, el, x', hop, hu, hx⟩ : ∃ t u el x', o.op = .binOp (if neg = true then .neq else .eql) t x' (.const (.slice none 0 0)) u ∧ P.underlying t = some (.slice el) ∧ lowOd P t x' = some x := by
   unfold lowOp at hl
   (repeat' split at hl) <;> first
     | (cases hl; done)
     | (simp only [Option.map_eq_some_iff, Option.bind_eq_some_iff, reduceCtorEq, and_false, exists_false] at hl; done)
     | (simp only [Option.map_eq_some_iff] at hl
        obtain ⟨_, h1, h2⟩ := hl
        cases h2
        exact ⟨_, _, _, _, by simpa using (by assumption), by assumption, h1⟩)
     | (exfalso; unfold z0k at hl; split at hl <;> simp only [Option.map_eq_some_iff, Option.bind_eq_some_iff, reduceCtorEq, and_false, exists_false] at hl; done)
     | (exfalso; unfold lowBi at hl; (repeat' split at hl) <;> first | (cases hl; done) | (simp only [Option.map_eq_some_iff, Option.bind_eq_some_iff, reduceCtorEq, and_false, exists_false] at hl; done))
  obtain ⟨ad, c, hv, hne⟩ := z4x s (ud s hx) e1
  have hrun := v4v (P := P) (a := a) (w := w) hop hu hv
  rw [hrun, Oper.upon_value]
  have fin : ∀ b : Bool, K σ (.one (.d (.b b))) → (if neg = true then !ad.isNone else ad.isNone) = b → next (a.put o.dst (.bool (if neg = true then !ad.isNone else ad.isNone))) w := by
   intro b hk hb
   rw [hb]
   exact hn _ _ _ _ hk (Inv.put s hf hd hs hdst (.one _ _ (.d _ _ (.b b))))
  by_cases hm : m = 0
  ·rw [if_pos hm] at h
   exact fin _ (h _) rfl
  ·rw [if_neg hm] at h
   refine fin _ h ?_
   have := hne hm
   cases ad with
   | none => exact absurd rfl this
   | some _ => cases neg <;> rfl
 case bslw sz n z parts =>
  replace hl : lowOp P o = some (.bsl sz n z parts) := hl
  simp only [wOp] at h
  obtain ⟨⟨σ', sv⟩, e, hk⟩ := h
  obtain ⟨ty, el, i, zv, prts, hop, hu, hi, hz, rfl, h1, h2, h3, h4, h5⟩ := low_bsl hl
  rcases y5c hop hu hi hz h1 h2 h3 h4 h5 s (hf _ (Nat.le_refl _)) e with ⟨v, w', g1, g2⟩ | ⟨w', g1, g2⟩
  ·rw [g1, Oper.upon_value]
   exact hn _ _ _ _ hk (Post.inv g2 hf hd hs hdst)
  ·rw [g1, Oper.upon_skip]
   exact hn _ _ _ _ hk (Post.inv g2 hf hd hs hdst)
 case appw sz bytes x y =>
  replace hl : lowOp P o = some (.app sz bytes x y) := hl
  simp only [wOp] at h
  obtain ⟨⟨σ', sv⟩, e, hk⟩ := h
  obtain ⟨ty, el, i, zv, x', y', hop, hu, hi, hz, hzs, rfl, rfl, h1, h2⟩ := y4n hl
  rcases v5c hop hu hi hz hzs h1 h2 s (hf _ (Nat.le_refl _)) e with ⟨v, w', g1, g2⟩ | ⟨w', g1, g2⟩
  ·rw [g1, Oper.upon_value]
   exact hn _ _ _ _ hk (Post.inv g2 hf hd hs hdst)
  ·rw [g1, Oper.upon_skip]
   exact hn _ _ _ _ hk (Post.inv g2 hf hd hs hdst)
 case allocb T e0 =>
  replace hl : lowOp P o = some (.allocb T e0) := hl
  simp only [wOp] at h
  obtain ⟨hop, hb⟩ := y4i hl
  rcases w4g hop hb s (hf _ (Nat.le_refl _)) with ⟨v, w', g1, g2⟩ | ⟨w', g1, g2⟩
  ·rw [g1, Oper.upon_value]
   exact hn _ _ _ _ h (Post.inv g2 hf hd hs hdst)
  ·rw [g1, Oper.upon_skip]
   exact hn _ _ _ _ h (Post.inv g2 hf hd hs hdst)
 case apps bytes x y =>
  replace hl : lowOp P o = some (.apps bytes x y) := hl
  simp only [wOp] at h
  obtain ⟨⟨σ', sv⟩, e, hk⟩ := h
  obtain ⟨ty, tu, el, i, zv, x', y', hop, hu, htu, hi, hz, hzs, hi1, rfl, h1, h2⟩ := z5i hl
  rcases u5c hop hu htu hi hz hzs hi1 h1 h2 s (hf _ (Nat.le_refl _)) e with ⟨v, w', g1, g2⟩ | ⟨w', g1, g2⟩
  ·rw [g1, Oper.upon_value]
   exact hn _ _ _ _ hk (Post.inv g2 hf hd hs hdst)
  ·rw [g1, Oper.upon_skip]
   exact hn _ _ _ _ hk (Post.inv g2 hf hd hs hdst)
 all_goals
  simp only [wOp] at h
  obtain ⟨⟨σ', sv⟩, e, hk⟩ := h
  exact plain e hk
theorem w1k {ops : Array Oper} {o : Oper} {vop : VOp} (hl : x1t P o = some vop.strip) (hdst : o.dst.all (· < n) = true) {σ : St} {a : Act} {w : World} (hi : Inv G X n σ a w) {K : St → SV → Prop} (h : wOp P G vop σ K) {next : Act → World → Prop} {Q : Exit → Act → World → Prop}
 (hn : ∀ σ' sv a' w', K σ' sv → Inv G X n (σ'.putO o.dst sv) a' w' → next a' w') : o.wp P a w next Q := by
 rcases v1d hl with hl | hb
 ·exact u4e (ops := ops) hl hdst hi h hn
 ·rw [v3h hb] at h
  obtain ⟨r, h, _⟩ := h
  cases h

end
section
variable {G : Nat → Option (List D)} {X : Ctx} {σ : St} {tm : Array Value} {w : World} {O : Nat → LS} {Im : Nat → Prop}
def wkL (O : Nat → LS) : Option (Option VO) → Option (Option Nat) → LS
 | none, _ => .free
 | some none, _ => .gone
 | some (some _), some (some m) => O m
 | some (some (.arr sz _ _)), some none => .live ⟨none, 0, sz, []⟩
 | some (some (.tre sz _ _)), some none => .live ⟨none, 0, sz, []⟩
 | _, _ => .gone
def wkO (O : Nat → LS) (ob : List (Option VO)) (rn : List (Option Nat)) : Nat → LS := fun u => wkL O ob[u]? rn[u]?

theorem x2h {rn : List (Option Nat)} : ∀ {ob : List (Option VO)} {ms : List (Option Nat)}, vq rn σ ob ms → ob.length = ms.length ∧ ∀ (u : Nat) (o : VO), ob[u]? = some (some o) → ∃ m, ms[u]? = some m ∧ objWk rn σ (some o) m
 | [], [], _ => ⟨rfl, fun u o h => by simp at h⟩
 | o :: os, m :: ms, h => by
  obtain ⟨h1, h2⟩ := x2h (ob := os) (ms := ms) h.2
  refine ⟨by simp [h1], fun u o' ho => ?_⟩
  cases u with
  | zero => simp at ho; subst ho; exact ⟨m, rfl, h.1⟩
  | succ u => simpa using h2 u o' (by simpa using ho)
 | [], _ :: _, h => h.elim
 | _ :: _, [], h => h.elim
theorem v2h : ∀ {rn : List (Option Nat)}, zu rn = true → ∀ (u v m : Nat), rn[u]? = some (some m) → rn[v]? = some (some m) → u = v
 | [], _, u, v, m, h, _ => by simp at h
 | none :: xs, h, u, v, m, h1, h2 => by
  cases u with
  | zero => simp at h1
  | succ u => cases v with
   | zero => simp at h2
   | succ v => rw [v2h (rn := xs) (by simpa [zu] using h) u v m (by simpa using h1) (by simpa using h2)]
 | some x :: xs, h, u, v, m, h1, h2 => by
  simp only [zu, Bool.and_eq_true, Bool.not_eq_true', List.contains_eq_mem, decide_eq_false_iff_not] at h
  cases u with
  | zero =>
   simp at h1; subst h1
   cases v with
   | zero => rfl
   | succ v => exact absurd (List.mem_of_getElem? (by simpa using h2)) h.1
  | succ u => cases v with
   | zero => simp at h2; subst h2; exact absurd (List.mem_of_getElem? (by simpa using h1)) h.1
   | succ v => rw [v2h (rn := xs) h.2 u v m (by simpa using h1) (by simpa using h2)]

theorem w5f {ob : List (Option VO)} {rn : List (Option Nat)} (hl : ob.length = rn.length) {x y : Ptr} {v : Value} (h : x.wk rn y) (r : RelP w.heap Im O y v) : RelP w.heap Im (wkO O ob rn) x v := by
 cases x with
 | l sz rows i j =>
  simp only [Ptr.wk] at h; subst h
  cases r with
  | l _ _ _ _ b off c e fr h1 h2 h3 h4 => exact .l _ _ _ _ b off c e fr h1 h2 h3 h4
 | q id i j =>
  simp only [Ptr.wk] at h
  split at h
  ·rename_i m hm
   subst h
   have hid : id < ob.length := by rw [hl]; exact (List.getElem?_eq_some_iff.1 hm).1
   have hO : wkO O ob rn id = O m ∨ wkO O ob rn id = .gone := by
    unfold wkO
    rw [hm]
    cases ho : ob[id]? with
    | none => simp at ho; omega
    | some o => cases o with
     | none => exact .inr rfl
     | some o => exact .inl rfl
   cases r with
   | qd _ _ _ _ h1 h2 => exact .qd _ _ _ _ (by rcases hO with e | e <;> simp [e, h1]) h2
   | q _ _ _ b cap sz h1 =>
    rcases hO with e | e
    ·exact .q _ _ _ b cap sz (by rw [e, h1])
    ·exact .qd _ _ _ _ e rfl
  ·exact h.elim
theorem y4m {ob : List (Option VO)} {rn : List (Option Nat)} (hl : ob.length = rn.length) : ∀ {xs ys : List Ptr}, w3n rn xs ys → xs.length = ys.length ∧ ∀ (j : Nat) (x : Ptr), xs[j]? = some x → ∃ y, ys[j]? = some y ∧ x.wk rn y
 | [], [], _ => ⟨rfl, fun j x h => by simp at h⟩
 | x :: xs, y :: ys, h => by
  obtain ⟨h1, h2⟩ := y4m hl (xs := xs) (ys := ys) h.2
  refine ⟨by simp [h1], fun j x' hx => ?_⟩
  cases j with
  | zero => simp at hx; subst hx; exact ⟨y, rfl, h.1⟩
  | succ j => simpa using h2 j x' (by simpa using hx)
 | [], _ :: _, h => h.elim
 | _ :: _, [], h => h.elim
theorem sc_wk (s : SimW G X σ tm w O Im) {ob : List (Option VO)} {rn : List (Option Nat)} (hob : vq rn σ ob rn) {c c' : SC} {v : Value} (h : c.wk rn σ c') (r : RelC w.heap Im O c' v) : RelC w.heap Im (wkO O ob rn) c v := by
 have hl := (x2h hob).1
 cases c with
 | d d =>
  have h' : σ.toD c' = some d := by cases c' <;> exact h
  exact .d _ _ (v3l (a := ⟨tm, []⟩) s r h')
 | nl sz =>
  have h' : c'.isNl = true := by cases c' <;> exact h
  cases c' <;> simp [SC.isNl] at h'
  cases r; exact .nl _ _
 | r id off len =>
  have h' : match rn[id]? with | some (some m) => c'.ur = .r m off len | some none => off = 0 ∧ len = 0 ∧ c'.isNl = true | none => False := by cases c' <;> exact h
  split at h'
  ·rename_i m hm
   replace r := r.ur
   rw [h'] at r
   have hid : id < ob.length := by rw [hl]; exact (List.getElem?_eq_some_iff.1 hm).1
   have hO : wkO O ob rn id = O m ∨ wkO O ob rn id = .gone := by
    unfold wkO
    rw [hm]
    cases ho : ob[id]? with
    | none => simp at ho; omega
    | some o => cases o with
     | none => exact .inr rfl
     | some o => exact .inl rfl
   cases r with
   | rd _ _ _ _ h1 h2 => exact .rd _ _ _ _ (by rcases hO with e | e <;> simp [e, h1]) h2
   | r _ _ _ b cap sz a c h1 h2 h3 h4 =>
    rcases hO with e | e
    ·exact .r _ _ _ b cap sz a c (by rw [e, h1]) h2 h3 h4
    ·exact .rd _ _ _ _ e rfl
   | rn _ cap sz a h1 =>
    rcases hO with e | e
    ·exact .rn _ cap sz a (by rw [e, h1])
    ·exact .rd _ _ _ _ e rfl
  ·rename_i hm
   obtain ⟨rfl, rfl, h'⟩ := h'
   cases c' <;> simp [SC.isNl] at h'
   cases r with
   | nl sz a =>
   have hid : id < ob.length := by rw [hl]; exact (List.getElem?_eq_some_iff.1 hm).1
   cases ho : ob[id]? with
   | none => simp at ho; omega
   | some o =>
    have hw : wkO O ob rn id = wkL O (some o) (some none) := by unfold wkO; rw [hm, ho]
    cases o with
    | none => exact .rd _ _ _ _ (by rw [hw]; rfl) rfl
    | some o =>
     cases o with
     | bld => exact .rd _ _ _ _ (by rw [hw]; rfl) rfl
     | box cells => exact .rd _ _ _ _ (by rw [hw]; rfl) rfl
     | arr sz' rows fz => exact .rn _ 0 sz' a (by rw [hw]; rfl)
     | tre sz' rows foc => exact .rn _ 0 sz' a (by rw [hw]; rfl)
  ·exact h'.elim
 | p x =>
  cases c' <;> simp only [SC.wk] at h
  cases r with | p _ _ r => exact .p _ _ (w5f hl h r)
 | c fn caps =>
  cases c' <;> simp only [SC.wk] at h
  obtain ⟨rfl, h⟩ := h
  obtain ⟨g1, g2⟩ := y4m hl h
  cases r with
  | c _ _ cv h1 h2 =>
   refine .c _ _ cv (by rw [h1, g1]) fun j x hx => ?_
   obtain ⟨y, hy, hxy⟩ := g2 j x hx
   obtain ⟨v, hv, hr⟩ := h2 j y hy
   exact ⟨v, hv, w5f hl hxy hr⟩
 | dead => exact .dead _ r.one
 | rc => cases c' <;> simp only [SC.wk] at h
theorem u2e (s : SimW G X σ tm w O Im) {ob : List (Option VO)} {rn : List (Option Nat)} (hob : vq rn σ ob rn) : ∀ {cs cs' : List SC} {vs : List Value}, x1p rn σ cs cs' → RelCl w.heap Im O cs' vs → RelCl w.heap Im (wkO O ob rn) cs vs
 | [], [], _, _, r => by cases r; exact .nil
 | c :: cs, c' :: cs', _, h, r => by
  cases r with
  | cons _ v _ vs r1 r2 => exact .cons _ _ _ _ (sc_wk s hob h.1 r1) (u2e s hob h.2 r2)
 | [], _ :: _, _, h, _ => h.elim
 | _ :: _, [], _, h, _ => h.elim
theorem sv_wk (s : SimW G X σ tm w O Im) {ob : List (Option VO)} {rn : List (Option Nat)} (hob : vq rn σ ob rn) {x y : SV} {v : Value} (h : x.wk rn σ y) (r : RelV w.heap Im O y v) : RelV w.heap Im (wkO O ob rn) x v := by
 cases x with
 | one c =>
  cases y <;> simp only [SV.wk] at h
  exact .one _ _ (sc_wk s hob h r.one_inv)
 | agg cs =>
  cases y <;> simp only [SV.wk] at h
  obtain ⟨cv, rfl, rr⟩ := r.agg_inv
  exact .agg _ _ (u2e s hob h rr)
 | dead => exact .dead _
 | und => cases y <;> simp only [SV.wk] at h; cases r; exact .und
 | tup vs => cases y <;> simp only [SV.wk] at h
theorem z3y (s : SimW G X σ tm w O Im) {ob : List (Option VO)} {rn : List (Option Nat)} (hob : vq rn σ ob rn) : ∀ {sl : List (Nat × SV)}, yo rn σ sl → ∀ t, RelV w.heap Im (wkO O ob rn) (lookS sl t) (tmAt X.gh tm t)
 | [], _, t => .dead _
 | (k, v) :: r, h, t => by
  simp only [lookS]
  split
  ·rename_i e; subst e; exact sv_wk s hob h.1 (s.slot t)
  ·exact z3y s hob h.2 t
theorem SimW.wk0 (s : SimW G X σ tm w O Im) {rn : List (Option Nat)} {sl : List (Nat × SV)} {ob : List (Option VO)} (h1 : zu rn = true) (h2 : yo rn σ sl) (h3 : vq rn σ ob rn) : ∃ O', SimW G X (St.of sl ob) tm w O' Im ∧ ∀ u, (St.of sl ob).next ≤ u → O' u = .free := by
 obtain ⟨hl, hat⟩ := x2h h3
 have key : ∀ u o, (St.of sl ob).objs u = some o → ob[u]? = some (some o) := by
  intro u o ho
  have : (ob[u]?).join = some o := ho
  cases hx : ob[u]? with
  | none => rw [hx] at this; cases this
  | some y => rw [hx] at this; simp at this; subst this; rfl
 have two : ∀ u o, (St.of sl ob).objs u = some o → (rn[u]? = some none ∧ ∃ sz, ((∃ fz, o = .arr sz [] fz) ∨ o = .tre sz [] none) ∧ wkO O ob rn u = .live ⟨none, 0, sz, []⟩) ∨ ∃ m o', rn[u]? = some (some m) ∧ σ.objs m = some o' ∧ o.wk rn σ o' ∧ wkO O ob rn u = O m := by
  intro u o ho
  have hu := key u o ho
  obtain ⟨m, hm, hw⟩ := hat u o hu
  cases m with
  | none =>
   left
   refine ⟨hm, ?_⟩
   cases o with
   | bld => exact hw.elim
   | box cells => exact hw.elim
   | arr sz rows fz =>
    cases rows with
    | nil => exact ⟨sz, .inl ⟨fz, rfl⟩, by unfold wkO; rw [hu, hm]; rfl⟩
    | cons _ _ => exact hw.elim
   | tre sz rows foc =>
    cases rows with
    | nil =>
     cases foc with
     | none => exact ⟨sz, .inr rfl, by unfold wkO; rw [hu, hm]; rfl⟩
     | some _ => exact hw.elim
    | cons _ _ => exact hw.elim
  | some m =>
   right
   have hw' : y3o rn σ o (σ.obj m) := by cases o <;> exact hw
   cases ho' : σ.obj m with
   | none => rw [ho'] at hw'; exact hw'.elim
   | some o' => rw [ho'] at hw'; exact ⟨m, o', hm, ho', hw', by unfold wkO; rw [hu, hm]; rfl⟩
 have own : ∀ o o' l b, o.wk rn σ o' → (Own o l b ↔ Own o' l b) := by
  intro o o' l b h
  cases o with
  | bld T e l0 =>
   cases o' with
   | bld => exact Iff.rfl
   | box => simp only [VO.wk] at h
   | tre => simp only [VO.wk] at h
   | arr => simp only [VO.wk] at h
  | arr sz rows fz =>
   cases o' with
   | bld => simp only [VO.wk] at h
   | box => simp only [VO.wk] at h
   | tre => simp only [VO.wk] at h
   | arr sz' rows' fz' =>
    simp only [VO.wk] at h
    obtain ⟨⟨_, e⟩, _⟩ := h
    rw [e]
    cases fz <;> exact Iff.rfl
  | box cells =>
   cases o' with
   | bld => simp only [VO.wk] at h
   | box => exact Iff.rfl
   | tre => simp only [VO.wk] at h
   | arr => simp only [VO.wk] at h
  | tre sz rows foc =>
   cases o' with
   | bld => cases foc <;> simp only [VO.wk] at h
   | box => cases foc <;> simp only [VO.wk] at h
   | arr => cases foc <;> simp only [VO.wk] at h
   | tre => exact Iff.rfl
 refine ⟨wkO O ob rn, ⟨s.ext, s.ownlt, s.imlt, s.im0, s.im1, ?_, ?_, ?_, z3y s h3 h2, s.glob⟩, ?_⟩
 ·intro u hu l hl'
  have : (ob[u]?).join = none := hu
  unfold wkO at hl'
  cases hx : ob[u]? with
  | none => rw [hx] at hl'; cases hl'
  | some y => rw [hx] at this hl'; simp at this; subst this; cases hl'
 ·intro u o ho
  rcases two u o ho with ⟨_, sz, ⟨fz0, rfl⟩ | rfl, hO⟩ | ⟨m, o', hm, hobj, hwk, hO⟩
  ·exact ⟨_, hO, .an _ _ _, fun b hb => by cases fz0 <;> simp [Own] at hb⟩
  ·exact ⟨_, hO, .tn _ _, fun b hb => by simp [Own] at hb⟩
  ·obtain ⟨l, g1, g2, g3⟩ := s.obj m o' hobj
   refine ⟨l, by rw [hO, g1], ?_, fun b hb => g3 b ((own o o' l b hwk).1 hb)⟩
   cases o with
   | bld T e l0 =>
    cases o' <;> simp only [VO.wk] at hwk
    obtain ⟨rfl, rfl, rfl⟩ := hwk
    cases g2 with
    | bld _ _ _ b sub k1 k2 k3 k4 => exact .bld _ _ _ b sub k1 k2 k3 k4
   | arr sz rows fz =>
    cases o' <;> simp only [VO.wk] at hwk
    obtain ⟨⟨rfl, rfl⟩, t, ht⟩ := hwk
    cases g2 with
    | an =>
     obtain rfl : rows = [] := (List.append_eq_nil_iff.1 ht).1
     exact .an _ _ _
    | arr _ _ _ b cap c e fr k1 k2 k3 k4 k5 k6 k7 k8 =>
     subst ht
     refine .arr _ _ _ b cap c e fr k1 k2 (fun r hr => k3 r (List.mem_append_left _ hr)) (by simp at k4; omega) k5 k6 ?_ k8
     have := k7.take rows.flatten.length
     simpa using this
   | box cells =>
    cases o' <;> simp only [VO.wk] at hwk
    cases g2 with
    | box _ b c e k1 k2 k3 =>
     have hr := u2e s h3 hwk k2
     have h5 := k2.len; have h6 := hr.len
     have := RelO.box (h := w.heap) (Im := Im) (O := wkO O ob rn) cells b c e k1 hr k3
     rw [h6, ← h5] at this; exact this
   | tre sz rows foc =>
    cases o' with
    | bld => cases foc <;> simp only [VO.wk] at hwk
    | box => cases foc <;> simp only [VO.wk] at hwk
    | arr => cases foc <;> simp only [VO.wk] at hwk
    | tre sz' rows' foc' =>
     cases foc with
     | some fp =>
      cases foc' with
      | none => simp only [VO.wk] at hwk
      | some fp' =>
       obtain ⟨i, cs⟩ := fp
       obtain ⟨i', cs'⟩ := fp'
       simp only [VO.wk] at hwk
       obtain ⟨⟨rfl, rfl, rfl⟩, hc⟩ := hwk
       cases g2 with
       | tre _ _ _ b cap c e sub k1 k2 k3 k4 k5 k6 k7 k8 k9 => exact .tre _ _ _ b cap c e sub k1 k2 k3 k4 k5 k6 k7 k8 ⟨k9.1, u2e s h3 hc k9.2⟩
     | none =>
      cases foc' with
      | some _ => simp only [VO.wk] at hwk
      | none =>
       simp only [VO.wk] at hwk
       obtain ⟨rfl, rfl⟩ := hwk
       cases g2 with
       | tn => exact .tn _ _
       | tre _ _ _ b cap c e sub k1 k2 k3 k4 k5 k6 k7 k8 k9 => exact .tre _ _ _ b cap c e sub k1 k2 k3 k4 k5 k6 k7 k8 trivial
 ·intro u u' o o' l l' b hne ho ho' hlu hlu' hb
  rcases two u o ho with ⟨_, sz, ho1, hO⟩ | ⟨m, p, hm, hobj, hwk, hO⟩
  ·rw [hO] at hlu; cases hlu
   rcases ho1 with ⟨fz0, rfl⟩ | rfl
   ·cases fz0 <;> simp [Own] at hb
   ·simp [Own] at hb
  ·rcases two u' o' ho' with ⟨_, sz, ho1', hO'⟩ | ⟨m', p', hm', hobj', hwk', hO'⟩
   ·rw [hO'] at hlu'; cases hlu'
    rcases ho1' with ⟨fz0, rfl⟩ | rfl
    ·cases fz0 <;> simp [Own]
    ·simp [Own]
   ·rw [own _ _ _ _ hwk']
    rw [own _ _ _ _ hwk] at hb
    rw [hO] at hlu; rw [hO'] at hlu'
    refine s.disj m m' p p' l l' b (fun e => ?_) hobj hobj' hlu hlu' hb
    subst e
    exact hne (v2h h1 u u' m hm hm')
 ·intro u hu
  have hu' : ob.length ≤ u := hu
  unfold wkO
  rw [List.getElem?_eq_none hu']; rfl
theorem SimW.wk (s : SimW G X σ tm w O Im) (hf : ∀ u, σ.next ≤ u → O u = .free) {sl : List (Nat × SV)} {ob : List (Option VO)} (h : Wk σ sl ob) : ∃ O' Im', SimW G X (St.of sl ob) tm w O' Im' ∧ ∀ u, (St.of sl ob).next ≤ u → O' u = .free := by
 obtain ⟨rn, fs, h1, h2, h3⟩ := h
 obtain ⟨O1, Im', s', hf', _, _, _⟩ := (y2i fs s hf).ex
 obtain ⟨O', g1, g2⟩ := s'.wk0 h1 h2 h3
 exact ⟨O', Im', g1, g2⟩
end
theorem Inv.wk {G : Nat → Option (List D)} {X : Ctx} {n : Nat} {σ : St} {a : Act} {w : World} (h : Inv G X n σ a w) {sl : List (Nat × SV)} {ob : List (Option VO)} (hw : Wk σ sl ob) : Inv G X n (St.of sl ob) a w := by
 obtain ⟨O, Im, s, hf, hd, hs⟩ := h
 obtain ⟨O', Im', s', hf'⟩ := s.wk hf hw
 exact ⟨O', Im', s', hf', hd, hs⟩
section
variable {G : Nat → Option (List D)} {σ τ σ' : St} {v : SV}
theorem ev_eq {x : Od} (h : ∀ t ∈ odSl x, σ.slots t = τ.slots t) : τ.ev G x = σ.ev G x := by
 cases x with
 | t n => exact (h n (by simp [odSl])).symm
 | _ => rfl
theorem w1d {x : Option Od} (h : ∀ t ∈ oodSl x, σ.slots t = τ.slots t) : optI G τ x = optI G σ x := by
 cases x with
 | none => rfl
 | some x => simp only [optI]; rw [ev_eq (σ := σ) h]
theorem z2u : ∀ {ps : List (Nat × Nat × Od)} {z : List SC}, (∀ p ∈ ps, ∀ t ∈ odSl p.2.2, σ.slots t = τ.slots t) → τ.fill G z ps = σ.fill G z ps
 | [], z, _ => rfl
 | (off, n, x) :: r, z, h => by
  have hx : τ.ev G x = σ.ev G x := ev_eq (σ := σ) (h (off, n, x) (by simp))
  have ih : ∀ z, τ.fill G z r = σ.fill G z r := fun z => z2u fun p hp => h p (by simp [hp])
  simp only [St.fill, hx, ih]
theorem x4m : ∀ {xs : List Od}, (∀ x ∈ xs, ∀ t ∈ odSl x, σ.slots t = τ.slots t) → psOf G τ xs = psOf G σ xs
 | [], _ => rfl
 | x :: xs, h => by
  simp only [psOf]
  rw [ev_eq (σ := σ) (h x (by simp)), x4m fun x hx => h x (by simp [hx])]
theorem v3i : ∀ {xs : List Od}, (∀ x ∈ xs, ∀ t ∈ odSl x, σ.slots t = τ.slots t) → xs.map (τ.ev G) = xs.map (σ.ev G)
 | [], _ => rfl
 | x :: xs, h => by
  simp only [List.map_cons]
  rw [ev_eq (σ := σ) (h x (by simp)), v3i fun x hx => h x (by simp [hx])]

theorem z4p {op : VOp} (hc : clsOf op = .p) (hs : ∀ t ∈ opSl op, σ.slots t = τ.slots t) (e : stepF G op σ = some (σ', v)) : σ' = σ ∧ stepF G op τ = some (τ, v) := by
 cases op <;> simp only [clsOf, reduceCtorEq] at hc <;> simp only [opSl, List.mem_append, List.mem_flatMap] at hs <;> simp only [stepF] at e ⊢
 case app sz b x y => exact absurd hc (z1a x)
 case appq sz b x y => exact absurd hc (z1a x)
 case bad => cases e
 case gho => cases e
 case appw sz b x y => exact absurd hc (z1a x)
 case appr sz b x y => exact absurd hc (z1a x)
 case mv x =>
  simp only [Option.some.injEq, Prod.mk.injEq] at e ⊢; obtain ⟨rfl, rfl⟩ := e
  exact ⟨rfl, trivial, ev_eq hs⟩
 case pick c a b =>
  simp only [Option.map_eq_some_iff, Prod.mk.injEq] at e ⊢; obtain ⟨t, e, rfl, rfl⟩ := e
  rw [ev_eq (σ := σ) (x := c) (fun t h => hs t (.inl h)), ev_eq (σ := σ) (x := a) (fun t h => hs t (.inr (.inl h))), ev_eq (σ := σ) (x := b) (fun t h => hs t (.inr (.inr h)))]
  exact ⟨rfl, t, e, trivial, rfl⟩
 case build z ps =>
  simp only [Option.map_eq_some_iff, Prod.mk.injEq] at e ⊢; obtain ⟨t, e, rfl, rfl⟩ := e
  rw [z2u (σ := σ) (fun p hp t ht => hs t ⟨p, hp, ht⟩)]
  exact ⟨rfl, t, e, trivial, rfl⟩
 case fl agg off n x =>
  rw [ev_eq (σ := σ) hs]
  simp only [Option.bind_eq_some_iff] at e ⊢; obtain ⟨cs, e1, e⟩ := e
  split at e
  ·rename_i hle
   simp only [Option.map_eq_some_iff, Prod.mk.injEq] at e; obtain ⟨t, e, rfl, rfl⟩ := e
   refine ⟨rfl, cs, e1, ?_⟩
   rw [if_pos hle]; simp [e]
  ·cases e
 case ix x i =>
  rw [ev_eq (σ := σ) (x := x) (fun t h => hs t (.inl h)), ev_eq (σ := σ) (x := i) (fun t h => hs t (.inr h))]
  simp only [Option.bind_eq_some_iff] at e ⊢; obtain ⟨n, e1, s, e2, e⟩ := e
  split at e
  ·rename_i hle
   simp only [Option.some.injEq, Prod.mk.injEq] at e; obtain ⟨rfl, rfl⟩ := e
   refine ⟨rfl, n, e1, s, e2, ?_⟩
   rw [if_pos hle]
  ·cases e
 case sls x lo hi =>
  rw [ev_eq (σ := σ) (x := x) (fun t h => hs t (.inl h)), w1d (σ := σ) (x := lo) (fun t h => hs t (.inr (.inl h))), w1d (σ := σ) (x := hi) (fun t h => hs t (.inr (.inr h)))]
  simp only [Option.bind_eq_some_iff] at e ⊢; obtain ⟨s, e1, l, e2, h, e3, e⟩ := e
  split at e
  ·rename_i hle
   simp only [Option.some.injEq, Prod.mk.injEq] at e; obtain ⟨rfl, rfl⟩ := e
   refine ⟨rfl, s, e1, l, e2, h, e3, ?_⟩
   rw [if_pos hle]
  ·cases e
 case sla n z x lo hi =>
  rw [ev_eq (σ := σ) (x := x) (fun t h => hs t (.inl h)), w1d (σ := σ) (x := lo) (fun t h => hs t (.inr (.inl h))), w1d (σ := σ) (x := hi) (fun t h => hs t (.inr (.inr h)))]
  simp only [Option.bind_eq_some_iff, Option.map_eq_some_iff, Prod.mk.injEq] at e ⊢; obtain ⟨l, e2, h, e3, t, e, rfl, rfl⟩ := e
  exact ⟨rfl, l, e2, h, e3, t, e, trivial, rfl⟩
 case bin k o x y =>
  rw [ev_eq (σ := σ) (x := x) (fun t h => hs t (.inl h)), ev_eq (σ := σ) (x := y) (fun t h => hs t (.inr h))]
  simp only [Option.map_eq_some_iff, Prod.mk.injEq] at e ⊢; obtain ⟨t, e, rfl, rfl⟩ := e
  exact ⟨rfl, t, e, trivial, rfl⟩
 case eqs n k x y =>
  rw [ev_eq (σ := σ) (x := x) (fun t h => hs t (.inl h)), ev_eq (σ := σ) (x := y) (fun t h => hs t (.inr h))]
  simp only [Option.bind_eq_some_iff, Option.map_eq_some_iff, Prod.mk.injEq] at e ⊢; obtain ⟨a, e1, b, e2, t, e, rfl, rfl⟩ := e
  exact ⟨rfl, a, e1, b, e2, t, e, trivial, rfl⟩
 case un o x =>
  rw [ev_eq (σ := σ) hs]
  simp only [Option.map_eq_some_iff, Prod.mk.injEq] at e ⊢; obtain ⟨t, e, rfl, rfl⟩ := e
  exact ⟨rfl, t, e, trivial, rfl⟩
 case cvi k x =>
  rw [ev_eq (σ := σ) hs]
  simp only [Option.map_eq_some_iff, Prod.mk.injEq] at e ⊢; obtain ⟨t, e, rfl, rfl⟩ := e
  exact ⟨rfl, t, e, trivial, rfl⟩
 case cid x =>
  rw [ev_eq (σ := σ) hs]
  simp only [Option.map_eq_some_iff, Prod.mk.injEq] at e ⊢; obtain ⟨t, e, rfl, rfl⟩ := e
  exact ⟨rfl, t, e, trivial, rfl⟩
 case lens x =>
  rw [ev_eq (σ := σ) hs]
  simp only [Option.map_eq_some_iff, Prod.mk.injEq] at e ⊢; obtain ⟨t, e, rfl, rfl⟩ := e
  exact ⟨rfl, t, e, trivial, rfl⟩
 case inil n x =>
  rw [ev_eq (σ := σ) hs]
  simp only [Option.map_eq_some_iff, Prod.mk.injEq] at e ⊢; obtain ⟨t, e, rfl, rfl⟩ := e
  exact ⟨rfl, t, e, trivial, rfl⟩
 case mkf f cs =>
  rw [x4m (σ := σ) (fun p hp t ht => hs t ⟨p, hp, ht⟩)]
  simp only [Option.map_eq_some_iff, Prod.mk.injEq] at e ⊢; obtain ⟨t, e, rfl, rfl⟩ := e
  exact ⟨rfl, t, e, trivial, rfl⟩
 case ext x i =>
  rw [ev_eq (σ := σ) hs]
  simp only [Option.map_eq_some_iff, Prod.mk.injEq] at e ⊢; obtain ⟨t, e, rfl, rfl⟩ := e
  exact ⟨rfl, t, e, trivial, rfl⟩
 case mm b x y =>
  rw [ev_eq (σ := σ) (x := x) (fun t h => hs t (.inl h)), ev_eq (σ := σ) (x := y) (fun t h => hs t (.inr h))]
  simp only [Option.map_eq_some_iff, Prod.mk.injEq] at e ⊢; obtain ⟨t, e, rfl, rfl⟩ := e
  exact ⟨rfl, t, e, trivial, rfl⟩

def ObjLe (σ τ : St) : Prop := ∀ u o, σ.objs u = some o → τ.objs u = some o
theorem ObjLe.obj (h : ObjLe σ τ) {u : Nat} {o : VO} (e : σ.obj u = some o) : τ.obj u = some o := h u o e
theorem ld_le (h : ObjLe σ τ) {n : Nat} {p : Ptr} {cs : List SC} (e : σ.ld n p = some cs) : τ.ld n p = some cs := by
 cases p with
 | l => exact e
 | q id i j =>
  simp only [St.ld] at e ⊢
  split at e
  ·rename_i ho; rw [h.obj ho]; exact e
  ·rename_i ho; rw [h.obj ho]; exact e
  ·rename_i ho; rw [h.obj ho]; exact e
  ·rename_i ho; rw [h.obj ho]; exact e
  ·cases e
  ·cases e
theorem w3e (h : ObjLe σ τ) {p : Ptr} (e : σ.alive p = true) : τ.alive p = true := by
 cases p with
 | l => rfl
 | q id i j =>
  simp only [St.alive, Option.isSome_iff_exists] at e ⊢
  obtain ⟨o, ho⟩ := e
  exact ⟨o, h.obj ho⟩
theorem toD_le (h : ObjLe σ τ) {c : SC} {d : D} (e : σ.toD c = some d) : τ.toD c = some d := by
 cases c with
 | r id off len =>
  simp only [St.toD] at e ⊢
  split at e
  ·rename_i ho; rw [h.obj ho]; exact e
  ·cases e
 | _ => exact e
theorem z1c (h : ObjLe σ τ) : ∀ {cs : List SC} {ds : List D}, σ.toDs cs = some ds → τ.toDs cs = some ds
 | [], ds, e => e
 | c :: cs, ds, e => by
  simp only [St.toDs] at e ⊢
  split at e
  ·rename_i d ds' h1 h2
   rw [toD_le h h1, z1c h h2]
   exact e
  ·cases e
theorem lenV_le (h : ObjLe σ τ) {x : SV} {n : Nat} (e : σ.lenV x = some n) : τ.lenV x = some n := by
 unfold St.lenV at e ⊢
 split at e
 ·exact e
 ·exact e
 ·rename_i id off len
  split at e
  ·rename_i ho
   obtain ⟨o, ho⟩ := Option.isSome_iff_exists.1 ho
   simp [h.obj ho, e]
  ·cases e
 ·cases e
theorem u0s (h : ObjLe σ τ) {sz : Nat} {x : SV} {r : List (List D)} (e : σ.rowsOf sz x = some r) : τ.rowsOf sz x = some r := by
 unfold St.rowsOf at e ⊢
 split at e
 ·exact e
 ·exact e
 ·split at e
  ·rename_i ho; rw [h.obj ho]; exact e
  ·cases e
 ·cases e
theorem ia_le (h : ObjLe σ τ) {sz : Nat} {n : Int} {x r : SV} (e : σ.ia sz n x = some r) : τ.ia sz n x = some r := by
 unfold St.ia at e ⊢
 split at e
 ·exact e
 ·rename_i id off len
  split at e
  ·rename_i ho
   rw [h.obj ho]
   exact e
  ·rename_i ho
   rw [h.obj ho]
   exact e
  ·cases e
 ·cases e
theorem iaa_le (h : ObjLe σ τ) {m sz : Nat} {n : Int} {x r : SV} (e : σ.iaa m sz n x = some r) : τ.iaa m sz n x = some r := by
 unfold St.iaa at e ⊢
 split at e
 ·exact e
 ·split at e
  ·rename_i hc
   rw [if_pos ⟨hc.1, w3e h hc.2⟩]; exact e
  ·cases e
 ·cases e
theorem sl3V_le (h : ObjLe σ τ) {sz : Nat} {x r : SV} {lo hi mx : Int} (e : σ.sl3V sz x lo hi mx = some r) : τ.sl3V sz x lo hi mx = some r := by
 unfold St.sl3V at e ⊢
 split at e
 ·exact e
 ·exact e
 ·rename_i id off len
  split at e
  ·rename_i ho
   rw [h.obj ho]
   exact e
  ·cases e
 ·cases e
theorem slV_le (h : ObjLe σ τ) {sz : Nat} {x r : SV} {lo hi : Option Int} (e : σ.slV sz x lo hi = some r) : τ.slV sz x lo hi = some r := by
 unfold St.slV at e ⊢
 split at e
 ·exact e
 ·rename_i id off len
  split at e
  ·rename_i ho
   rw [h.obj ho]
   exact e
  ·cases e
 ·exact e
 ·rename_i id off len cp
  split at e
  ·rename_i ho
   rw [h.obj ho]
   exact e
  ·cases e
 ·cases e
theorem capV_le (h : ObjLe σ τ) {x : SV} {n : Nat} (e : σ.capV x = some n) : τ.capV x = some n := by
 unfold St.capV at e ⊢
 split at e
 ·exact e
 ·split at e
  ·rename_i ho
   obtain ⟨o, ho⟩ := Option.isSome_iff_exists.1 ho
   rw [h.obj ho]
   exact e
  ·cases e
 ·cases e
theorem appz_le (h : ObjLe σ τ) {sz b l : Nat} {ds : List D} {x : SV} {r : List (List D)} (e : σ.appz sz b ds l x = some r) : τ.appz sz b ds l x = some r := by
 unfold St.appz at e ⊢
 split at e
 ·exact e
 ·split at e
  ·rename_i ho
   rw [h.obj ho]
   exact e
  ·cases e
 ·cases e
theorem y4p {op : VOp} (hc : clsOf op = .m) (hcall : ∀ f as, op ≠ .call f as) (hs : ∀ t ∈ opSl op, σ.slots t = τ.slots t) (ho : ObjLe σ τ) (hn : τ.next = σ.next) (e : stepF G op σ = some (σ', v)) :
 (σ' = σ ∧ stepF G op τ = some (τ, v)) ∨ (∃ o, makes op = true ∧ σ' = σ.new o ∧ stepF G op τ = some (τ.new o, v)) := by
 cases op <;> simp only [clsOf, reduceCtorEq] at hc <;> simp only [opSl, List.mem_append, List.mem_flatMap] at hs <;> simp only [stepF] at e ⊢
 case appr sz b x y =>
  obtain ⟨n, rfl⟩ := w3d hc
  simp only [Option.bind_eq_some_iff] at e; obtain ⟨news, e1, e⟩ := e
  simp only [St.ev, St.appr] at e
  cases e
 case bslw => cases e
 case appw => cases e
 case call f as => exact absurd rfl (hcall f as)
 case alloc z =>
  simp only [Option.some.injEq, Prod.mk.injEq] at e; obtain ⟨rfl, rfl⟩ := e
  exact .inr ⟨_, rfl, rfl, by rw [hn]⟩
 case box n x =>
  rw [ev_eq (σ := σ) hs]
  simp only [Option.bind_eq_some_iff] at e; obtain ⟨cs, e1, e⟩ := e
  split at e
  ·rename_i hl
   simp only [Option.some.injEq, Prod.mk.injEq] at e; obtain ⟨rfl, rfl⟩ := e
   refine .inr ⟨_, rfl, rfl, ?_⟩
   simp [e1, hl, hn]
  ·cases e
 case boxk n x =>
  rw [ev_eq (σ := σ) hs]
  simp only [Option.bind_eq_some_iff] at e; obtain ⟨cs, e1, e⟩ := e
  split at e
  ·rename_i hl
   simp only [Option.map_eq_some_iff, Prod.mk.injEq] at e; obtain ⟨ds, e2, rfl, rfl⟩ := e
   refine .inl ⟨rfl, ?_⟩
   simp [e1, hl, z1c ho e2]
  ·cases e
 case bsl sz n z ps =>
  have hf : τ.fill G (List.replicate n z).flatten (mul1 sz ps) = σ.fill G (List.replicate n z).flatten (mul1 sz ps) := by
   refine z2u fun p hp t ht => ?_
   have : ∀ {ps : List (Nat × Od)}, p ∈ mul1 sz ps → ∃ q ∈ ps, q.2 = p.2.2 := by
    intro ps
    induction ps with
    | nil => intro h; simp [mul1] at h
    | cons q r ih =>
     intro h
     obtain ⟨i, x⟩ := q
     simp only [mul1, List.mem_cons] at h
     rcases h with rfl | h
     ·exact ⟨(i, x), by simp, rfl⟩
     ·obtain ⟨q, hq, hx⟩ := ih h; exact ⟨q, by simp [hq], hx⟩
   obtain ⟨q, hq, hx⟩ := this hp
   exact hs t ⟨q, hq, by rw [hx]; exact ht⟩
  rw [hf]
  simp only [Option.bind_eq_some_iff, Option.map_eq_some_iff, Prod.mk.injEq] at e; obtain ⟨cs, e1, ds, e2, rfl, rfl⟩ := e
  refine .inr ⟨_, rfl, rfl, ?_⟩
  simp [e1, z1c ho e2, hn]
 case bslf sz n z ps =>
  have hf : τ.fill G (List.replicate n z).flatten (mul1 sz ps) = σ.fill G (List.replicate n z).flatten (mul1 sz ps) := by
   refine z2u fun p hp t ht => ?_
   have : ∀ {ps : List (Nat × Od)}, p ∈ mul1 sz ps → ∃ q ∈ ps, q.2 = p.2.2 := by
    intro ps
    induction ps with
    | nil => intro h; simp [mul1] at h
    | cons q r ih =>
     intro h
     obtain ⟨i, x⟩ := q
     simp only [mul1, List.mem_cons] at h
     rcases h with rfl | h
     ·exact ⟨(i, x), by simp, rfl⟩
     ·obtain ⟨q, hq, hx⟩ := ih h; exact ⟨q, by simp [hq], hx⟩
   obtain ⟨q, hq, hx⟩ := this hp
   exact hs t ⟨q, hq, by rw [hx]; exact ht⟩
  rw [hf]
  simp only [Option.bind_eq_some_iff, Option.map_eq_some_iff, Prod.mk.injEq] at e; obtain ⟨cs, e1, ds, e2, rfl, rfl⟩ := e
  refine .inr ⟨_, rfl, rfl, ?_⟩
  simp [e1, z1c ho e2, hn]
 case mks sz b z l c =>
  rw [ev_eq (σ := σ) (x := l) (fun t h => hs t (.inl h)), ev_eq (σ := σ) (x := c) (fun t h => hs t (.inr h))]
  simp only [Option.bind_eq_some_iff] at e; obtain ⟨n, e1, m, e2, ds, e3, e⟩ := e
  split at e
  ·rename_i hl
   simp only [Option.some.injEq, Prod.mk.injEq] at e; obtain ⟨rfl, rfl⟩ := e
   refine .inr ⟨_, rfl, rfl, ?_⟩
   simp only [e1, e2, z1c ho e3, Option.bind_some]
   rw [if_pos hl, hn]
  ·cases e
 case appz sz b z x n =>
  rw [ev_eq (σ := σ) (x := x) (fun t h => hs t (.inl h)), ev_eq (σ := σ) (x := n) (fun t h => hs t (.inr h))]
  simp only [Option.bind_eq_some_iff] at e; obtain ⟨l, e2, ds, e3, e⟩ := e
  split at e
  ·rename_i hl
   simp only [Option.map_eq_some_iff, Prod.mk.injEq] at e; obtain ⟨rows, e4, rfl, rfl⟩ := e
   refine .inr ⟨_, rfl, rfl, ?_⟩
   simp only [e2, z1c ho e3, Option.bind_some]
   rw [if_pos hl, appz_le ho e4, hn]; rfl
  ·cases e
 case cap x =>
  rw [ev_eq (σ := σ) hs]
  simp only [Option.map_eq_some_iff, Prod.mk.injEq] at e; obtain ⟨n, e1, rfl, rfl⟩ := e
  exact .inl ⟨rfl, by simp [capV_le ho e1]⟩
 case ld agg n x =>
  rw [ev_eq (σ := σ) hs]
  simp only [Option.bind_eq_some_iff, Option.map_eq_some_iff, Prod.mk.injEq] at e; obtain ⟨p, e1, cs, e2, u, e3, rfl, rfl⟩ := e
  exact .inl ⟨rfl, by simp [e1, ld_le ho e2, e3]⟩
 case fa off x =>
  rw [ev_eq (σ := σ) hs]
  simp only [Option.bind_eq_some_iff] at e; obtain ⟨p, e1, e⟩ := e
  split at e
  ·rename_i ha
   simp only [Option.some.injEq, Prod.mk.injEq] at e; obtain ⟨rfl, rfl⟩ := e
   exact .inl ⟨rfl, by simp [e1, w3e ho ha]⟩
  ·cases e
 case nilchk x =>
  rw [ev_eq (σ := σ) hs]
  simp only [Option.bind_eq_some_iff] at e; obtain ⟨p, e1, e⟩ := e
  split at e
  ·rename_i ha
   simp only [Option.some.injEq, Prod.mk.injEq] at e; obtain ⟨rfl, rfl⟩ := e
   exact .inl ⟨rfl, by simp [e1, w3e ho ha]⟩
  ·cases e
 case ia sz x i =>
  rw [ev_eq (σ := σ) (x := x) (fun t h => hs t (.inl h)), ev_eq (σ := σ) (x := i) (fun t h => hs t (.inr h))]
  simp only [Option.bind_eq_some_iff, Option.map_eq_some_iff, Prod.mk.injEq] at e; obtain ⟨n, e1, u, e2, rfl, rfl⟩ := e
  exact .inl ⟨rfl, by simp [e1, ia_le ho e2]⟩
 case appf sz b n y =>
  rw [ev_eq (σ := σ) (x := y) (fun t h => hs t h)]
  simp only [Option.bind_eq_some_iff] at e; obtain ⟨news, e1, e⟩ := e
  split at e
  ·rename_i hfit
   simp only [Option.some.injEq, Prod.mk.injEq] at e; obtain ⟨rfl, rfl⟩ := e
   refine .inr ⟨_, rfl, rfl, ?_⟩
   rw [u0s ho e1]
   simp only [Option.bind_some]
   rw [if_pos hfit, hn]
  ·cases e
 case app sz b x y =>
  obtain ⟨n, rfl⟩ := w3d hc
  rw [ev_eq (σ := σ) (x := y) (fun t h => hs t (.inr h))]
  simp only [Option.bind_eq_some_iff] at e; obtain ⟨news, e1, e⟩ := e
  simp only [St.ev, SV.ur, SC.ur, St.app] at e
  split at e
  ·rename_i hfit
   simp only [Option.some.injEq, Prod.mk.injEq] at e; obtain ⟨rfl, rfl⟩ := e
   refine .inr ⟨_, rfl, rfl, ?_⟩
   rw [u0s ho e1]
   show τ.app sz b news (.one (.nl n)) = _
   simp only [St.app]
   rw [if_pos hfit, hn]
  ·cases e
 case appq sz b x y =>
  obtain ⟨n, rfl⟩ := w3d hc
  rw [ev_eq (σ := σ) (x := y) (fun t h => hs t (.inr h))]
  simp only [Option.bind_eq_some_iff] at e; obtain ⟨news, e1, e⟩ := e
  simp only [St.ev, SV.ur, SC.ur, St.appq] at e
  split at e
  ·rename_i hfit
   simp only [Option.some.injEq, Prod.mk.injEq] at e; obtain ⟨rfl, rfl⟩ := e
   refine .inr ⟨_, rfl, rfl, ?_⟩
   rw [u0s ho e1]
   show τ.appq sz b news (.one (.nl n)) = _
   simp only [St.appq]
   rw [if_pos hfit, hn]
  ·cases e
 case iaa m sz x i =>
  rw [ev_eq (σ := σ) (x := x) (fun t h => hs t (.inl h)), ev_eq (σ := σ) (x := i) (fun t h => hs t (.inr h))]
  simp only [Option.bind_eq_some_iff, Option.map_eq_some_iff, Prod.mk.injEq] at e; obtain ⟨n, e1, u, e2, rfl, rfl⟩ := e
  exact .inl ⟨rfl, by simp [e1, iaa_le ho e2]⟩
 case sl sz x lo hi =>
  rw [ev_eq (σ := σ) (x := x) (fun t h => hs t (.inl h)), w1d (σ := σ) (x := lo) (fun t h => hs t (.inr (.inl h))), w1d (σ := σ) (x := hi) (fun t h => hs t (.inr (.inr h)))]
  simp only [Option.bind_eq_some_iff, Option.map_eq_some_iff, Prod.mk.injEq] at e; obtain ⟨l, e1, h, e2, u, e3, rfl, rfl⟩ := e
  exact .inl ⟨rfl, by simp [e1, e2, slV_le ho e3]⟩
 case sl3 sz x lo hi mx =>
  rw [ev_eq (σ := σ) (x := x) (fun t h => hs t (.inl h)), w1d (σ := σ) (x := lo) (fun t h => hs t (.inr (.inl h))), ev_eq (σ := σ) (x := hi) (fun t h => hs t (.inr (.inr (.inl h)))), ev_eq (σ := σ) (x := mx) (fun t h => hs t (.inr (.inr (.inr h))))]
  simp only [Option.bind_eq_some_iff, Option.map_eq_some_iff, Prod.mk.injEq] at e; obtain ⟨l, e1, h, e2, m, e3, u, e4, rfl, rfl⟩ := e
  exact .inl ⟨rfl, by simp [e1, e2, e3, sl3V_le ho e4]⟩
 case len x =>
  rw [ev_eq (σ := σ) hs]
  simp only [Option.map_eq_some_iff, Prod.mk.injEq] at e; obtain ⟨n, e1, rfl, rfl⟩ := e
  exact .inl ⟨rfl, by simp [lenV_le ho e1]⟩
 case b2s x =>
  rw [ev_eq (σ := σ) hs]
  simp only [Option.map_eq_some_iff, Option.bind_eq_some_iff, Prod.mk.injEq] at e; obtain ⟨n, ⟨rr, e1, e2⟩, rfl, rfl⟩ := e
  exact .inl ⟨rfl, by simp [u0s ho e1, e2]⟩
theorem frame_m_makes {op : VOp} (hm : makes op = false) (hw : clsOf op ≠ .w) (e : stepF G op σ = some (σ', v)) : σ' = σ := by
 by_cases hp : clsOf op = .p
 ·exact (z4p (τ := σ) hp (fun _ _ => rfl) e).1
 ·have hc : clsOf op = .m := by cases h : clsOf op <;> simp_all
  rcases y4p (τ := σ) hc (fun f as h => by subst h; simp [stepF] at e) (fun _ _ => rfl) (fun u o h => h) rfl e with h | ⟨o, h, _⟩
  ·exact h.1
  ·rw [hm] at h; cases h

theorem w2w (h : σ.objs = τ.objs) : ∀ (cs : List SC), τ.toDs cs = σ.toDs cs
 | [] => rfl
 | c :: cs => by
  have hc : τ.toD c = σ.toD c := by cases c <;> simp [St.toD, St.obj, h]
  simp only [St.toDs, hc, w2w h cs]
theorem frame_w {op : VOp} (hc : clsOf op = .w) (hs : ∀ t ∈ opSl op, σ.slots t = τ.slots t) (ho : τ.objs = σ.objs) (hn : τ.next = σ.next) (e : stepF G op σ = some (σ', v)) :
 stepF G op τ = some (⟨τ.slots, σ'.objs, σ'.next⟩, v) ∧ σ'.slots = σ.slots ∧ σ'.next ≤ σ.next + 1 ∧ (∀ u, σ.objs u = none → u ≠ σ.next → σ'.objs u = none) ∧ (makes op = false → ∀ u, σ.objs u = none → σ'.objs u = none) := by
 cases op <;> simp only [clsOf, reduceCtorEq] at hc <;> simp only [opSl, List.mem_append, List.mem_flatMap] at hs <;> simp only [stepF] at e ⊢
 case appw => cases e
 case apps => cases e
 case allocb => cases e
 case callv => cases e
 case isnil => cases e
 case clr sz z x =>
  rw [ev_eq (σ := σ) hs]
  simp only [Option.bind_eq_some_iff] at e; obtain ⟨ds, e1, e⟩ := e
  split at e
  ·rename_i hl
   simp only [Option.map_eq_some_iff, Prod.mk.injEq] at e; obtain ⟨σ1, e, rfl, rfl⟩ := e
   have hst : τ.clr sz ds (σ.ev G x).ur = some ⟨τ.slots, σ1.objs, σ1.next⟩ ∧ σ1.slots = σ.slots ∧ σ1.next = σ.next ∧ ∀ u, σ.objs u = none → σ1.objs u = none := by
    unfold St.clr at e ⊢
    split at e
    ·cases e; exact ⟨by rw [← ho, ← hn], rfl, rfl, fun _ h => h⟩
    ·rename_i id off len heq
     have hob : τ.obj id = σ.obj id := by simp [St.obj, ho]
     rw [hob]
     split at e
     ·rename_i s rows hx
      split at e
      ·rename_i hc
       cases e
       simp only [hc, and_self, if_true]
       refine ⟨by simp [St.setO, ho, hn], rfl, rfl, fun u hu => ?_⟩
       by_cases e : u = id
       ·subst e; exact absurd (show σ.obj u = none from hu) (by rw [hx]; simp)
       ·simp [St.setO, e, hu]
      ·cases e
     ·cases e
    ·cases e
   refine ⟨?_, hst.2.1, by rw [hst.2.2.1]; omega, fun u h _ => hst.2.2.2 u h, fun _ => hst.2.2.2⟩
   rw [w2w ho.symm]
   simp [e1, hl, hst.1]
  ·cases e
 case cpy sz x y =>
  rw [ev_eq (σ := σ) (x := x) (fun t h => hs t (.inl h)), ev_eq (σ := σ) (x := y) (fun t h => hs t (.inr h))]
  simp only [Option.map_eq_some_iff, Prod.mk.injEq] at e; obtain ⟨⟨σ1, n⟩, e, rfl, rfl⟩ := e
  have hst : τ.cpy sz (σ.ev G y).ur (σ.ev G x).ur = some (⟨τ.slots, σ1.objs, σ1.next⟩, n) ∧ σ1.slots = σ.slots ∧ σ1.next = σ.next ∧ ∀ u, σ.objs u = none → σ1.objs u = none := by
   unfold St.cpy at e ⊢
   split at e
   ·rename_i id off len heq
    have hob : τ.obj id = σ.obj id := by simp [St.obj, ho]
    have hsr : ∀ k y, τ.srcOf sz k y = σ.srcOf sz k y := by intro k y; simp [St.srcOf, St.obj, ho]
    rw [hob]
    split at e
    ·rename_i s rows hx
     split at e
     ·rename_i hc
      simp only [hsr]
      rw [if_pos hc]
      simp only [Option.map_eq_some_iff, Prod.mk.injEq] at e
      obtain ⟨ys, e1, rfl, rfl⟩ := e
      refine ⟨by rw [e1]; simp [St.setO, ho, hn], rfl, rfl, fun u hu => ?_⟩
      by_cases e : u = id
      ·subst e; exact absurd (show σ.obj u = none from hu) (by rw [hx]; simp)
      ·simp [St.setO, e, hu]
     ·cases e
    ·cases e
   ·cases e
  refine ⟨?_, hst.2.1, by rw [hst.2.2.1]; omega, fun u h _ => hst.2.2.2 u h, fun _ => hst.2.2.2⟩
  simp [hst.1]
 case st n a x =>
  rw [ev_eq (σ := σ) (x := a) (fun t h => hs t (.inl h)), ev_eq (σ := σ) (x := x) (fun t h => hs t (.inr h))]
  simp only [Option.bind_eq_some_iff] at e; obtain ⟨p, e1, cs, e2, e⟩ := e
  split at e
  ·rename_i hl
   simp only [Option.map_eq_some_iff, Prod.mk.injEq] at e; obtain ⟨σ1, e, rfl, rfl⟩ := e
   have hst : τ.stO cs p = some ⟨τ.slots, σ1.objs, σ1.next⟩ ∧ σ1.slots = σ.slots ∧ σ1.next = σ.next ∧ ∀ u, σ.objs u = none → σ1.objs u = none := by
    unfold St.stO at e ⊢
    split at e
    ·rename_i id i j
     have hob : τ.obj id = σ.obj id := by simp [St.obj, ho]
     rw [hob]
     have key : ∀ (o' : VO), σ.obj id ≠ none → σ.setO id (some o') = σ1 → τ.setO id (some o') = ⟨τ.slots, σ1.objs, σ1.next⟩ ∧ σ1.slots = σ.slots ∧ σ1.next = σ.next ∧ ∀ u, σ.objs u = none → σ1.objs u = none := by
      rintro o' hne rfl
      refine ⟨by simp [St.setO, ho, hn], rfl, rfl, fun u hu => ?_⟩
      by_cases e : u = id
      ·subst e; exact absurd hu hne
      ·simp [St.setO, e, hu]
     split at e
     ·rename_i sz rows hx
      split at e
      ·rename_i r ds h1 h2
       rw [w2w ho.symm, h2]
       simp only [h1]
       split at e
       ·rename_i hle
        simp only [Option.some.injEq] at e
        rw [if_pos hle]
        have := key _ (by rw [hx]; simp) e
        exact ⟨by rw [this.1], this.2⟩
       ·cases e
      ·cases e
     ·rename_i cells hx
      split at e
      ·rename_i hle
       simp only [Option.some.injEq] at e
       rw [if_pos hle]
       have := key _ (by rw [hx]; simp) e
       exact ⟨by rw [this.1], this.2⟩
      ·cases e
     ·rename_i hx
      split at e
      ·rename_i hle
       simp only [Option.some.injEq] at e
       rw [if_pos hle]
       have := key _ (by rw [hx]; simp) e
       exact ⟨by rw [this.1], this.2⟩
      ·cases e
     ·cases e
    ·cases e
   refine ⟨?_, hst.2.1, by rw [hst.2.2.1]; omega, fun u h _ => hst.2.2.2 u h, fun _ => hst.2.2.2⟩
   simp [e1, e2, hl, hst.1]
  ·cases e
 case app sz b x y =>
  rw [ev_eq (σ := σ) (x := x) (fun t h => hs t (.inl h)), ev_eq (σ := σ) (x := y) (fun t h => hs t (.inr h))]
  simp only [Option.bind_eq_some_iff] at e; obtain ⟨news, e1, e2⟩ := e
  have hr : τ.rowsOf sz (σ.ev G y) = σ.rowsOf sz (σ.ev G y) := by
   unfold St.rowsOf; simp [St.obj, ho]
  rw [hr, e1]
  simp only [Option.bind_some, makes]
  unfold St.app at e2 ⊢
  split at e2
  ·split at e2
   ·rename_i hc
    simp only [Option.some.injEq, Prod.mk.injEq] at e2; obtain ⟨rfl, rfl⟩ := e2
    refine ⟨by rw [if_pos hc]; simp [St.new, ho, hn], rfl, Nat.le_refl _, fun u h hu => ?_, fun h => by cases h⟩
    simp [St.new, hu, h]
   ·cases e2
  ·rename_i id off len heq
   have hob : τ.obj id = σ.obj id := by simp [St.obj, ho]
   rw [hob]
   split at e2
   ·split at e2
    ·rename_i hc
     simp only [Option.some.injEq, Prod.mk.injEq] at e2; obtain ⟨rfl, rfl⟩ := e2
     refine ⟨by rw [if_pos hc]; simp [St.new, St.setO, ho, hn]; rfl, rfl, Nat.le_refl _, fun u h hu => ?_, fun h => by cases h⟩
     by_cases h2 : u = id
     ·subst h2; simp [St.new, St.setO, hu]
     ·simp [St.new, St.setO, hu, h2, h]
    ·cases e2
   ·cases e2
  ·cases e2
 case appr sz b x y =>
  rw [ev_eq (σ := σ) (x := x) (fun t h => hs t (.inl h)), ev_eq (σ := σ) (x := y) (fun t h => hs t (.inr h))]
  simp only [Option.bind_eq_some_iff] at e; obtain ⟨news, e1, e2⟩ := e
  have hr : τ.rowsOf sz (σ.ev G y).ur = σ.rowsOf sz (σ.ev G y).ur := by
   unfold St.rowsOf; simp [St.obj, ho]
  rw [hr, e1]
  simp only [Option.bind_some, makes]
  unfold St.appr at e2 ⊢
  split at e2
  ·rename_i id off len cp heq
   have hob : τ.obj id = σ.obj id := by simp [St.obj, ho]
   rw [hob]
   split at e2
   ·rename_i s' rows hx
    split at e2
    ·rename_i hc
     simp only [Option.some.injEq, Prod.mk.injEq] at e2; obtain ⟨rfl, rfl⟩ := e2
     have hno : ∀ u, σ.objs u = none → (σ.setO id (some (.arr sz (rows.take len ++ (news ++ rows.drop (len + news.length))) false))).objs u = none := by
      intro u hu
      by_cases h2 : u = id
      ·subst h2; rw [show σ.objs u = _ from hx] at hu; cases hu
      ·simp [St.setO, hu, h2]
     exact ⟨by rw [if_pos hc]; simp [St.setO, ho, hn], rfl, Nat.le_succ _, fun u h _ => hno u h, fun h => by cases h⟩
    ·cases e2
   ·cases e2
  ·cases e2
 case appq sz b x y =>
  rw [ev_eq (σ := σ) (x := x) (fun t h => hs t (.inl h)), ev_eq (σ := σ) (x := y) (fun t h => hs t (.inr h))]
  simp only [Option.bind_eq_some_iff] at e; obtain ⟨news, e1, e2⟩ := e
  have hr : τ.rowsOf sz (σ.ev G y) = σ.rowsOf sz (σ.ev G y) := by
   unfold St.rowsOf; simp [St.obj, ho]
  rw [hr, e1]
  simp only [Option.bind_some, makes]
  unfold St.appq at e2 ⊢
  split at e2
  ·split at e2
   ·rename_i hc
    simp only [Option.some.injEq, Prod.mk.injEq] at e2; obtain ⟨rfl, rfl⟩ := e2
    refine ⟨by rw [if_pos hc]; simp [St.new, ho, hn], rfl, Nat.le_refl _, fun u h hu => ?_, fun h => by cases h⟩
    simp [St.new, hu, h]
   ·cases e2
  ·rename_i id off len heq
   have hob : τ.obj id = σ.obj id := by simp [St.obj, ho]
   rw [hob]
   split at e2
   ·split at e2
    ·rename_i hc
     simp only [Option.some.injEq, Prod.mk.injEq] at e2; obtain ⟨rfl, rfl⟩ := e2
     refine ⟨by rw [if_pos hc]; simp [St.new, St.setO, ho, hn]; rfl, rfl, Nat.le_refl _, fun u h hu => ?_, fun h => by cases h⟩
     by_cases h2 : u = id
     ·subst h2; simp [St.new, St.setO, hu]
     ·simp [St.new, St.setO, hu, h2, h]
    ·cases e2
   ·cases e2
  ·cases e2
end
def DS (P : Program) (G : Nat → Option (List D)) (op : VOp) (σ σ' : St) (v : SV) : Prop :=
 match op with
 | .call f args => ∃ res, CallD P G f (args.map (σ.ev G)) σ res v ∧ σ' = addO σ res
 | .callv .. => False
 | .isnil .. => False
 | op => stepF G op σ = some (σ', v)
section
variable {P : Program} {G : Nat → Option (List D)} {X : Ctx} {n : Nat} {σ τ σ' : St} {v : SV}
theorem z5l {op : VOp} {K : St → SV → Prop} (h : dOp P G op σ K) : ∃ σ' v, DS P G op σ σ' v ∧ K σ' v := by
 cases op
 case call f args => obtain ⟨res, v, h1, h2⟩ := h; exact ⟨_, v, ⟨res, h1, rfl⟩, h2⟩
 case callv => exact h.elim
 case isnil => exact h.elim
 all_goals exact (let ⟨r, h1, h2⟩ := h; ⟨r.1, r.2, h1, h2⟩)
theorem DS_p {op : VOp} (hc : clsOf op = .p) (hs : ∀ t ∈ opSl op, σ.slots t = τ.slots t) (e : DS P G op σ σ' v) : σ' = σ ∧ DS P G op τ τ v := by
 cases op <;> simp only [clsOf, reduceCtorEq] at hc <;> exact z4p (by first | rfl | exact hc) hs e
theorem DS_m {op : VOp} (hc : clsOf op = .m) (hs : ∀ t ∈ opSl op, σ.slots t = τ.slots t) (ho : ObjLe σ τ) (hn : τ.next = σ.next) (e : DS P G op σ σ' v) :
 ∃ res, (makes op = false → res = none) ∧ σ' = addO σ res ∧ DS P G op τ (addO τ res) v := by
 cases op
 case call f args =>
  obtain ⟨res, h, rfl⟩ := e
  refine ⟨res, (fun h => by simp [makes] at h), rfl, res, ?_, rfl⟩
  have hm : args.map (τ.ev G) = args.map (σ.ev G) := v3i fun x hx t ht => hs t (by simp only [opSl, List.mem_flatMap]; exact ⟨x, hx, ht⟩)
  rw [hm]
  exact ⟨h.1, fun τ' h1 h2 => h.2 τ' (fun u o hu => h1 u o (ho u o hu)) (h2.trans hn)⟩
 all_goals simp only [clsOf, reduceCtorEq] at hc
 all_goals
  rcases y4p (τ := τ) (by first | rfl | exact hc) (fun f as h => by cases h) hs ho hn e with ⟨rfl, h⟩ | ⟨o, h1, rfl, h⟩
  ·exact ⟨none, (fun _ => rfl), rfl, h⟩
  ·exact ⟨some o, (fun h0 => by rw [h1] at h0; cases h0), rfl, h⟩
theorem DS_w {op : VOp} (hc : clsOf op = .w) (hs : ∀ t ∈ opSl op, σ.slots t = τ.slots t) (ho : τ.objs = σ.objs) (hn : τ.next = σ.next) (e : DS P G op σ σ' v) :
 DS P G op τ ⟨τ.slots, σ'.objs, σ'.next⟩ v ∧ σ'.slots = σ.slots ∧ (∀ u, σ.objs u = none → u ≠ σ.next → σ'.objs u = none) ∧ (makes op = false → ∀ u, σ.objs u = none → σ'.objs u = none) := by
 cases op
 case callv => exact e.elim
 case isnil => exact e.elim
 all_goals simp only [clsOf, reduceCtorEq] at hc
 all_goals exact (let ⟨h1, h2, _, h3, h4⟩ := frame_w (τ := τ) (by first | rfl | exact hc) hs ho hn e; ⟨h1, h2, h3, h4⟩)
theorem y5n {op : VOp} (e : DS P G op σ σ' v) : σ'.slots = σ.slots := by
 cases h : clsOf op with
 | p => rw [(DS_p (τ := σ) h (fun _ _ => rfl) e).1]
 | m => obtain ⟨res, _, rfl, _⟩ := DS_m (τ := σ) h (fun _ _ => rfl) (fun _ _ h => h) rfl e; cases res <;> rfl
 | w => exact (DS_w (τ := σ) h (fun _ _ => rfl) rfl rfl e).2.1

theorem DS_st {op : VOp} {u : Nat} (hp : ptrId G σ op = some u) (hs : ∀ t ∈ opSl op, σ.slots t = τ.slots t) (ho : ObjLe σ τ) (hn : τ.next = σ.next) (e : DS P G op σ σ' v) :
 ∃ o' res, (makes op = false → res = none) ∧ σ' = addO (σ.setO u o') res ∧ DS P G op τ (addO (τ.setO u o') res) v ∧ σ.objs u ≠ none := by
 cases op <;> simp only [ptrId, reduceCtorEq] at hp
 case st n a x =>
  split at hp
  ·rename_i u' i j hpp
   cases hp
   simp only [opSl, List.mem_append] at hs
   replace e : stepF G (.st n a x) σ = some (σ', v) := e
   suffices ∃ o', σ' = σ.setO u (some o') ∧ stepF G (.st n a x) τ = some (τ.setO u (some o'), v) ∧ σ.objs u ≠ none from let ⟨o', h1, h2, h3⟩ := this; ⟨some o', none, fun _ => rfl, h1, h2, h3⟩
   simp only [stepF] at e ⊢
   rw [ev_eq (σ := σ) (x := a) (fun t h => hs t (.inl h)), ev_eq (σ := σ) (x := x) (fun t h => hs t (.inr h))]
   simp only [hpp, Option.bind_some, Option.bind_eq_some_iff] at e ⊢
   obtain ⟨cs, e2, e⟩ := e
   split at e
   ·rename_i hl
    simp only [Option.map_eq_some_iff, Prod.mk.injEq] at e; obtain ⟨σ1, e, rfl, rfl⟩ := e
    have key : ∃ o', σ1 = σ.setO u (some o') ∧ τ.stO cs (.q u i j) = some (τ.setO u (some o')) ∧ σ.objs u ≠ none := by
     simp only [St.stO] at e ⊢
     split at e
     ·rename_i sz rows hx
      rw [ho.obj hx]
      split at e
      ·rename_i r ds h1 h2
       split at e
       ·rename_i hle
        simp only [Option.some.injEq] at e
        refine ⟨_, e.symm, ?_, by rw [show σ.objs u = _ from hx]; simp⟩
        simp only [h1, z1c ho h2]
        rw [if_pos hle]
       ·cases e
      ·cases e
     ·rename_i cells hx
      rw [ho.obj hx]
      split at e
      ·rename_i hle
       simp only [Option.some.injEq] at e
       refine ⟨_, e.symm, ?_, by rw [show σ.objs u = _ from hx]; simp⟩
       simp only
       rw [if_pos hle]
      ·cases e
     ·rename_i hx
      rw [ho.obj hx]
      split at e
      ·rename_i hle
       simp only [Option.some.injEq] at e
       refine ⟨_, e.symm, ?_, by rw [show σ.objs u = _ from hx]; simp⟩
       simp only
       rw [if_pos hle]
      ·cases e
     ·cases e
    obtain ⟨o', k1, k2, k3⟩ := key
    refine ⟨o', k1, ⟨cs, e2, ?_⟩, k3⟩
    rw [if_pos hl, k2]; rfl
   ·cases e
  ·cases hp
 case app sz b x y =>
  split at hp
  ·rename_i u' off len hx
   cases hp
   simp only [opSl, List.mem_append] at hs
   replace e : stepF G (.app sz b x y) σ = some (σ', v) := e
   suffices ∃ o, σ' = (σ.setO u none).new o ∧ stepF G (.app sz b x y) τ = some ((τ.setO u none).new o, v) ∧ σ.objs u ≠ none from let ⟨o, h1, h2, h3⟩ := this; ⟨none, some o, fun h => (by simp [makes] at h), h1, h2, h3⟩
   simp only [stepF] at e ⊢
   rw [ev_eq (σ := σ) (x := x) (fun t h => hs t (.inl h)), ev_eq (σ := σ) (x := y) (fun t h => hs t (.inr h))]
   simp only [Option.bind_eq_some_iff] at e
   obtain ⟨news, e1, e⟩ := e
   rw [u0s ho e1]
   simp only [Option.bind_some, hx, St.app] at e ⊢
   split at e
   ·rename_i s rows hob
    rw [ho.obj hob]
    split at e
    ·rename_i hc
     simp only [Option.some.injEq, Prod.mk.injEq] at e
     obtain ⟨rfl, rfl⟩ := e
     refine ⟨_, rfl, ?_, by rw [show σ.objs u = _ from hob]; simp⟩
     simp only
     rw [if_pos hc]
     simp [St.setO, hn]
    ·cases e
   ·cases e
  ·cases hp
 case appq sz b x y =>
  split at hp
  ·rename_i u' off len hx
   cases hp
   simp only [opSl, List.mem_append] at hs
   replace e : stepF G (.appq sz b x y) σ = some (σ', v) := e
   suffices ∃ o, σ' = (σ.setO u none).new o ∧ stepF G (.appq sz b x y) τ = some ((τ.setO u none).new o, v) ∧ σ.objs u ≠ none from let ⟨o, h1, h2, h3⟩ := this; ⟨none, some o, fun h => (by simp [makes] at h), h1, h2, h3⟩
   simp only [stepF] at e ⊢
   rw [ev_eq (σ := σ) (x := x) (fun t h => hs t (.inl h)), ev_eq (σ := σ) (x := y) (fun t h => hs t (.inr h))]
   simp only [Option.bind_eq_some_iff] at e
   obtain ⟨news, e1, e⟩ := e
   rw [u0s ho e1]
   simp only [Option.bind_some, hx, St.appq] at e ⊢
   split at e
   ·rename_i s rows hob
    rw [ho.obj hob]
    split at e
    ·rename_i hc
     simp only [Option.some.injEq, Prod.mk.injEq] at e
     obtain ⟨rfl, rfl⟩ := e
     refine ⟨_, rfl, ?_, by rw [show σ.objs u = _ from hob]; simp⟩
     simp only
     rw [if_pos hc]
     simp [St.setO, hn]
    ·cases e
   ·cases e
  ·cases hp
theorem SimW.nx {tm : Array Value} {w : World} {O : Nat → LS} {Im : Nat → Prop} (s : SimW G X σ tm w O Im) (k : Nat) : SimW G X ⟨σ.slots, σ.objs, k⟩ tm w O Im :=
 ⟨s.ext, s.ownlt, s.imlt, s.im0, s.im1, s.dead, s.obj, s.disj, s.slot, s.glob⟩

theorem w4z {o : Oper} {op : VOp} (hl : lowOp P o = some op.strip) (hdst : o.dst.all (· < n) = true) {a : Act} {w : World} {O : Nat → LS} {Im : Nat → Prop} (s : SimW G X σ a.tmps w O Im) (hf : O σ.next = .free) (hd : a.defers = []) (hs : a.tmps.size = n)
 (e : DS P G op σ σ' v) {next : Act → World → Prop} {Q : Exit → Act → World → Prop}
 (hn : ∀ a' w' O' Im', SimW G X (σ'.putO o.dst v) a'.tmps w' O' Im' → (∀ u, u ≠ σ.next → O u = .free → O' u = .free) → a'.defers = [] → a'.tmps.size = n → next a' w') : o.wp P a w next Q := by
 unfold Oper.wp
 have fin : ∀ {u : Value} {w' : World} {O' : Nat → LS} {Im' : Nat → Prop}, SimW G X σ' a.tmps w' O' Im' → (∀ k, k ≠ σ.next → O k = .free → O' k = .free) → RelV w'.heap Im' O' v u → next (a.put o.dst u) w' := by
  intro u w' O' Im' s' hk r
  cases hdd : o.dst with
  | none => rw [hdd] at hn; exact hn a w' O' Im' s' hk hd hs
  | some t =>
   rw [hdd] at hn hdst
   have ht : t < a.tmps.size := by simpa [hs] using hdst
   exact hn _ w' O' Im' (s'.put ht r) hk hd (by simpa [Act.put] using hs)
 have plain : stepF G op σ = some (σ', v) → o.upon P a next Q ((execOp a.eval o).run P w) := by
  intro e
  have use : ∀ {u : Value} {w' : World}, Post G X a.tmps σ O σ' v u w' → next (a.put o.dst u) w' := by
   rintro u w' ⟨O', Im', s', r, hk⟩
   refine fin s' ?_ r
   intro k hk1 hk2
   rcases hk with ⟨_, h⟩ | ⟨_, h⟩
   ·exact h k hk2
   ·exact h k hk1 hk2
  rcases u3h hl s hf e with ⟨u, w', h1, h2⟩ | ⟨w', h1, h2⟩
  ·rw [h1, Oper.upon_value]; exact use h2
  ·rw [h1, Oper.upon_skip]; exact use h2
 cases op
 case call f args =>
  replace hl : lowOp P o = some (.call f args) := hl
  obtain ⟨res, h, rfl⟩ := e
  obtain ⟨c, hop, hc, ha⟩ := x3a hl
  rw [y3c (caps := #[]) hop hc rfl h.1, Oper.upon_enter]
  have := h.2 σ (fun _ _ h => h) rfl X a.tmps w O Im (c.args.map a.eval ++ #[]).toList s hf (by simpa using u1h s ha)
  rw [Array.toArray_toList] at this
  refine Calls.mono this ?_
  rintro e w' ⟨u, O', Im', rfl, s', r, hk⟩
  exact fin s' hk r
 case callv => exact e.elim
 case isnil => exact e.elim
 all_goals exact plain e
theorem z5n {o : Oper} {op : VOp} (hl : x1t P o = some op.strip) (hdst : o.dst.all (· < n) = true) {a : Act} {w : World} {O : Nat → LS} {Im : Nat → Prop} (s : SimW G X σ a.tmps w O Im) (hf : O σ.next = .free) (hd : a.defers = []) (hs : a.tmps.size = n)
 (e : DS P G op σ σ' v) {next : Act → World → Prop} {Q : Exit → Act → World → Prop}
 (hn : ∀ a' w' O' Im', SimW G X (σ'.putO o.dst v) a'.tmps w' O' Im' → (∀ u, u ≠ σ.next → O u = .free → O' u = .free) → a'.defers = [] → a'.tmps.size = n → next a' w') : o.wp P a w next Q := by
 rcases v1d hl with hl | hb
 ·exact w4z hl hdst s hf hd hs e hn
 ·rw [v3h hb] at e
  cases e

end
noncomputable def u1d (p : Nat → Prop) : Nat → Option Nat
 | 0 => none
 | n + 1 => open Classical in if p n then some n else u1d p n
theorem w0m {p q : Nat → Prop} : ∀ {n : Nat}, (∀ i, i < n → (p i ↔ q i)) → u1d p n = u1d q n
 | 0, _ => rfl
 | n + 1, h => by
  have h1 := h n (by omega)
  have ih := w0m (p := p) (q := q) (n := n) fun i hi => h i (by omega)
  simp only [u1d]
  by_cases hp : p n
  ·rw [if_pos hp, if_pos (h1.1 hp)]
  ·rw [if_neg hp, if_neg (fun hq => hp (h1.2 hq)), ih]
theorem z1i {p : Nat → Prop} : ∀ {n : Nat}, (∀ i, i < n → ¬ p i) → u1d p n = none
 | 0, _ => rfl
 | n + 1, h => by simp only [u1d]; rw [if_neg (h n (by omega)), z1i fun i hi => h i (by omega)]
theorem z2i {p : Nat → Prop} {k : Nat} : ∀ {n : Nat}, k < n → p k → (∀ i, k < i → i < n → ¬ p i) → u1d p n = some k
 | 0, h, _, _ => by omega
 | n + 1, h, hp, hh => by
  simp only [u1d]
  by_cases e : k = n
  ·subst e; rw [if_pos hp]
  ·rw [if_neg (hh n (by omega) (by omega)), z2i (by omega) hp fun i h1 h2 => hh i h1 (by omega)]

def DStep (P : Program) (G : Nat → Option (List D)) (base : Nat) (d : DOper) (i : Nat) (σ σ1 : St) (v : SV) : Prop :=
 (∃ t want b, d.o.guard = some (t, want) ∧ grd (σ.get t) = some b ∧ b ≠ some want ∧ chkH (base + i) d.prv d.hido = true ∧ v = .und ∧ σ1 = σ.putO d.o.dst .und) ∨
 ((d.o.guard = none ∨ ∃ t want, d.o.guard = some (t, want) ∧ grd (σ.get t) = some (some want)) ∧ chkB G d.prv d.hido (base + i) d.o.op (σ.vis base i d.hid d.hido) = true ∧ ∃ σ', DS P G d.o.op (σ.vis base i d.hid d.hido) σ' v ∧ σ1 = (σ.back base d.hid d.hido σ').putO d.o.dst v)
theorem v3w {P : Program} {G : Nat → Option (List D)} {base : Nat} {Q : Ex → St → Prop} : ∀ (ds : List DOper) (i : Nat) (σ : St), wDraw P G base i ds Q σ →
 ∃ (tr : Nat → St) (val : Nat → SV), tr i = σ ∧ (∀ (k : Nat) (d : DOper), ds[k]? = some d → DStep P G base d (i + k) (tr (i + k)) (tr (i + k + 1)) (val (i + k))) ∧ Q .normal ⟨(tr (i + ds.length)).slots, (tr (i + ds.length)).objs, base + (i + ds.length)⟩
 | [], i, σ, h => ⟨fun _ => σ, fun _ => .dead, rfl, fun k d hd => by simp at hd, h⟩
 | d :: ds, i, σ, h => by
  have glue : ∀ (σ1 : St) (v : SV), DStep P G base d i σ σ1 v → wDraw P G base (i + 1) ds Q σ1 →
   ∃ (tr : Nat → St) (val : Nat → SV), tr i = σ ∧ (∀ (k : Nat) (d' : DOper), (d :: ds)[k]? = some d' → DStep P G base d' (i + k) (tr (i + k)) (tr (i + k + 1)) (val (i + k))) ∧ Q .normal ⟨(tr (i + (d :: ds).length)).slots, (tr (i + (d :: ds).length)).objs, base + (i + (d :: ds).length)⟩ := by
   intro σ1 v hs hw
   obtain ⟨tr, val, h1, h2, h3⟩ := v3w ds (i + 1) σ1 hw
   refine ⟨fun k => if k = i then σ else tr k, fun k => if k = i then v else val k, by simp, ?_, ?_⟩
   ·intro k d' hd
    cases k with
    | zero => simp at hd; subst hd; simpa [h1] using hs
    | succ k =>
     have := h2 k d' (by simpa using hd)
     have e1 : i + 1 + k = i + (k + 1) := by omega
     rw [e1] at this
     have e2 : ¬ (i + (k + 1) = i) := by omega
     have e3 : ¬ (i + (k + 1) + 1 = i) := by omega
     simpa [e2, e3] using this
   ·have e1 : i + (d :: ds).length = i + 1 + ds.length := by simp; omega
    have e2 : ¬ (i + 1 + ds.length = i) := by omega
    rw [e1]
    simp only [e2, if_false]
    exact h3
  simp only [wDraw] at h
  split at h
  ·rename_i hg
   obtain ⟨hck, h⟩ := h
   obtain ⟨σ', v, h1, h2⟩ := z5l h
   exact glue _ v (.inr ⟨.inl hg, hck, σ', h1, rfl⟩) h2
  ·rename_i t want hg
   obtain ⟨hck0, b, hb, h⟩ := h
   split at h
   ·rename_i hbw
    subst hbw
    obtain ⟨hck, h⟩ := h
    obtain ⟨σ', v, h1, h2⟩ := z5l h
    exact glue _ v (.inr ⟨.inr ⟨t, want, hg, hb⟩, hck, σ', h1, rfl⟩) h2
   ·rename_i hbw
    exact glue _ .und (.inl ⟨t, want, b, hg, hb, hbw, hck0, rfl, rfl⟩) h

structure Reg0 (N : Nat) (dir : Nat → List Nat) (ds : Nat → DOper) : Prop where
 pre : ∀ j, j < N → ∀ k ∈ (ds j).pre, k < j ∧ (k ∈ dir j ∨ ∃ m ∈ dir j, k ∈ (ds m).pre)
 dirlt : ∀ j, j < N → ∀ k ∈ dir j, k < j
 conf : ∀ j, j < N → ∀ i, i < j → u0l (ds i).o (ds j).o = true → i ∈ (ds j).pre
 hid : ∀ j, j < N → ∀ i, i ∈ (ds j).hid ↔ i < j ∧ makes (ds i).o.op = true ∧ i ∉ (ds j).pre
structure Reg (N : Nat) (dir : Nat → List Nat) (ds : Nat → DOper) : Prop extends Reg0 N dir ds where
 mem : ∀ j, j < N → ∀ i, i < j → z0v (ds i) (ds j) = true → i ∈ (ds j).pre
 prv : ∀ j, j < N → ∀ u, (ds j).prv = some u → clsOf (ds j).o.op = .w ∧ u ∉ (ds j).hido
 gen : ∀ j, j < N → (ds j).prv = none → clsOf (ds j).o.op = .w → (ds j).hido = []

theorem clsOf_strip (op : VOp) : clsOf op.strip = clsOf op := by cases op <;> rfl
theorem z2l (op : VOp) : makes op.strip = makes op := by cases op <;> rfl
theorem v4h (op : VOp) : opSl op.strip = opSl op := by cases op <;> rfl
theorem u2x (a b : VOper) : u0l a.strip b.strip = u0l a b := by simp only [u0l, slOf, VOper.strip, v4h]
theorem Reg0.unstrip {N : Nat} {dir : Nat → List Nat} {ds ds0 : Nat → DOper} (R : Reg0 N dir ds0) (h : ∀ j, j < N → (ds j).strip = ds0 j) : Reg0 N dir ds := by
 have hp : ∀ j, j < N → (ds0 j).pre = (ds j).pre := fun j hj => by rw [← h j hj]; rfl
 have hh : ∀ j, j < N → (ds0 j).hid = (ds j).hid := fun j hj => by rw [← h j hj]; rfl
 have ho : ∀ j, j < N → (ds0 j).o = (ds j).o.strip := fun j hj => by rw [← h j hj]; rfl
 refine ⟨fun j hj k hk => ?_, R.dirlt, fun j hj i hij hc => ?_, fun j hj i => ?_⟩
 ·rw [← hp j hj] at hk
  obtain ⟨g1, g2⟩ := R.pre j hj k hk
  exact ⟨g1, g2.imp id fun ⟨m, q1, q2⟩ => ⟨m, q1, by rw [← hp m (by have := R.dirlt j hj m q1; omega)]; exact q2⟩⟩
 ·rw [← hp j hj]
  refine R.conf j hj i hij ?_
  rw [ho j hj, ho i (by omega), u2x]; exact hc
 ·rw [← hh j hj, ← hp j hj, R.hid j hj i]
  constructor
  ·rintro ⟨a, b, c⟩; rw [ho i (by omega)] at b; exact ⟨a, by rw [← z2l]; exact b, c⟩
  ·rintro ⟨a, b, c⟩; refine ⟨a, ?_, c⟩; rw [ho i (by omega)]; show makes (ds i).o.op.strip = true; rw [z2l]; exact b
theorem Reg.of {dl : List DOper} {dir : Nat → List Nat} (R : Reg0 dl.length dir (fun j => dl.getD j default)) (h : okD dl = true) : Reg dl.length dir (fun j => dl.getD j default) := by
 have hj : ∀ j, j < dl.length → _ := fun j hj => List.all_eq_true.1 h j (List.mem_range.2 hj)
 simp only [Bool.and_eq_true, List.all_eq_true, List.mem_range, Bool.or_eq_true, Bool.not_eq_true', x0z] at hj
 refine { R with mem := fun j hjN i hij hc => ?_, prv := fun j hjN u hu => ?_, gen := fun j hjN hn hw => ?_ }
 ·rcases (hj j hjN).2 i hij with h | h
  ·rw [hc] at h; cases h
  ·exact h
 ·have := (hj j hjN).1
  rw [hu] at this
  simp only [Bool.and_eq_true, beq_iff_eq, Bool.not_eq_true', List.contains_eq_mem, decide_eq_false_iff_not] at this
  exact this
 ·have := (hj j hjN).1
  rw [hn] at this
  simp only [hw, bne_self_eq_false, Bool.false_or, List.isEmpty_iff] at this
  exact this

section
variable {P : Program} {G : Nat → Option (List D)} {X : Ctx} {n : Nat} {N base : Nat} {dir : Nat → List Nat} {ds : Nat → DOper} {tr : Nat → St} {val : Nat → SV} {S : Nat → Prop}

theorem z1o {a : VOper} (h : makes a.op = true) : clsOf a.op ≠ .p := by
 cases ho : a.op <;> rw [ho] at h <;> simp [makes] at h <;> simp [clsOf, z1a]
def wr (ds : Nat → DOper) (i u : Nat) : Prop := clsOf (ds i).o.op = .w ∧ ((ds i).prv = none ∨ (ds i).prv = some u)
theorem Reg.ordw (R : Reg N dir ds) {i j u : Nat} (hj : j < N) (hij : i < j) (hw : wr ds i u) (hc : clsOf (ds j).o.op ≠ .p) (hu : u ∉ (ds j).hido) (hg : (ds i).prv = none → (ds j).hido = [] ∨ True) : i ∈ (ds j).pre := by
 refine R.mem j hj i hij ?_
 unfold z0v sepD
 rcases hw.2 with h | h
 ·simp [hw.1, h, hc]
 ·simp [hw.1, h, hc, hu]
theorem Reg.ordr (R : Reg N dir ds) {i j u : Nat} (hj : j < N) (hij : i < j) (hw : wr ds j u) (hc : clsOf (ds i).o.op ≠ .p) (hu : u ∉ (ds i).hido) : i ∈ (ds j).pre := by
 refine R.mem j hj i hij ?_
 unfold z0v sepD
 rcases hw.2 with h | h
 ·simp [hw.1, h, hc]
 ·simp [hw.1, h, hc, hu]
theorem Reg.wr_sees (R : Reg N dir ds) {j u : Nat} (hj : j < N) (hw : wr ds j u) : u ∉ (ds j).hido := by
 rcases hw.2 with h | h
 ·rw [R.gen j hj h hw.1]; simp
 ·exact (R.prv j hj u h).2
theorem Reg.hid_is (R : Reg N dir ds) {j : Nat} (hj : j < N) {u : Nat} : isHid base (ds j).hid (ds j).hido u = true ↔ (∃ i, i < j ∧ makes (ds i).o.op = true ∧ i ∉ (ds j).pre ∧ u = base + i) ∨ u ∈ (ds j).hido := by
 unfold isHid
 rw [Bool.or_eq_true, List.any_eq_true]
 refine or_congr ?_ (by simp)
 constructor
 ·rintro ⟨i, hi, he⟩
  obtain ⟨h1, h2, h3⟩ := (R.hid j hj i).1 hi
  exact ⟨i, h1, h2, h3, by simpa using (beq_iff_eq.1 he).symm⟩
 ·rintro ⟨i, h1, h2, h3, rfl⟩
  exact ⟨i, (R.hid j hj i).2 ⟨h1, h2, h3⟩, by simp⟩
theorem Reg.hid_w (R : Reg N dir ds) {j : Nat} (hj : j < N) (hw : clsOf (ds j).o.op = .w) (hn : (ds j).prv = none) : ∀ u, isHid base (ds j).hid (ds j).hido u = false := by
 intro u
 rw [Bool.eq_false_iff]
 intro h
 rcases (R.hid_is hj).1 h with ⟨i, h1, h2, h3, _⟩ | h
 ·refine h3 (R.mem j hj i h1 ?_)
  unfold z0v sepD
  have := z1o h2
  simp [hw, hn, this]
 ·rw [R.gen j hj hn hw] at h; simp at h
theorem y2v {own : Nat} {prv : Option Nat} {hido : List Nat} (h : chkH own prv hido = true) : (∀ u ∈ hido, u ≠ own) ∧ ∀ u, prv = some u → u < own := by
 unfold chkH at h
 rw [Bool.and_eq_true, List.all_eq_true] at h
 refine ⟨fun u hu => by simpa using h.1 u hu, fun u hu => ?_⟩
 have := h.2
 rw [hu] at this
 simpa using this
theorem v2e {own : Nat} {σ : St} {op : VOp} {prv : Option Nat} {hido : List Nat} (h : chkB G prv hido own op σ = true) : chkH own prv hido = true ∧ ∀ u, prv = some u → ptrId G σ op = some u := by
 unfold chkB at h
 rw [Bool.and_eq_true] at h
 refine ⟨h.1, fun u hu => ?_⟩
 have := h.2
 rw [hu] at this
 simpa using this
theorem DStep.chk {d : DOper} {i : Nat} {σ σ1 : St} {v : SV} (h : DStep P G base d i σ σ1 v) : (∀ u ∈ d.hido, u ≠ base + i) ∧ ∀ u, d.prv = some u → u < base + i := by
 rcases h with ⟨_, _, _, _, _, _, h, _⟩ | ⟨_, h, _⟩
 ·exact y2v h
 ·exact y2v (v2e h).1

noncomputable def yn (N : Nat) (ds : Nat → DOper) (val : Nat → SV) (σ : St) (S : Nat → Prop) (u : Nat) : SV :=
 match u1d (fun i => S i ∧ (ds i).o.dst = some u) N with | some i => val i | none => σ.slots u
def y0p (P : Program) (G : Nat → Option (List D)) (base N : Nat) (ds : Nat → DOper) (tr : Nat → St) (val : Nat → SV) : Prop := ∀ j, j < N → DStep P G base (ds j) j (tr j) (tr (j + 1)) (val j)
theorem z1t (σ : St) (d : Option Nat) (v : SV) (u : Nat) : (σ.putO d v).slots u = if d = some u then v else σ.slots u := by
 cases d with
 | none => simp [St.putO]
 | some t => simp only [St.putO, St.put, Option.some.injEq]; by_cases h : u = t <;> simp [h, eq_comm]
theorem DStep.slots {d : DOper} {i : Nat} {σ σ1 : St} {v : SV} (h : DStep P G base d i σ σ1 v) (u : Nat) : σ1.slots u = if d.o.dst = some u then v else σ.slots u := by
 rcases h with ⟨t, want, b, _, _, _, _, rfl, rfl⟩ | ⟨_, _, σ', h1, rfl⟩
 ·exact z1t _ _ _ _
 ·rw [z1t]
  have : (σ.back base d.hid d.hido σ').slots = σ.slots := by show σ'.slots = _; rw [y5n h1]; rfl
  rw [this]
theorem v2x (hs : y0p P G base N ds tr val) : ∀ j, j ≤ N → (tr j).slots = yn N ds val (tr 0) (· < j)
 | 0, _ => by funext u; simp only [yn]; rw [z1i (fun i _ h => by have := h.1; omega)]
 | j + 1, hj => by
  funext u
  rw [(hs j (by omega)).slots u, v2x hs j (by omega)]
  simp only [yn]
  by_cases h : (ds j).o.dst = some u
  ·rw [if_pos h, z2i (p := fun i => i < j + 1 ∧ (ds i).o.dst = some u) (k := j) (by omega) ⟨by omega, h⟩ (fun i h1 _ h2 => by omega)]
  ·rw [if_neg h, w0m (p := fun i => i < j ∧ (ds i).o.dst = some u) (q := fun i => i < j + 1 ∧ (ds i).o.dst = some u)]
   intro i _
   constructor
   ·rintro ⟨h1, h2⟩; exact ⟨by omega, h2⟩
   ·rintro ⟨h1, h2⟩
    refine ⟨?_, h2⟩
    rcases Nat.lt_or_ge i j with h3 | h3
    ·exact h3
    ·have : i = j := by omega
     subst this; exact absurd h2 h

theorem v0g (σ : St) (d : Option Nat) (v : SV) : (σ.putO d v).objs = σ.objs := by cases d <;> rfl
theorem w0t (σ : St) (res : Option VO) (u : Nat) (h : u ≠ σ.next) : (addO σ res).objs u = σ.objs u := by
 cases res with
 | none => rfl
 | some o => simp [addO, St.new, h]
theorem DStep.objs (R : Reg N dir ds) {j : Nat} (hj : j < N) {σ σ1 : St} {v : SV} (h : DStep P G base (ds j) j σ σ1 v) :
 (∀ u, ¬ wr ds j u → u ≠ base + j → σ1.objs u = σ.objs u) ∧ (makes (ds j).o.op = false → ∀ u, ¬ wr ds j u → σ1.objs u = σ.objs u) ∧
   (∀ u, u ≠ base + j → σ.objs u = none → σ1.objs u = none) ∧ (makes (ds j).o.op = false → ∀ u, σ.objs u = none → σ1.objs u = none) := by
 rcases h with ⟨t, want, b, _, _, _, _, rfl, rfl⟩ | ⟨_, hck, σ', h1, rfl⟩
 ·rw [v0g]; exact ⟨fun _ _ _ => rfl, fun _ _ _ => rfl, fun _ _ h => h, fun _ _ h => h⟩
 ·rw [v0g]
  cases hc : clsOf (ds j).o.op with
  | w =>
   cases hprv : (ds j).prv with
   | none =>
    have hh := R.hid_w (base := base) hj hc hprv
    obtain ⟨_, _, h3, h4⟩ := DS_w (τ := σ.vis base j (ds j).hid (ds j).hido) hc (fun _ _ => rfl) rfl rfl h1
    have hb : (σ.back base (ds j).hid (ds j).hido σ').objs = σ'.objs := by funext u; simp [St.back, hh]
    have hv : ∀ u, (σ.vis base j (ds j).hid (ds j).hido).objs u = σ.objs u := fun u => by simp [St.vis, hh]
    rw [hb]
    have hwr : ∀ u, wr ds j u := fun u => ⟨hc, .inl hprv⟩
    exact ⟨fun u h => absurd (hwr u) h, fun _ u h => absurd (hwr u) h, fun u h5 h6 => h3 u (by rw [hv]; exact h6) h5, fun h5 u h6 => h4 h5 u (by rw [hv]; exact h6)⟩
   | some u0 =>
    have hp := (v2e hck).2 u0 hprv
    have hu0 : u0 < base + j := (y2v (v2e hck).1).2 u0 hprv
    obtain ⟨o', res, hm, rfl, _, hne⟩ := DS_st (τ := σ.vis base j (ds j).hid (ds j).hido) hp (fun _ _ => rfl) (fun _ _ h => h) rfl h1
    have hvis : isHid base (ds j).hid (ds j).hido u0 = false := by
     rw [Bool.eq_false_iff]; intro h
     exact hne (by simp [St.vis, h])
    have h0 : σ.objs u0 ≠ none := by simpa [St.vis, hvis] using hne
    have hb : ∀ u, u ≠ u0 → u ≠ base + j → (σ.back base (ds j).hid (ds j).hido (addO ((σ.vis base j (ds j).hid (ds j).hido).setO u0 o') res)).objs u = σ.objs u := by
     intro u hu hu2
     simp only [St.back]
     split
     ·rfl
     ·rename_i hh
      rw [w0t _ _ _ hu2]
      simp [St.setO, hu, St.vis, hh]
    have hb2 : makes (ds j).o.op = false → ∀ u, u ≠ u0 → (σ.back base (ds j).hid (ds j).hido (addO ((σ.vis base j (ds j).hid (ds j).hido).setO u0 o') res)).objs u = σ.objs u := by
     intro hmk u hu
     rw [hm hmk]
     simp only [St.back, addO, St.setO, hu, if_false, St.vis]
     split <;> rfl
    have hwu : ∀ u, ¬ wr ds j u → u ≠ u0 := fun u h e => h ⟨hc, .inr (by rw [e]; exact hprv)⟩
    refine ⟨fun u h h2 => hb u (hwu u h) h2, fun hmk u h => hb2 hmk u (hwu u h), fun u h2 h => ?_, fun hmk u h => ?_⟩
    ·by_cases e : u = u0
     ·subst e; exact absurd h h0
     ·rw [hb u e h2]; exact h
    ·by_cases e : u = u0
     ·subst e; exact absurd h h0
     ·rw [hb2 hmk u e]; exact h
  | p =>
   obtain ⟨rfl, _⟩ := DS_p (τ := σ.vis base j (ds j).hid (ds j).hido) hc (fun _ _ => rfl) h1
   have hb : (σ.back base (ds j).hid (ds j).hido (σ.vis base j (ds j).hid (ds j).hido)).objs = σ.objs := by funext u; simp only [St.back, St.vis]; split <;> rfl
   rw [hb]
   exact ⟨fun _ _ _ => rfl, fun _ _ _ => rfl, fun _ _ h => h, fun _ _ h => h⟩
  | m =>
   obtain ⟨res, h2, rfl, _⟩ := DS_m (τ := σ.vis base j (ds j).hid (ds j).hido) hc (fun _ _ => rfl) (fun _ _ h => h) rfl h1
   have hb : ∀ u, u ≠ base + j → (σ.back base (ds j).hid (ds j).hido (addO (σ.vis base j (ds j).hid (ds j).hido) res)).objs u = σ.objs u := by
    intro u hu
    simp only [St.back]
    split
    ·rfl
    ·rename_i hh
     rw [w0t _ _ _ hu]
     simp [St.vis, hh]
   have hb2 : makes (ds j).o.op = false → (σ.back base (ds j).hid (ds j).hido (addO (σ.vis base j (ds j).hid (ds j).hido) res)).objs = σ.objs := by
    intro hm
    rw [h2 hm]
    funext u
    simp only [St.back, addO, St.vis]
    split <;> rfl
   exact ⟨fun u _ hu => hb u hu, fun hm u _ => by rw [hb2 hm], fun u hu h => by rw [hb u hu]; exact h, fun hm u h => by rw [hb2 hm]; exact h⟩
theorem u0g (R : Reg N dir ds) (hs : y0p P G base N ds tr val) (h0 : ∀ u, base ≤ u → (tr 0).objs u = none) : ∀ j, j ≤ N → ∀ i, j ≤ i → (tr j).objs (base + i) = none
 | 0, _, i, _ => h0 _ (by omega)
 | j + 1, hj, i, hi => ((hs j (by omega)).objs R (by omega)).2.2.1 _ (by omega) (u0g R hs h0 j (by omega) i (by omega))
theorem x0o (R : Reg N dir ds) (hs : y0p P G base N ds tr val) (h0 : ∀ u, base ≤ u → (tr 0).objs u = none) {i : Nat} (hm : makes (ds i).o.op = false) : ∀ j, j ≤ N → (tr j).objs (base + i) = none
 | 0, _ => h0 _ (by omega)
 | j + 1, hj => by
  by_cases e : i = j
  ·subst e; exact ((hs i (by omega)).objs R (by omega)).2.2.2 hm _ (x0o R hs h0 hm i (by omega))
  ·exact ((hs j (by omega)).objs R (by omega)).2.2.1 _ (by omega) (x0o R hs h0 hm j (by omega))
theorem y1t (R : Reg N dir ds) (hs : y0p P G base N ds tr val) {j : Nat} (h1 : (tr (j + 1)).objs (base + j) = none) : ∀ d, j + 1 + d ≤ N → (tr (j + 1 + d)).objs (base + j) = none
 | 0, _ => h1
 | d + 1, hd => ((hs (j + 1 + d) (by omega)).objs R (by omega)).2.2.1 _ (by omega) (y1t R hs h1 d (by omega))
theorem x0m (R : Reg N dir ds) (hs : y0p P G base N ds tr val) {u : Nat} : ∀ (d j : Nat), j + d ≤ N → (∀ k, j ≤ k → k < j + d → ¬ wr ds k u ∧ (u ≠ base + k ∨ makes (ds k).o.op = false)) → (tr (j + d)).objs u = (tr j).objs u
 | 0, j, _, _ => rfl
 | d + 1, j, hj, h => by
  have ih := x0m R hs d j (by omega) fun k h1 h2 => h k h1 (by omega)
  obtain ⟨g1, g2⟩ := h (j + d) (by omega) (by omega)
  have st := (hs (j + d) (by omega)).objs R (by omega)
  rw [show j + (d + 1) = j + d + 1 from by omega]
  rcases g2 with g2 | g2
  ·rw [st.1 u g1 g2, ih]
  ·rw [st.2.1 g2 u g1, ih]
end
noncomputable def zt (N base : Nat) (tr : Nat → St) (S : Nat → Prop) (m : Nat → Nat) (u : Nat) : Option VO :=
 open Classical in if ∃ i, i < N ∧ u = base + i ∧ ¬ S i then none else (tr (m u)).objs u
structure Down (N : Nat) (ds : Nat → DOper) (S : Nat → Prop) (m : Nat → Nat) : Prop where
 down : ∀ j, j < N → S j → ∀ k ∈ (ds j).pre, S k
 le : ∀ u, m u ≤ N
 below : ∀ u i, i < m u → wr ds i u → S i
 at_ : ∀ u, m u < N → wr ds (m u) u ∧ ¬ S (m u)
theorem u3o (N : Nat) (ds : Nat → DOper) (S : Nat → Prop) (u : Nat) : ∀ d s, s + d = N → ∃ m, s ≤ m ∧ m ≤ N ∧ (∀ i, s ≤ i → i < m → wr ds i u → S i) ∧ (m < N → wr ds m u ∧ ¬ S m)
 | 0, s, h => ⟨s, Nat.le_refl _, by omega, fun i h1 h2 => by omega, fun h1 => by omega⟩
 | d + 1, s, h => by
  by_cases hw : wr ds s u ∧ ¬ S s
  ·exact ⟨s, Nat.le_refl _, by omega, fun i h1 h2 => by omega, fun _ => hw⟩
  ·obtain ⟨m, h1, h2, h3, h4⟩ := u3o N ds S u d (s + 1) (by omega)
   refine ⟨m, by omega, h2, fun i g1 g2 g3 => ?_, h4⟩
   by_cases e : i = s
   ·subst e; exact Classical.byContradiction fun hn => hw ⟨g3, hn⟩
   ·exact h3 i (by omega) g2 g3

section
variable {P : Program} {G : Nat → Option (List D)} {X : Ctx} {n : Nat} {N base : Nat} {dir : Nat → List Nat} {ds : Nat → DOper} {tr : Nat → St} {val : Nat → SV} {S : Nat → Prop} {m : Nat → Nat} {j : Nat}

theorem w1r {a b : VOper} {d : Nat} (h : a.dst = some d) (hd : d ∈ slOf b ∨ b.dst = some d) : u0l a b = true := by
 unfold u0l
 rw [h]
 simp only [Option.any_some, Bool.or_eq_true]
 left
 rcases hd with hd | hd
 ·left; simpa using hd
 ·right; simp [hd]
theorem z2y {a b : VOper} {d : Nat} (h : b.dst = some d) (hd : d ∈ slOf a) : u0l a b = true := by
 unfold u0l
 rw [h]
 simp only [Option.any_some, Bool.or_eq_true]
 right
 simpa using hd
theorem z3i (R : Reg N dir ds) (hs : y0p P G base N ds tr val) (dn : Down N ds S m) (hj : j < N) (hnj : ¬ S j) (hp : ∀ k ∈ (ds j).pre, S k) {t : Nat} (ht : t ∈ slOf (ds j).o) : yn N ds val (tr 0) S t = (tr j).slots t := by
 rw [v2x hs j (by omega)]
 simp only [yn]
 rw [w0m (p := fun i => S i ∧ (ds i).o.dst = some t) (q := fun i => i < j ∧ (ds i).o.dst = some t)]
 intro i hi
 constructor
 ·rintro ⟨h1, h2⟩
  refine ⟨?_, h2⟩
  rcases Nat.lt_trichotomy i j with h | h | h
  ·exact h
  ·subst h; exact absurd h1 hnj
  ·exact absurd (dn.down i hi h1 j (R.conf i hi j h (by rw [z2y h2 ht]))) hnj
 ·rintro ⟨h1, h2⟩
  exact ⟨hp i (R.conf j hj i h1 (by rw [w1r h2 (.inl ht)])), h2⟩
theorem u4u (R : Reg N dir ds) (dn : Down N ds S m) (hj : j < N) (hnj : ¬ S j) (u : Nat) :
 yn N ds val (tr 0) (fun i => S i ∨ i = j) u = if (ds j).o.dst = some u then val j else yn N ds val (tr 0) S u := by
 simp only [yn]
 by_cases h : (ds j).o.dst = some u
 ·rw [if_pos h, z2i (p := fun i => (S i ∨ i = j) ∧ (ds i).o.dst = some u) (k := j) hj ⟨.inr rfl, h⟩]
  rintro i h1 h2 ⟨h3 | h3, h4⟩
  ·exact hnj (dn.down i h2 h3 j (R.conf i h2 j h1 (by rw [w1r h (.inr h4)])))
  ·omega
 ·rw [if_neg h, w0m (p := fun i => (S i ∨ i = j) ∧ (ds i).o.dst = some u) (q := fun i => S i ∧ (ds i).o.dst = some u)]
  intro i _
  constructor
  ·rintro ⟨h1 | h1, h2⟩
   ·exact ⟨h1, h2⟩
   ·subst h1; exact absurd h2 h
  ·rintro ⟨h1, h2⟩; exact ⟨.inl h1, h2⟩

theorem wu {u : Nat} (h : ∃ i, i < N ∧ u = base + i ∧ ¬ S i) : zt N base tr S m u = none := by simp only [zt]; rw [if_pos h]
theorem z0h {u : Nat} (h : ¬ ∃ i, i < N ∧ u = base + i ∧ ¬ S i) : zt N base tr S m u = (tr (m u)).objs u := by simp only [zt]; rw [if_neg h]
theorem u0y {m' : Nat → Nat} {u : Nat} (h : u ≠ base + j) (hm : m' u = m u) : zt N base tr (fun i => S i ∨ i = j) m' u = zt N base tr S m u := by
 by_cases hc : ∃ i, i < N ∧ u = base + i ∧ ¬ S i
 ·rw [wu hc]
  obtain ⟨i, h1, h2, h3⟩ := hc
  exact wu ⟨i, h1, h2, fun h4 => h4.elim h3 fun e => h (by rw [h2, e])⟩
 ·rw [z0h hc, ← hm]
  refine z0h ?_
  rintro ⟨i, h1, h2, h3⟩
  exact hc ⟨i, h1, h2, fun h4 => h3 (.inl h4)⟩
theorem u0u {m' : Nat → Nat} : zt N base tr (fun i => S i ∨ i = j) m' (base + j) = (tr (m' (base + j))).objs (base + j) := by
 refine z0h ?_
 rintro ⟨i, h1, h2, h3⟩
 exact h3 (.inr (by omega))

theorem y2y (R : Reg N dir ds) (hs : y0p P G base N ds tr val) (h0 : ∀ u, base ≤ u → (tr 0).objs u = none) (dn : Down N ds S m) (hj : j < N) (hnj : ¬ S j) (hp : ∀ k ∈ (ds j).pre, S k) (hcp : clsOf (ds j).o.op ≠ .p) :
 ∀ u o, ((tr j).vis base j (ds j).hid (ds j).hido).objs u = some o → j ≤ m u ∧ zt N base tr S m u = some o ∧ (tr (m u)).objs u = some o := by
 intro u o hu
 have hnh : isHid base (ds j).hid (ds j).hido u = false := by
  rw [Bool.eq_false_iff]
  intro h
  simp [St.vis, h] at hu
 have hu' : (tr j).objs u = some o := by simpa [St.vis, hnh] using hu
 have hno : u ∉ (ds j).hido := by
  intro h
  have := (R.hid_is (base := base) hj).2 (.inr h)
  rw [hnh] at this; cases this
 have hjm : j ≤ m u := by
  rcases Nat.lt_or_ge (m u) j with h | h
  ·obtain ⟨k1, k2⟩ := dn.at_ u (by omega)
   exact absurd (hp _ (R.ordw hj h k1 hcp hno (fun _ => .inr trivial))) k2
  ·exact h
 have nw : ∀ k, j ≤ k → k < m u → ¬ wr ds k u := by
  intro k h1 h2 h3
  have hS := dn.below u k h2 h3
  have hkN : k < N := by have := dn.le u; omega
  rcases Nat.eq_or_lt_of_le h1 with rfl | h4
  ·exact hnj hS
  ·exact hnj (dn.down k hkN hS j (R.ordr hkN h4 h3 hcp hno))
 have key : (tr (m u)).objs u = some o := by
  have := x0m R hs (u := u) (m u - j) j (by have := dn.le u; omega) fun k h1 h2 => ⟨nw k h1 (by omega), .inl (by
   rintro rfl
   rw [u0g R hs h0 j (by omega) k h1] at hu'; cases hu')⟩
  rw [show j + (m u - j) = m u from by omega] at this
  rw [this]; exact hu'
 refine ⟨hjm, ?_, key⟩
 rw [z0h]
 ·exact key
 ·rintro ⟨i, h1, rfl, h3⟩
  have hij : i < j := by
   rcases Nat.lt_or_ge i j with h | h
   ·exact h
   ·rw [u0g R hs h0 j (by omega) i h] at hu'; cases hu'
  have hmk : makes (ds i).o.op = true := by
   cases hm : makes (ds i).o.op with
   | true => rfl
   | false => rw [x0o R hs h0 hm j (by omega)] at hu'; cases hu'
  refine h3 (hp i (Classical.byContradiction fun hnp => ?_))
  have := (R.hid_is (base := base) hj).2 (.inl ⟨i, hij, hmk, hnp, rfl⟩)
  rw [hnh] at this; cases this

theorem v3x (R : Reg N dir ds) (hs : y0p P G base N ds tr val) (h0 : ∀ u, base ≤ u → (tr 0).objs u = none) (dn : Down N ds S m) (hj : j < N) (hnj : ¬ S j) (hp : ∀ k ∈ (ds j).pre, S k) :
 ∃ m', Down N ds (fun i => S i ∨ i = j) m' ∧
  ((∃ t want b, (ds j).o.guard = some (t, want) ∧ grd (yn N ds val (tr 0) S t) = some b ∧ b ≠ some want ∧ val j = .und ∧ zt N base tr (fun i => S i ∨ i = j) m' = zt N base tr S m) ∨
   (((ds j).o.guard = none ∨ ∃ t want, (ds j).o.guard = some (t, want) ∧ grd (yn N ds val (tr 0) S t) = some (some want)) ∧
    ∃ T', DS P G (ds j).o.op ⟨yn N ds val (tr 0) S, zt N base tr S m, base + j⟩ T' (val j) ∧ T'.slots = yn N ds val (tr 0) S ∧ T'.objs = zt N base tr (fun i => S i ∨ i = j) m')) := by
 have hg : ∀ {t : Nat} {want : Bool}, (ds j).o.guard = some (t, want) → yn N ds val (tr 0) S t = (tr j).slots t := fun {t want} h => z3i R hs dn hj hnj hp (by simp [slOf, h])
 have hsl : ∀ t ∈ opSl (ds j).o.op, ((tr j).vis base j (ds j).hid (ds j).hido).slots t = yn N ds val (tr 0) S t := fun t ht => (z3i R hs dn hj hnj hp (by simp [slOf, ht])).symm
 have dn' : clsOf (ds j).o.op ≠ .w → Down N ds (fun i => S i ∨ i = j) m := by
  intro hc
  refine ⟨?_, dn.le, fun u i h1 h2 => .inl (dn.below u i h1 h2), fun u h => ⟨(dn.at_ u h).1, ?_⟩⟩
  ·rintro i hi (h | rfl) k hk
   ·exact .inl (dn.down i hi h k hk)
   ·exact .inl (hp k hk)
  ·rintro (h1 | h1)
   ·exact (dn.at_ u h).2 h1
   ·exact hc (h1 ▸ (dn.at_ u h).1.1)
 have step := hs j hj
 -- a new place that nothing else writes
 have hnew : ∀ {m' : Nat → Nat}, (∀ u, m' u ≤ N) → j < m' (base + j) → (∀ k, j < k → k < m' (base + j) → ¬ wr ds k (base + j)) → (tr (m' (base + j))).objs (base + j) = (tr (j + 1)).objs (base + j) := by
  intro m' hle hlt nw
  have := x0m R hs (u := base + j) (m' (base + j) - (j + 1)) (j + 1) (by have := hle (base + j); omega) fun k h1 h2 => ⟨nw k (by omega) (by omega), .inl (by omega)⟩
  rwa [show j + 1 + (m' (base + j) - (j + 1)) = m' (base + j) from by omega] at this
 cases hc : clsOf (ds j).o.op with
 | p =>
  have hmk : makes (ds j).o.op = false := by
   cases hm : makes (ds j).o.op with
   | false => rfl
   | true => exact absurd hc (z1o hm)
  have hob : zt N base tr (fun i => S i ∨ i = j) m = zt N base tr S m := by
   funext u
   by_cases e : u = base + j
   ·subst e
    rw [u0u, wu ⟨j, hj, rfl, hnj⟩]
    exact x0o R hs h0 hmk _ (dn.le _)
   ·exact u0y e rfl
  refine ⟨m, dn' (by rw [hc]; simp), ?_⟩
  rcases step with ⟨t, want, b, g1, g2, g3, _, g4, _⟩ | ⟨g, _, σ', g1, _⟩
  ·exact .inl ⟨t, want, b, g1, by rw [hg g1]; exact g2, g3, g4, hob⟩
  ·refine .inr ⟨g.imp id fun ⟨t, want, k1, k2⟩ => ⟨t, want, k1, by rw [hg k1]; exact k2⟩, ⟨yn N ds val (tr 0) S, zt N base tr S m, base + j⟩, ?_, rfl, hob.symm⟩
   exact (DS_p (τ := ⟨yn N ds val (tr 0) S, zt N base tr S m, base + j⟩) hc hsl g1).2
 | m =>
  have hcp : clsOf (ds j).o.op ≠ .p := by rw [hc]; simp
  have hcw : clsOf (ds j).o.op ≠ .w := by rw [hc]; simp
  refine ⟨m, dn' hcw, ?_⟩
  rcases step with ⟨t, want, b, g1, g2, g3, _, g4, g5⟩ | ⟨g, hck, σ', g1, g5⟩
  ·refine .inl ⟨t, want, b, g1, by rw [hg g1]; exact g2, g3, g4, ?_⟩
   funext u
   by_cases e : u = base + j
   ·subst e
    rw [u0u, wu ⟨j, hj, rfl, hnj⟩]
    have e1 : (tr (j + 1)).objs (base + j) = none := by
     rw [g5, v0g]; exact u0g R hs h0 j (by omega) j (Nat.le_refl _)
    rcases Nat.lt_or_ge (m (base + j)) (j + 1) with h | h
    ·exact u0g R hs h0 _ (dn.le _) j (by omega)
    ·have := y1t R hs e1 (m (base + j) - (j + 1)) (by have := dn.le (base + j); omega)
     rwa [show j + 1 + (m (base + j) - (j + 1)) = m (base + j) from by omega] at this
   ·exact u0y e rfl
  ·have hnob : (base + j) ∉ (ds j).hido := fun h => (y2v (v2e hck).1).1 _ h rfl
   have hjm : j < m (base + j) := by
    rcases Nat.lt_or_ge j (m (base + j)) with h | h
    ·exact h
    ·have hmN : m (base + j) < N := by omega
     obtain ⟨k1, k2⟩ := dn.at_ _ hmN
     have hne : m (base + j) ≠ j := by intro e; rw [e] at k1; exact hcw k1.1
     exact absurd (hp _ (R.ordw hj (by omega) k1 hcp hnob (fun _ => .inr trivial))) k2
   have nw : ∀ k, j < k → k < m (base + j) → ¬ wr ds k (base + j) := by
    intro k h1 h2 h3
    have hkN : k < N := by have := dn.le (base + j); omega
    exact hnj (dn.down k hkN (dn.below _ k h2 h3) j (R.ordr hkN h1 h3 hcp hnob))
   have hle : ObjLe ((tr j).vis base j (ds j).hid (ds j).hido) ⟨yn N ds val (tr 0) S, zt N base tr S m, base + j⟩ :=
    fun u o hu => (y2y R hs h0 dn hj hnj hp hcp u o hu).2.1
   have nhid : isHid base (ds j).hid (ds j).hido (base + j) = false := by
    rw [Bool.eq_false_iff]
    intro h
    rcases (R.hid_is hj).1 h with ⟨i, h1, _, _, h2⟩ | h
    ·omega
    ·exact hnob h
   obtain ⟨res, _, rfl, hds⟩ := DS_m hc hsl hle rfl g1
   refine .inr ⟨g.imp id fun ⟨t, want, k1, k2⟩ => ⟨t, want, k1, by rw [hg k1]; exact k2⟩, _, hds, by cases res <;> rfl, ?_⟩
   funext u
   by_cases e : u = base + j
   ·subst e
    rw [u0u, hnew dn.le hjm nw, g5, v0g]
    simp only [St.back, nhid]
    cases res with
    | none =>
     simp only [addO, St.vis, nhid, Bool.false_eq_true, if_false]
     rw [wu ⟨j, hj, rfl, hnj⟩, u0g R hs h0 j (by omega) j (Nat.le_refl _)]
    | some o => simp [addO, St.new, St.vis]
   ·rw [u0y e rfl]
    exact w0t ⟨yn N ds val (tr 0) S, zt N base tr S m, base + j⟩ res u e
 | w =>
  have hcp : clsOf (ds j).o.op ≠ .p := by rw [hc]; simp
  cases hprv : (ds j).prv with
  | none =>
   have hwr : ∀ u, wr ds j u := fun u => ⟨hc, .inl hprv⟩
   have hido : (ds j).hido = [] := R.gen j hj hprv hc
   have ord1 : ∀ i, i < j → clsOf (ds i).o.op ≠ .p → S i := by
    intro i h1 h2
    refine hp i (R.mem j hj i h1 ?_)
    unfold z0v sepD
    simp [hc, hprv, h2]
   have ord2 : ∀ k, j < k → k < N → clsOf (ds k).o.op ≠ .p → ¬ S k := by
    intro k h1 h2 h3 h4
    refine hnj (dn.down k h2 h4 j (R.mem k h2 j h1 ?_))
    unfold z0v sepD
    simp [hc, hprv, h3]
   have hmj : ∀ u, m u = j := by
    intro u
    rcases Nat.lt_trichotomy (m u) j with h | h | h
    ·obtain ⟨k1, k2⟩ := dn.at_ u (by omega)
     exact absurd (ord1 _ h (by rw [k1.1]; simp)) k2
    ·exact h
    ·exact absurd (dn.below u j h (hwr u)) hnj
   have hmk : ∀ i, i < j → ¬ S i → makes (ds i).o.op = false := by
    intro i h1 h2
    cases hm : makes (ds i).o.op with
    | false => rfl
    | true => exact absurd (ord1 i h1 (z1o hm)) h2
   have hold : zt N base tr S m = (tr j).objs := by
    funext u
    by_cases hx : ∃ i, i < N ∧ u = base + i ∧ ¬ S i
    ·rw [wu hx]
     obtain ⟨i, h1, rfl, h3⟩ := hx
     rcases Nat.lt_or_ge i j with h | h
     ·exact (x0o R hs h0 (hmk i h h3) j (by omega)).symm
     ·exact (u0g R hs h0 j (by omega) i h).symm
    ·rw [z0h hx, hmj]
   have hex := fun u => u3o N ds (fun i => S i ∨ i = j) u (N - (j + 1)) (j + 1) (by omega)
   let m' : Nat → Nat := fun u => Classical.choose (hex u)
   have hm' : ∀ u, j + 1 ≤ m' u ∧ m' u ≤ N ∧ (∀ i, j + 1 ≤ i → i < m' u → wr ds i u → S i ∨ i = j) ∧ (m' u < N → wr ds (m' u) u ∧ ¬ (S (m' u) ∨ m' u = j)) := fun u => Classical.choose_spec (hex u)
   have hnew' : zt N base tr (fun i => S i ∨ i = j) m' = (tr (j + 1)).objs := by
    funext u
    obtain ⟨w1, w2, w3, w4⟩ := hm' u
    by_cases hx : ∃ i, i < N ∧ u = base + i ∧ ¬ (S i ∨ i = j)
    ·rw [wu hx]
     obtain ⟨i, h1, rfl, h3⟩ := hx
     simp only [not_or] at h3
     rcases Nat.lt_or_ge i (j + 1) with h | h
     ·exact (x0o R hs h0 (hmk i (by omega) h3.1) (j + 1) (by omega)).symm
     ·exact (u0g R hs h0 (j + 1) (by omega) i h).symm
    ·rw [z0h hx]
     have := x0m R hs (u := u) (m' u - (j + 1)) (j + 1) (by omega) fun k h1 h2 => by
      have hkN : k < N := by omega
      constructor
      ·intro hw
       rcases w3 k h1 (by omega) hw with h | h
       ·exact ord2 k (by omega) hkN (by rw [hw.1]; simp) h
       ·omega
      ·by_cases e : u = base + k
       ·right
        subst e
        cases hm : makes (ds k).o.op with
        | false => rfl
        | true =>
         exfalso
         refine hx ⟨k, hkN, rfl, ?_⟩
         rintro (h | h)
         ·exact ord2 k (by omega) hkN (z1o hm) h
         ·omega
       ·exact .inl e
     rwa [show j + 1 + (m' u - (j + 1)) = m' u from by omega] at this
   refine ⟨m', ⟨?_, fun u => (hm' u).2.1, ?_, fun u => (hm' u).2.2.2⟩, ?_⟩
   ·rintro i hi (h | rfl) k hk
    ·exact .inl (dn.down i hi h k hk)
    ·exact .inl (hp k hk)
   ·intro u i h1 h2
    rcases Nat.lt_or_ge i (j + 1) with h | h
    ·rcases Nat.lt_or_ge i j with h3 | h3
     ·exact .inl (dn.below u i (by rw [hmj]; exact h3) h2)
     ·exact .inr (by omega)
    ·exact (hm' u).2.2.1 i h h1 h2
   rcases step with ⟨t, want, b, g1, g2, g3, _, g4, g5⟩ | ⟨g, _, σ', g1, g5⟩
   ·refine .inl ⟨t, want, b, g1, by rw [hg g1]; exact g2, g3, g4, ?_⟩
    rw [hnew', hold, g5, v0g]
   ·have hh := R.hid_w (base := base) hj hc hprv
    have hvo : ((tr j).vis base j (ds j).hid (ds j).hido).objs = (tr j).objs := by funext u; simp [St.vis, hh]
    obtain ⟨k1, k2, _, _⟩ := DS_w (τ := ⟨yn N ds val (tr 0) S, zt N base tr S m, base + j⟩) hc hsl (by rw [hvo]; exact hold) rfl g1
    refine .inr ⟨g.imp id fun ⟨t, want, k1, k2⟩ => ⟨t, want, k1, by rw [hg k1]; exact k2⟩, _, k1, rfl, ?_⟩
    rw [hnew', g5, v0g]
    funext u
    simp [St.back, hh]
  | some u0 =>
   have hw0 : wr ds j u0 := ⟨hc, .inr hprv⟩
   have hwo : ∀ u, wr ds j u → u = u0 := fun u h => by
    rcases h.2 with h | h
    ·rw [hprv] at h; cases h
    ·rw [hprv] at h; exact (Option.some.inj h).symm
   have hsee : u0 ∉ (ds j).hido := R.wr_sees hj hw0
   have hmj : m u0 = j := by
    rcases Nat.lt_trichotomy (m u0) j with h | h | h
    ·obtain ⟨k1, k2⟩ := dn.at_ u0 (by omega)
     exact absurd (hp _ (R.ordw hj h k1 hcp hsee (fun _ => .inr trivial))) k2
    ·exact h
    ·exact absurd (dn.below u0 j h hw0) hnj
   obtain ⟨m1, w1, w2, w3, w4⟩ := u3o N ds (fun i => S i ∨ i = j) u0 (N - (j + 1)) (j + 1) (by omega)
   let m' : Nat → Nat := fun u => if u = u0 then m1 else m u
   have hm0 : m' u0 = m1 := if_pos rfl
   have hmn : ∀ u, u ≠ u0 → m' u = m u := fun u h => if_neg h
   have hlt0 : u0 < base + j := step.chk.2 u0 hprv
   have hne0 : u0 ≠ base + j := by omega
   have hnob : (base + j) ∉ (ds j).hido := fun h => step.chk.1 _ h rfl
   have dnn : Down N ds (fun i => S i ∨ i = j) m' := by
    refine ⟨?_, fun u => ?_, fun u i h1 h2 => ?_, fun u h => ?_⟩
    ·rintro i hi (h | rfl) k hk
     ·exact .inl (dn.down i hi h k hk)
     ·exact .inl (hp k hk)
    ·by_cases e : u = u0
     ·subst e; rw [hm0]; exact w2
     ·rw [hmn u e]; exact dn.le u
    ·by_cases e : u = u0
     ·subst e
      rw [hm0] at h1
      rcases Nat.lt_or_ge i (j + 1) with h | h
      ·rcases Nat.lt_or_ge i j with h3 | h3
       ·exact .inl (dn.below u i (by rw [hmj]; exact h3) h2)
       ·exact .inr (by omega)
      ·exact w3 i h h1 h2
     ·rw [hmn u e] at h1
      exact .inl (dn.below u i h1 h2)
    ·by_cases e : u = u0
     ·subst e; rw [hm0] at h ⊢; exact w4 h
     ·rw [hmn u e] at h ⊢
      refine ⟨(dn.at_ u h).1, ?_⟩
      rintro (h1 | h1)
      ·exact (dn.at_ u h).2 h1
      ·exact e (hwo u (h1 ▸ (dn.at_ u h).1))
   have nwk : ∀ k, j < k → k < m1 → ¬ wr ds k u0 := by
    intro k h1 h2 h3
    have hkN : k < N := by omega
    rcases w3 k (by omega) h2 h3 with h | h
    ·exact hnj (dn.down k hkN h j (R.ordr hkN h1 h3 hcp hsee))
    ·omega
   have hxy : (∃ i, i < N ∧ u0 = base + i ∧ ¬ (S i ∨ i = j)) ↔ ∃ i, i < N ∧ u0 = base + i ∧ ¬ S i := by
    constructor
    ·rintro ⟨i, q1, q2, q3⟩; exact ⟨i, q1, q2, fun h => q3 (.inl h)⟩
    ·rintro ⟨i, q1, q2, q3⟩; exact ⟨i, q1, q2, fun h => h.elim q3 fun e => hne0 (by rw [q2, e])⟩
   have hat0 : ¬ (∃ i, i < N ∧ u0 = base + i ∧ ¬ S i) → zt N base tr (fun i => S i ∨ i = j) m' u0 = (tr (j + 1)).objs u0 := by
    intro hx
    rw [z0h (fun h => hx (hxy.1 h)), hm0]
    have := x0m R hs (u := u0) (m1 - (j + 1)) (j + 1) (by omega) fun k h1 h2 => ⟨nwk k (by omega) (by omega), .inl (by omega)⟩
    rwa [show j + 1 + (m1 - (j + 1)) = m1 from by omega] at this
   have hold0 : ¬ (∃ i, i < N ∧ u0 = base + i ∧ ¬ S i) → zt N base tr S m u0 = (tr j).objs u0 := fun hx => by rw [z0h hx, hmj]
   have hrest : (tr (j + 1)).objs (base + j) = none → ∀ u, u ≠ u0 → zt N base tr (fun i => S i ∨ i = j) m' u = zt N base tr S m u := by
    intro e1 u hu
    by_cases e2 : u = base + j
    ·subst e2
     rw [u0u, wu ⟨j, hj, rfl, hnj⟩, hmn _ hu]
     rcases Nat.lt_or_ge (m (base + j)) (j + 1) with h | h
     ·exact u0g R hs h0 _ (dn.le _) j (by omega)
     ·have := y1t R hs e1 (m (base + j) - (j + 1)) (by have := dn.le (base + j); omega)
      rwa [show j + 1 + (m (base + j) - (j + 1)) = m (base + j) from by omega] at this
    ·exact u0y e2 (hmn u hu)
   have hnone : (tr j).objs (base + j) = none := u0g R hs h0 j (by omega) j (Nat.le_refl _)
   refine ⟨m', dnn, ?_⟩
   rcases step with ⟨t, want, b, g1, g2, g3, _, g4, g5⟩ | ⟨g, hck, σ', g1, g5⟩
   ·refine .inl ⟨t, want, b, g1, by rw [hg g1]; exact g2, g3, g4, ?_⟩
    have e1 : (tr (j + 1)).objs = (tr j).objs := by rw [g5, v0g]
    funext u
    by_cases e : u = u0
    ·subst e
     by_cases hx : ∃ i, i < N ∧ u = base + i ∧ ¬ S i
     ·rw [wu hx, wu (hxy.2 hx)]
     ·rw [hat0 hx, hold0 hx, e1]
    ·exact hrest (by rw [e1]; exact hnone) u e
   ·have hpt := (v2e hck).2 u0 hprv
    have hle : ObjLe ((tr j).vis base j (ds j).hid (ds j).hido) ⟨yn N ds val (tr 0) S, zt N base tr S m, base + j⟩ :=
     fun u o hu => (y2y R hs h0 dn hj hnj hp hcp u o hu).2.1
    obtain ⟨o', res, hmk, rfl, hds, hne⟩ := DS_st hpt hsl hle rfl g1
    obtain ⟨ov, hov⟩ := Option.ne_none_iff_exists'.1 hne
    have hvis : isHid base (ds j).hid (ds j).hido u0 = false := by
     rw [Bool.eq_false_iff]; intro h
     exact hne (by simp [St.vis, h])
    have hx : ¬ ∃ i, i < N ∧ u0 = base + i ∧ ¬ S i := fun hx => by
     have := (y2y R hs h0 dn hj hnj hp hcp u0 ov hov).2.1
     rw [wu hx] at this; cases this
    have hjm : j < m (base + j) := by
     rcases Nat.lt_or_ge j (m (base + j)) with h | h
     ·exact h
     ·have hmN : m (base + j) < N := by omega
      obtain ⟨k1, k2⟩ := dn.at_ _ hmN
      have hne : m (base + j) ≠ j := by intro e; rw [e] at k1; exact hne0 (hwo _ k1).symm
      exact absurd (hp _ (R.ordw hj (by omega) k1 hcp hnob (fun _ => .inr trivial))) k2
    have nw : ∀ k, j < k → k < m (base + j) → ¬ wr ds k (base + j) := by
     intro k h1 h2 h3
     have hkN : k < N := by have := dn.le (base + j); omega
     exact hnj (dn.down k hkN (dn.below _ k h2 h3) j (R.ordr hkN h1 h3 hcp hnob))
    have nhid : isHid base (ds j).hid (ds j).hido (base + j) = false := by
     rw [Bool.eq_false_iff]
     intro h
     rcases (R.hid_is hj).1 h with ⟨i, h1, _, _, h2⟩ | h
     ·omega
     ·exact hnob h
    have hmj' : m' (base + j) = m (base + j) := hmn _ (Ne.symm hne0)
    refine .inr ⟨g.imp id fun ⟨t, want, k1, k2⟩ => ⟨t, want, k1, by rw [hg k1]; exact k2⟩, _, hds, by cases res <;> rfl, ?_⟩
    funext u
    by_cases e2 : u = base + j
    ·subst e2
     rw [u0u, hnew (m' := m') dnn.le (by rw [hmj']; exact hjm) (by rw [hmj']; exact nw), g5, v0g]
     simp only [St.back, nhid]
     cases res with
     | none =>
      simp only [addO, St.vis, St.setO, nhid, Bool.false_eq_true, if_false, Ne.symm hne0]
      rw [wu ⟨j, hj, rfl, hnj⟩, hnone]
     | some o => simp [addO, St.new, St.vis, St.setO]
    ·by_cases e : u = u0
     ·subst e
      rw [hat0 hx, g5, v0g]
      simp only [St.back, hvis, Bool.false_eq_true, if_false]
      rw [w0t _ _ _ e2, w0t _ _ _ e2]
      simp [St.setO]
     ·rw [u0y e2 (hmn u e), w0t _ _ _ e2]
      simp [St.setO, e]
end
section
variable {P : Program} {G : Nat → Option (List D)} {X : Ctx} {n : Nat}

structure AnyInv (G : Nat → Option (List D)) (X : Ctx) (n M N base : Nat) (ds : Nat → DOper) (tr : Nat → St) (val : Nat → SV) (listed : Array Bool) (a : Act) (w : World) : Prop where
 size : listed.size = M
 up : ∀ i, N ≤ i → listed.getD i false = false
 ex : ∃ m O Im, Down N ds (fun i => listed.getD i false = true) m ∧
  SimW G X ⟨yn N ds val (tr 0) (fun i => listed.getD i false = true), zt N base tr (fun i => listed.getD i false = true) m, 0⟩ a.tmps w O Im ∧
  (∀ u, base + N ≤ u → O u = .free) ∧ (∀ i, i < N → listed.getD i false = false → O (base + i) = .free)
 defers : a.defers = []
 tmps : a.tmps.size = n

theorem z0l {listed : Array Bool} {j : Nat} (h : j < listed.size) : listed.getD j true = listed.getD j false := by
 simp [Array.getD_eq_getD_getElem?, h]
theorem u0x {listed : Array Bool} {j : Nat} (h : j < listed.size) : (fun i => (listed.setIfInBounds j true).getD i false = true) = fun i => listed.getD i false = true ∨ i = j := by
 funext i
 by_cases e : i = j
 ·subst e; simp [Array.getD_eq_getD_getElem?, h]
 ·have : j ≠ i := fun h => e h.symm
  simp [Array.getD_eq_getD_getElem?, Array.getElem?_setIfInBounds, this, e]

theorem z2f {md : Region.Mode} {e : Edge} (h : Region.binds .any e = true) : Region.binds md e = true := by
 unfold Region.binds at h ⊢
 split at h
 ·simp at h
 ·simp at h
 ·rfl
theorem x2i {md : Region.Mode} {ops : Array Oper} {N : Nat} (hN : ops.size = N) (hb : ∀ (j : Nat) (o : Oper), ops[j]? = some o → ∀ e ∈ o.after, Region.binds md e = true → e.on < j) :
 ∀ listed : Array Bool, listed.size = N → Region.ready md ops listed = [] → ∀ i, i < N → listed.getD i false = true := by
 intro listed hsz hr i
 induction i using Nat.strongRecOn with
 | _ i ih =>
  intro hi'
  cases hx : listed.getD i false with
  | true => rfl
  | false =>
   exfalso
   have hlt : i < ops.size := by omega
   have : i ∈ Region.ready md ops listed := by
    rw [mem_ready]
    refine ⟨by rw [z0l (by rw [hsz]; exact hi'), hx], ops[i], by simp [hlt], fun e he hbi => ?_⟩
    have := hb i ops[i] (by simp [hlt]) e he hbi
    exact ih _ this (by omega)
   rw [hr] at this
   cases this
theorem u5k {md : Region.Mode} {ops : Array Oper} {N : Nat} (hN : ops.size = N) (ord : List Nat) (hall : ∀ i, i < N → i ∈ ord) (hlt : ∀ i ∈ ord, i < N)
 (ho : ∀ (pre post : List Nat) (j : Nat) (o : Oper), ord = pre ++ j :: post → ops[j]? = some o → ∀ e ∈ o.after, Region.binds md e = true → e.on ∈ pre) :
 ∀ listed : Array Bool, listed.size = N → Region.ready md ops listed = [] → ∀ i, i < N → listed.getD i false = true := by
 intro listed hsz hr
 have key : ∀ (l pre : List Nat), ord = pre ++ l → (∀ i ∈ pre, listed.getD i false = true) → ∀ i ∈ l, listed.getD i false = true := by
  intro l
  induction l with
  | nil => intro pre _ _ i hi; cases hi
  | cons j post ih =>
   intro pre hord hpre i hi
   have hj : listed.getD j false = true := by
    cases hx : listed.getD j false with
    | true => rfl
    | false =>
     exfalso
     have hjN : j < N := hlt j (by rw [hord]; simp)
     have hjs : j < ops.size := by omega
     have : j ∈ Region.ready md ops listed := by
      rw [mem_ready]
      refine ⟨by rw [z0l (by rw [hsz]; exact hjN), hx], ops[j], by simp [hjs], fun e he hbi => ?_⟩
      exact hpre _ (ho pre post j ops[j] hord (by simp [hjs]) e he hbi)
     rw [hr] at this
     cases this
   rcases List.mem_cons.1 hi with rfl | hi
   ·exact hj
   ·exact ih (pre ++ [j]) (by simp [hord]) (fun k hk => by
     rcases List.mem_append.1 hk with hk | hk
     ·exact hpre k hk
     ·rw [List.mem_singleton.1 hk]; exact hj) i hi
 intro i hi
 exact key ord [] rfl (fun k hk => by cases hk) i (hall i hi)
def left (N : Nat) (listed : Array Bool) : Nat := ((List.range N).filter fun i => !listed.getD i false).length
theorem y4x {N : Nat} {listed : Array Bool} (h : left N listed = 0) : ∀ i, i < N → listed.getD i false = true := by
 intro i hi
 cases hb : listed.getD i false with
 | true => rfl
 | false =>
  have : i ∈ (List.range N).filter fun i => !listed.getD i false := List.mem_filter.2 ⟨List.mem_range.2 hi, by rw [hb]; rfl⟩
  rw [List.eq_nil_of_length_eq_zero h] at this
  cases this
theorem z3b {N : Nat} {listed : Array Bool} {j : Nat} (hN : listed.size = N) (hj : j < N) (h : listed.getD j false = false) : left N (listed.setIfInBounds j true) < left N listed := by
 have e : ((List.range N).filter fun i => !(listed.setIfInBounds j true).getD i false) = ((List.range N).filter fun i => !listed.getD i false).filter fun i => i != j := by
  rw [List.filter_filter]
  apply List.filter_congr
  intro i _
  have := congrFun (u0x (listed := listed) (j := j) (by omega)) i
  by_cases e : i = j
  ·subst e
   have h1 : (listed.setIfInBounds i true).getD i false = true := by simpa using this
   simp [h1]
  ·have h1 : ((listed.setIfInBounds j true).getD i false = true) = (listed.getD i false = true) := by simpa [e] using this
   have h2 : (listed.setIfInBounds j true).getD i false = listed.getD i false := by
    cases hx : listed.getD i false <;> cases hy : (listed.setIfInBounds j true).getD i false <;> simp [hx, hy] at h1 <;> rfl
   simp [h2, e]
 unfold left
 rw [e]
 refine List.length_filter_lt_length_iff_exists.2 ⟨j, List.mem_filter.2 ⟨List.mem_range.2 hj, by rw [h]; rfl⟩, by simp⟩

theorem y4a {M N : Nat} {listed : Array Bool} (h : N ≤ M) (h1 : ∀ i, i < N → listed.getD i false = true) (h2 : ∀ i, N ≤ i → listed.getD i false = false) : left M listed = M - N := by
 unfold left
 have : ∀ d, N + d = M → ((List.range M).filter fun i => !listed.getD i false).length = d := by
  intro d
  induction d generalizing M with
  | zero =>
   intro e
   rw [List.length_eq_zero_iff, List.filter_eq_nil_iff]
   intro i hi
   rw [h1 i (by have := List.mem_range.1 hi; omega)]; simp
  | succ d ih =>
   intro e
   obtain ⟨M', rfl⟩ : ∃ M', M = M' + 1 := ⟨N + d, by omega⟩
   rw [List.range_succ, List.filter_append, List.length_append, ih (by omega) (by omega)]
   rw [List.filter_cons, if_pos (by rw [h2 M' (by omega)]; rfl)]; rfl
 exact this (M - N) (by omega)
variable {M N base : Nat} {dir : Nat → List Nat} {ds : Nat → DOper} {tr : Nat → St} {val : Nat → SV} {ops : Array Oper}

theorem y3e (hs : y0p P G base N ds tr val) {listed : Array Bool} {a : Act} {w : World} (all : ∀ i, i < N → listed.getD i false = true) (hi : AnyInv G X n M N base ds tr val listed a w) : Inv G X n ⟨(tr N).slots, (tr N).objs, base + N⟩ a w := by
 obtain ⟨m, O, Im, dn, s, hf, _⟩ := hi.ex
 have hm : ∀ u, m u = N := by
  intro u
  rcases Nat.lt_or_ge (m u) N with h | h
  ·exact absurd (all _ h) (dn.at_ u h).2
  ·have := dn.le u; omega
 have e1 : yn N ds val (tr 0) (fun i => listed.getD i false = true) = (tr N).slots := by
  rw [v2x hs N (Nat.le_refl _)]
  funext u
  simp only [yn]
  rw [w0m]
  intro i hi'
  exact and_congr_left fun _ => ⟨fun _ => hi', fun _ => all i hi'⟩
 have e2 : zt N base tr (fun i => listed.getD i false = true) m = (tr N).objs := by
  funext u
  rw [← hm u]
  refine z0h ?_
  rw [hm u]
  rintro ⟨i, h1, _, h2⟩
  exact h2 (all i h1)
 rw [e1, e2] at s
 exact ⟨O, Im, s.nx _, hf, hi.defers, hi.tmps⟩
theorem x4d (R : Reg N dir ds) (R0 : Reg0 M dir ds) (hNM : N ≤ M) (hs : y0p P G base N ds tr val) (h0 : ∀ u, base ≤ u → (tr 0).objs u = none) (hN : ops.size = M) (hdir : ∀ (j : Nat) (o : Oper), ops[j]? = some o → dir j = xz o)
 (hlow : ∀ (j : Nat) (o : Oper), ops[j]? = some o → yw P n ops o = some (ds j).o.strip) {Q : Exit → Act → World → Prop} {listed : Array Bool} {a : Act} {w : World} (hi : AnyInv G X n M N base ds tr val listed a w) {j : Nat} (hj : j < N) {o : Oper} (hun : listed.getD j true = false) (ho : ops[j]? = some o) (hall : ∀ e ∈ o.after, Region.binds .any e = true → listed.getD e.on false = true)
 {K : Act → World → Prop} (hK : ∀ a' w', left M (listed.setIfInBounds j true) < left M listed → AnyInv G X n M N base ds tr val (listed.setIfInBounds j true) a' w' → K a' w') : wpOp P ops Q j K a w := by
 have hjM : j < M := by have := (Array.getElem?_eq_some_iff.1 ho).1; omega
 have hjl : j < listed.size := by rw [hi.size]; exact hjM
 rw [z0l hjl] at hun
 obtain ⟨m, O, Im, dn, s, hf1, hf2⟩ := hi.ex
 have hltN : ∀ q, listed.getD q false = true → q < N := fun q hq => Nat.lt_of_not_le fun h => by rw [hi.up q h] at hq; cases hq
 have hdl : ∀ k ∈ dir j, listed.getD k false = true := by
  intro k hk
  rw [hdir j o ho] at hk
  simp only [xz, List.mem_map, List.mem_filter, Array.mem_toList_iff] at hk
  obtain ⟨e, ⟨he, hb⟩, rfl⟩ := hk
  exact hall e he hb
 have hp : ∀ k ∈ (ds j).pre, listed.getD k false = true := by
  intro k hk
  obtain ⟨h1, h2 | ⟨q, h2, h3⟩⟩ := R0.pre j hjM k hk
  ·exact hdl k h2
  ·exact dn.down q (hltN q (hdl q h2)) (hdl q h2) k h3
 obtain ⟨m', dn', hst⟩ := v3x R hs h0 dn hj (by simp [hun]) hp
 have hset := u0x hjl
 have hsz : (listed.setIfInBounds j true).size = M := by simp [hi.size]
 have hlt := z3b hi.size hjM hun
 have hup : ∀ i, N ≤ i → (listed.setIfInBounds j true).getD i false = false := fun i hi' => by
  have := congrFun hset i
  cases hb : (listed.setIfInBounds j true).getD i false with
  | false => rfl
  | true =>
   rw [hb] at this
   rcases this.mp rfl with h | h
   ·rw [hi.up i hi'] at h; cases h
   ·omega
 have next : ∀ {a' : Act} {w' : World} {O' : Nat → LS} {Im' : Nat → Prop} {T : St}, SimW G X T a'.tmps w' O' Im' → T.slots = yn N ds val (tr 0) (fun i => listed.getD i false = true ∨ i = j) → T.objs = zt N base tr (fun i => listed.getD i false = true ∨ i = j) m' →
  (∀ u, u ≠ base + j → O u = .free → O' u = .free) → a'.defers = [] → a'.tmps.size = n → K a' w' := by
  intro a' w' O' Im' T s' e1 e2 hk hd' hs'
  refine hK _ _ hlt ⟨hsz, hup, ⟨m', O', Im', ?_, ?_, ?_, ?_⟩, hd', hs'⟩
  ·rw [hset]; exact dn'
  ·rw [hset, ← e1, ← e2]; exact s'.nx 0
  ·intro u hu; exact hk u (by omega) (hf1 u hu)
  ·intro i h1 h2
   have hne : i ≠ j := by
    rintro rfl
    have e : (listed.setIfInBounds i true).getD i false = true := (congrFun hset i).mpr (.inr rfl)
    rw [h2] at e; cases e
   have h3 : listed.getD i false = false := by
    cases hb : listed.getD i false with
    | false => rfl
    | true =>
     have e : (listed.setIfInBounds j true).getD i false = true := (congrFun hset i).mpr (.inl hb)
     rw [h2] at e; cases e
   exact hk _ (by omega) (hf2 i h1 h3)
 have hlo := hlow j o ho
 have hput : ∀ u, yn N ds val (tr 0) (fun i => listed.getD i false = true ∨ i = j) u = if (ds j).o.dst = some u then val j else yn N ds val (tr 0) (fun i => listed.getD i false = true) u := u4u R dn hj (by simp [hun])
 generalize hvo : (ds j).o = vo at *
 unfold yw at hlo
 split at hlo
 ·rename_i hdst
  simp only [Option.bind_eq_some_iff] at hlo
  obtain ⟨vop, hlop, hgd⟩ := hlo
  have hvd : vo.dst = o.dst ∧ vo.op.strip = vop ∧ ((o.guard = none ∧ vo.guard = none) ∨ ∃ q w' d, o.guard = some (q, w') ∧ vo.guard = some (d, w') ∧ (ops[q]?).bind (·.dst) = some d ∧ d < n) := by
   split at hgd
   ·rename_i hg; simp only [Option.some.injEq] at hgd; exact ⟨(congrArg VOper.dst hgd).symm, (congrArg VOper.op hgd).symm, .inl ⟨hg, (congrArg VOper.guard hgd).symm⟩⟩
   ·rename_i q w' hg
    simp only [Option.bind_eq_some_iff] at hgd
    obtain ⟨d, ⟨oq, h1, h2⟩, h3⟩ := hgd
    split at h3
    ·rename_i hdn
     simp only [Option.some.injEq] at h3
     exact ⟨(congrArg VOper.dst h3).symm, (congrArg VOper.op h3).symm, .inr ⟨q, w', d, hg, (congrArg VOper.guard h3).symm, by simp [h1, h2], hdn⟩⟩
    ·cases h3
  obtain ⟨hvd1, hvd2, hvd3⟩ := hvd
  have hyield : ∀ {q d : Nat} {b : Option Bool}, (ops[q]?).bind (·.dst) = some d → d < n → grd (yn N ds val (tr 0) (fun i => listed.getD i false = true) d) = some b → yielded ops a.tmps q = b := by
   intro q d b h1 h2 h3
   rw [w1a h1 (by rw [hi.tmps]; exact h2)]
   exact y2s (x1z X.gh a.tmps (by rw [hi.tmps]; exact h2) ▸ s.slot d) h3
  unfold wpOp
  rw [ho]
  simp only
  rcases hst with ⟨t, wt, b, g1, g2, g3, g4, g5⟩ | ⟨g, T', g1, g2, g3⟩
  ·rcases hvd3 with ⟨_, h⟩ | ⟨q, w', d, k1, k2, k3, k4⟩
   ·rw [h] at g1; cases g1
   ·rw [k2] at g1; cases g1
    have hy := hyield k3 k4 g2
    have hw : ¬ Region.wanted o (yielded ops a.tmps) = true := by simp [Region.wanted, k1, hy, g3]
    rw [if_neg hw]
    rw [hvd1, g4] at hput
    cases hdd : o.dst with
    | none =>
     rw [hdd] at hput
     refine next (T := ⟨yn N ds val (tr 0) (fun i => listed.getD i false = true), zt N base tr (fun i => listed.getD i false = true) m, 0⟩) (a' := a) s ?_ g5.symm (fun _ _ h => h) hi.defers hi.tmps
     funext u; simpa using (hput u).symm
    | some t' =>
     rw [hdd] at hput hdst
     have ht : t' < a.tmps.size := by rw [hi.tmps]; simpa using hdst
     refine next (O' := O) (Im' := Im) (s.put ht .und) ?_ ?_ (fun _ _ h => h) hi.defers (by simpa [Act.put] using hi.tmps)
     ·funext u
      rw [hput u]
      show (if u = t' then SV.und else _) = _
      by_cases e : u = t'
      ·subst e; simp
      ·rw [if_neg e, if_neg (fun h => e (Option.some.inj h).symm)]
     ·exact g5.symm
  ·have hw : Region.wanted o (yielded ops a.tmps) = true := by
    rcases hvd3 with ⟨h, _⟩ | ⟨q, w', d, k1, k2, k3, k4⟩
    ·simp [Region.wanted, h]
    ·rcases g with g | ⟨t, wt, g4, g5⟩
     ·rw [g] at k2; cases k2
     ·rw [k2] at g4; cases g4
      simp [Region.wanted, k1, hyield k3 k4 g5]
   rw [if_pos hw]
   refine .inl (z5n (op := vo.op) (O := O) (Im := Im) (by rw [hvd2]; exact hlop) hdst (s.nx (base + j)) (hf2 j hj hun) hi.defers hi.tmps g1 ?_)
   intro a' w' O' Im' s' hk hd' hs'
   refine next s' ?_ ?_ hk hd' hs'
   ·funext u
    rw [hput u, z1t, hvd1, g2]
   ·rw [v0g, g3]
 ·cases hlo
theorem v5m {md : Region.Mode} {fl : Option Nat} (hdone : ∀ listed : Array Bool, listed.size = M → Region.ready md ops listed = [] → ∀ i, i < M → listed.getD i false = true) (R : Reg N dir ds) (R0 : Reg0 M dir ds) (hNM : N ≤ M) (hfull : ∀ j, N ≤ j → j < M → ∀ i, i < j → i ∈ (ds j).pre ∨ (fl = some i ∧ j = N ∧ i < N)) (hs : y0p P G base N ds tr val) (h0 : ∀ u, base ≤ u → (tr 0).objs u = none) (hN : ops.size = M) (hdir : ∀ (j : Nat) (o : Oper), ops[j]? = some o → dir j = xz o)
 (hlow : ∀ (j : Nat) (o : Oper), ops[j]? = some o → yw P n ops o = some (ds j).o.strip) {Q : Exit → Act → World → Prop}
 (hfin : ∀ (fuel : Nat) (listed : Array Bool) (a : Act) (w : World), left M listed ≤ fuel → listed.size = M → (∀ i, i < N → listed.getD i false = true) → (∀ i, N ≤ i → listed.getD i false = false) → Inv G X n ⟨(tr N).slots, (tr N).objs, base + N⟩ a w → wpAny P md ops Q fuel listed a w)
 (hflo : ∀ (f fuel : Nat) (listed : Array Bool) (a : Act) (w : World), fl = some f → f < N → N < M → left M listed ≤ fuel + 1 → (∀ i, i < N → i ≠ f → listed.getD i false = true) → listed.getD f false = false → f ∉ (ds N).pre → AnyInv G X n M N base ds tr val listed a w → wpOp P ops Q N (wpAny P md ops Q fuel (listed.setIfInBounds N true)) a w) :
 ∀ (fuel : Nat) (listed : Array Bool) (a : Act) (w : World), left M listed ≤ fuel → AnyInv G X n M N base ds tr val listed a w → wpAny P md ops Q fuel listed a w := by
 have one : ∀ {fuel : Nat} {listed : Array Bool} {a : Act} {w : World}, (∀ listed a w, left M listed ≤ fuel → AnyInv G X n M N base ds tr val listed a w → wpAny P md ops Q fuel listed a w) → left M listed ≤ fuel + 1 → (¬ ∀ i, i < N → listed.getD i false = true) →
  AnyInv G X n M N base ds tr val listed a w → ∀ j ∈ Region.ready md ops listed, wpOp P ops Q j (wpAny P md ops Q fuel (listed.setIfInBounds j true)) a w := by
  intro fuel listed a w ih hleft hnall hi j hjr
  rcases Nat.lt_or_ge j N with hj | hj
  ·rw [mem_ready] at hjr
   obtain ⟨hun, o, ho, hall⟩ := hjr
   exact x4d R R0 hNM hs h0 hN hdir hlow hi hj hun ho (fun e he hb => hall e he (z2f hb)) fun a' w' hlt hi' => ih _ _ _ (by omega) hi'
  ·have hjr0 := hjr
   rw [mem_ready] at hjr
   obtain ⟨hun, o, ho, hall⟩ := hjr
   have hjM : j < M := by have := (Array.getElem?_eq_some_iff.1 ho).1; omega
   obtain ⟨m, O, Im, dn, _⟩ := hi.ex
   have hltN : ∀ q, listed.getD q false = true → q < N := fun q hq => Nat.lt_of_not_le fun h => by rw [hi.up q h] at hq; cases hq
   have hdl : ∀ k ∈ dir j, listed.getD k false = true := by
    intro k hk
    rw [hdir j o ho] at hk
    simp only [xz, List.mem_map, List.mem_filter, Array.mem_toList_iff] at hk
    obtain ⟨e, ⟨he, hb⟩, rfl⟩ := hk
    exact hall e he (z2f hb)
   have hp : ∀ k ∈ (ds j).pre, listed.getD k false = true := by
    intro k hk
    obtain ⟨h1, h2 | ⟨q, h2, h3⟩⟩ := R0.pre j hjM k hk
    ·exact hdl k h2
    ·exact dn.down q (hltN q (hdl q h2)) (hdl q h2) k h3
   obtain ⟨i0, hi0, hn0⟩ : ∃ i, i < N ∧ listed.getD i false = false := by
    apply Classical.byContradiction
    intro hc
    exact hnall fun i hi' => by
     cases hb : listed.getD i false with
     | true => rfl
     | false => exact absurd ⟨i, hi', hb⟩ hc
   rcases hfull j hj hjM i0 (by omega) with h | ⟨h1, rfl, h3⟩
   ·rw [hp i0 h] at hn0; cases hn0
   ·refine hflo i0 fuel listed a w h1 h3 hjM hleft (fun i hiN hne => ?_) hn0 (fun h => by rw [hp i0 h] at hn0; cases hn0) hi
    rcases hfull j hj hjM i (by omega) with h | ⟨h4, _, _⟩
    ·exact hp i h
    ·rw [h1] at h4; cases h4; exact absurd rfl hne
 intro fuel
 induction fuel with
 | zero =>
  intro listed a w hl hi
  have all : ∀ i, i < N → listed.getD i false = true := fun i hi' => y4x (N := M) (by omega) i (by omega)
  exact hfin 0 listed a w hl hi.size all hi.up (y3e hs all hi)
 | succ fuel ih =>
  intro listed a w hl hi
  by_cases all : ∀ i, i < N → listed.getD i false = true
  ·exact hfin (fuel + 1) listed a w hl hi.size all hi.up (y3e hs all hi)
  ·exact ⟨fun hr => absurd (fun i hi' => hdone listed hi.size hr i (by omega)) all, one ih hl all hi⟩
theorem fin_all {md : Region.Mode} (hN : ops.size = N) {Q : Ex → St → Prop} {σ : St} (hQ : Q .normal σ) : ∀ (fuel : Nat) (listed : Array Bool) (a : Act) (w : World), left N listed ≤ fuel → listed.size = N → (∀ i, i < N → listed.getD i false = true) → (∀ i, N ≤ i → listed.getD i false = false) → Inv G X n σ a w → wpAny P md ops (QRel G X n Q) fuel listed a w := by
 intro fuel listed a w _ hsz all _ hi
 have hr : Region.ready md ops listed = [] := by
  rw [List.eq_nil_iff_forall_not_mem]
  intro j hj
  rw [mem_ready] at hj
  obtain ⟨h1, o, ho, _⟩ := hj
  have hjN : j < N := by have := (Array.getElem?_eq_some_iff.1 ho).1; omega
  rw [z0l (by rw [hsz]; exact hjN), all j hjN] at h1
  cases h1
 have hq : QRel G X n Q .normal a w := ⟨.normal, σ, trivial, hQ, hi⟩
 cases fuel with
 | zero => exact ⟨hr, hq⟩
 | succ fuel => exact ⟨fun _ => hq, fun j hj => by rw [hr] at hj; cases hj⟩
theorem w3r {md : Region.Mode} (hdone : ∀ listed : Array Bool, listed.size = M → Region.ready md ops listed = [] → ∀ i, i < M → listed.getD i false = true) (R0 : Reg0 M dir ds) (hN : ops.size = M) (hdir : ∀ (j : Nat) (o : Oper), ops[j]? = some o → dir j = xz o) {Q : Exit → Act → World → Prop} :
 ∀ (d k fuel : Nat) (listed : Array Bool) (a : Act) (w : World), k + d = M → (∀ j, k < j → j < M → ∀ i, i < j → i ∈ (ds j).pre) → d ≤ fuel → listed.size = M → (∀ i, i < k → listed.getD i false = true) → (∀ i, k ≤ i → listed.getD i false = false) → wpOps P ops Q (List.range' k d) a w → wpAny P md ops Q fuel listed a w
 | 0, k, fuel, listed, a, w, hk, hfull, hf, hsz, h1, h2, h => by
  have hr : Region.ready md ops listed = [] := by
   rw [List.eq_nil_iff_forall_not_mem]
   intro j hj
   rw [mem_ready] at hj
   obtain ⟨g1, o, ho, _⟩ := hj
   have hjN : j < M := by have := (Array.getElem?_eq_some_iff.1 ho).1; omega
   rw [z0l (by rw [hsz]; exact hjN), h1 j (by omega)] at g1
   cases g1
  cases fuel with
  | zero => exact ⟨hr, h⟩
  | succ fuel => exact ⟨fun _ => h, fun j hj => by rw [hr] at hj; cases hj⟩
 | d + 1, k, 0, listed, a, w, hk, hfull, hf, hsz, h1, h2, h => by omega
 | d + 1, k, fuel + 1, listed, a, w, hk, hfull, hf, hsz, h1, h2, h => by
  refine ⟨fun hr => ?_, fun j hj => ?_⟩
  ·have := hdone listed hsz hr k (by omega)
   rw [h2 k (Nat.le_refl _)] at this; cases this
  ·rw [mem_ready] at hj
   obtain ⟨g1, o, ho, hall⟩ := hj
   have hjM : j < M := by have := (Array.getElem?_eq_some_iff.1 ho).1; omega
   rw [z0l (by rw [hsz]; exact hjM)] at g1
   have hkj : k ≤ j := Nat.le_of_not_lt fun hlt => by rw [h1 j hlt] at g1; cases g1
   have hdl : ∀ q ∈ dir j, listed.getD q false = true := by
    intro q hq
    rw [hdir j o ho] at hq
    simp only [xz, List.mem_map, List.mem_filter, Array.mem_toList_iff] at hq
    obtain ⟨e, ⟨he, hb⟩, rfl⟩ := hq
    exact hall e he (z2f hb)
   have hltk : ∀ q, listed.getD q false = true → q < k := fun q hq => Nat.lt_of_not_le fun h => by rw [h2 q h] at hq; cases hq
   have hj : j = k := by
    rcases Nat.lt_or_ge k j with hlt | hge
    ·exfalso
     have hkp := hfull j hlt hjM k hlt
     obtain ⟨_, g | ⟨q, g3, g4⟩⟩ := R0.pre j hjM k hkp
     ·have := hltk k (hdl k g); omega
     ·have hq := hltk q (hdl q g3)
      have := (R0.pre q (by omega) k g4).1
      omega
    ·omega
   subst hj
   have hset := u0x (listed := listed) (j := j) (by omega)
   rw [List.range'_succ, wpOps_cons] at h
   refine wpOp_mono (fun a' w' h' => w3r hdone R0 hN hdir d (j + 1) fuel _ a' w' (by omega) (fun j' h3 h4 => hfull j' (by omega) h4) (by omega) (by simpa using hsz) (fun i hi => ?_) (fun i hi => ?_) h') h
   ·exact (congrFun hset i).mpr (by rcases Nat.lt_or_ge i j with q | q; exact .inl (h1 i q); exact .inr (by omega))
   ·cases hb : (listed.setIfInBounds j true).getD i false with
    | false => rfl
    | true =>
     have := (congrFun hset i).mp hb
     rcases this with q | q
     ·rw [h2 i (by omega)] at q; cases q
     ·omega

theorem low_mv {o : Oper} {x : Od} (hl : lowOp P o = some (.mv x)) : ∃ y, (o.op = .move y ∨ o.op = .assign y) ∧ lowOd P o.type y = some x := by
 unfold lowOp at hl
 (repeat' split at hl) <;> first
   | (cases hl; done)
   | (simp only [Option.map_eq_some_iff, Option.bind_eq_some_iff, reduceCtorEq, and_false, exists_false] at hl; done)
   | (simp only [Option.map_eq_some_iff, VOp.mv.injEq] at hl; obtain ⟨_, h1, rfl⟩ := hl; exact ⟨_, .inl (by assumption), h1⟩)
   | (simp only [Option.map_eq_some_iff, VOp.mv.injEq] at hl; obtain ⟨_, h1, rfl⟩ := hl; exact ⟨_, .inr (by assumption), h1⟩)
   | (unfold z0k at hl; split at hl <;> simp only [Option.map_eq_some_iff, Option.bind_eq_some_iff, reduceCtorEq, and_false, exists_false] at hl; done)
   | (unfold lowBi at hl; (repeat' split at hl) <;> first | (cases hl; done) | (simp only [Option.map_eq_some_iff, Option.bind_eq_some_iff, reduceCtorEq, and_false, exists_false] at hl; done))
theorem low_ld {o : Oper} {agg : Bool} {m : Nat} {x : Od} (hl : lowOp P o = some (.ld agg m x)) : ∃ t y, o.op = .load t y ∧ xn P t = agg ∧ P.cellsOf t = m ∧ (agg = true ∨ m = 1) ∧ lowOd P 0 y = some x ∧ ∃ d, P.underlying t = some d := by
 unfold lowOp at hl
 (repeat' split at hl) <;> first
   | (cases hl; done)
   | (simp only [Option.map_eq_some_iff, Option.bind_eq_some_iff, reduceCtorEq, and_false, exists_false] at hl; done)
   | (rename_i hc
      simp only [Option.map_eq_some_iff, VOp.ld.injEq] at hl
      obtain ⟨_, h1, rfl, rfl, rfl⟩ := hl
      simp only [Bool.and_eq_true, Bool.or_eq_true, beq_iff_eq, Option.isSome_iff_exists] at hc
      exact ⟨_, _, by assumption, rfl, rfl, hc.1, h1, hc.2⟩)
   | (unfold z0k at hl; split at hl <;> simp only [Option.map_eq_some_iff, Option.bind_eq_some_iff, reduceCtorEq, and_false, exists_false] at hl; done)
   | (unfold lowBi at hl; (repeat' split at hl) <;> first | (cases hl; done) | (simp only [Option.map_eq_some_iff, Option.bind_eq_some_iff, reduceCtorEq, and_false, exists_false] at hl; done))
theorem y5h {ty : TypeId} {x : Operand} {k : Nat} (h : lowOd P ty x = some (.t k)) : x = .tmp k := by
 cases x with
 | tmp t =>
  simp only [lowOd] at h
  split at h
  ·cases h; rfl
  ·cases h
 | const v => simp [lowOd] at h
 | global g => simp [lowOd] at h
 | func f => simp [lowOd] at h
theorem y2l : ∀ {xs : List Operand} {ts : List TypeId} {ods : List Od} {d : Nat}, v0e P xs ts = some ods → Operand.tmp d ∈ xs → Od.t d ∈ ods
 | [], _, _, _, _, h => by cases h
 | x :: xs, ts, ods, d, e, h => by
  simp only [v0e, Option.bind_eq_some_iff, Option.map_eq_some_iff] at e
  obtain ⟨o, h1, os, h2, rfl⟩ := e
  rcases List.mem_cons.1 h with rfl | h
  ·simp only [lowOd] at h1
   split at h1
   ·cases h1; simp
   ·cases h1
  ·exact List.mem_cons_of_mem _ (y2l h2 h)
theorem u4v {o : Oper} {op : VOp} {k : Nat} (hop : op = .mv (.t k) ∨ op = .ld false 1 (.t k)) (hl : lowOp P o = some op) :
 o.op.operands.toList = [.tmp k] ∧ (∀ cs b, o.op ≠ .select cs b) ∧ ∀ {σ σ' : St} {sv : SV} {a : Act} {w : World} {O : Nat → LS} {Im : Nat → Prop}, SimW G X σ a.tmps w O Im → stepF G op σ = some (σ', sv) →
  ∃ v, (execOp a.eval o).run P w = .ok (.value v) w ∧ RelV w.heap Im O sv v ∧ σ' = σ := by
 rcases hop with rfl | rfl
 ·obtain ⟨y, hy, hx⟩ := low_mv hl
  obtain rfl := y5h hx
  refine ⟨by rcases hy with h | h <;> simp [h, Op.operands], (fun cs b h => by rcases hy with h' | h' <;> (rw [h'] at h; cases h)), fun {σ σ' sv a w O Im} s e => ?_⟩
  simp only [stepF, Option.some.injEq, Prod.mk.injEq] at e
  obtain ⟨rfl, rfl⟩ := e
  refine ⟨a.eval (.tmp k), ?_, ud s hx, rfl⟩
  rcases hy with h | h <;> simp [execOp, h]
 ·obtain ⟨t, y, hy, hagg, hn, _, hx, d, hd⟩ := low_ld hl
  obtain rfl := y5h hx
  refine ⟨by simp [hy, Op.operands], (fun cs b h => by rw [hy] at h; cases h), fun {σ σ' sv a w O Im} s e => ?_⟩
  simp only [stepF, Option.bind_eq_some_iff, Option.map_eq_some_iff, Prod.mk.injEq] at e
  obtain ⟨p, e1, cs, e2, u, e3, rfl, rfl⟩ := e
  obtain ⟨b, of, vs, hv, hra, hr, hl'⟩ := x4i s (y0l (ud s hx) e1) e2
  obtain ⟨h1, h2⟩ := y2r hr e3
  have h3 := h2 rfl
  obtain ⟨v, rfl⟩ : ∃ v, vs = [v] := by
   cases vs with
   | nil => simp at h3
   | cons v r => cases r with
    | nil => exact ⟨v, rfl⟩
    | cons _ _ => simp at h3
  refine ⟨v, ?_, by simpa using h1, rfl⟩
  have hc := hra 0 v (by simp)
  have hagg' : (isAgg t).run P w = .ok false w := by
   unfold isAgg
   rw [Sem.run_bind, run_underlying hd w]
   unfold xn at hagg
   rw [hd] at hagg
   cases d <;> simp_all
  simp only [Nat.add_zero] at hc
  simp [execOp, hy, hv, Instr.loadAt, Instr.sureAddr, loadVar, hagg', hc]
theorem w2l {o x : VOper} (h : z2d o x = true) : o.guard = none ∧ x.guard = none ∧ (∃ f args, x.op = .call f args) ∧ ∃ k d, (o.op = .mv (.t k) ∨ o.op = .ld false 1 (.t k)) ∧ o.dst = some d ∧ k ≠ d ∧ d ∉ opSl x.op ∧ x.dst ≠ some d ∧ x.dst ≠ some k := by
 unfold z2d at h
 simp only [Bool.and_eq_true, Option.isNone_iff_eq_none] at h
 obtain ⟨⟨⟨h1, h2⟩, h3⟩, h4⟩ := h
 refine ⟨h1, h2, ?_, ?_⟩
 ·split at h3
  ·rename_i f args hx; exact ⟨f, args, hx⟩
  ·cases h3
 ·split at h4
  ·rename_i k d ho hd
   simp only [Bool.and_eq_true, bne_iff_ne, ne_eq, Bool.not_eq_true', List.contains_eq_mem, decide_eq_false_iff_not] at h4
   exact ⟨k, d, .inl ho, hd, h4.1.1.1, h4.1.1.2, h4.1.2, h4.2⟩
  ·rename_i k d ho hd
   simp only [Bool.and_eq_true, bne_iff_ne, ne_eq, Bool.not_eq_true', List.contains_eq_mem, decide_eq_false_iff_not] at h4
   exact ⟨k, d, .inr ho, hd, h4.1.1.1, h4.1.1.2, h4.1.2, h4.2⟩
  ·cases h4
theorem v1h {o : Oper} {v : VOper} (h : yw P n ops o = some v) (hg : v.guard = none) (hb : v.op ≠ .bad) : o.guard = none ∧ o.dst = v.dst ∧ o.dst.all (· < n) = true ∧ lowOp P o = some v.op := by
 unfold yw at h
 split at h
 ·rename_i hd
  simp only [Option.bind_eq_some_iff] at h
  obtain ⟨op, h1, h2⟩ := h
  split at h2
  ·rename_i hg'
   simp only [Option.some.injEq] at h2
   subst h2
   exact ⟨hg', rfl, hd, (v1d h1).resolve_right hb⟩
  ·simp only [Option.bind_eq_some_iff] at h2
   obtain ⟨d, _, h3⟩ := h2
   split at h3
   ·simp only [Option.some.injEq] at h3; subst h3; cases hg
   ·cases h3
 ·cases h
theorem z1s {i : Nat} {o : Oper} {a : Act} {w : World} {K : Act → World → Prop} {Q : Exit → Act → World → Prop} (ho : ops[i]? = some o) (hg : o.guard = none) : wpOp P ops Q i K a w = (o.wp P a w K Q ∨ (o.asks P a w ∧ LetsOut Q)) := by
 unfold wpOp; rw [ho]; simp [Region.wanted, hg]
theorem y4y {md : Region.Mode} (hdone : ∀ listed : Array Bool, listed.size = M → Region.ready md ops listed = [] → ∀ i, i < M → listed.getD i false = true) (R : Reg N dir ds) (R0 : Reg0 M dir ds) (hNM : N < M) (hs : y0p P G base N ds tr val) (h0 : ∀ u, base ≤ u → (tr 0).objs u = none) (hN : ops.size = M) (hdir : ∀ (j : Nat) (o : Oper), ops[j]? = some o → dir j = xz o)
 (hlow : ∀ (j : Nat) (o : Oper), ops[j]? = some o → yw P n ops o = some (ds j).o.strip) {f : Nat} (hfN : f < N) (hok : z2d (ds f).o (ds N).o = true) (hfull : ∀ j, N < j → j < M → ∀ i, i < j → i ∈ (ds j).pre) {Q : Ex → St → Prop}
 (hnext : ∀ (a : Act) (w : World) (oN : Oper), Inv G X n ⟨(tr N).slots, (tr N).objs, base + N⟩ a w → ops[N]? = some oN → oN.wp P a w (fun a' w' => ∃ σ', Inv G X n σ' a' w' ∧ chkF G (ds f).o σ' ∧ ∀ a w, Inv G X n σ' a w → wpOps P ops (QRel G X n Q) (List.range' (N + 1) (M - (N + 1))) a w) (QRel G X n Q))
 (fuel : Nat) (listed : Array Bool) (a : Act) (w : World) (hleft : left M listed ≤ fuel + 1) (hd1 : ∀ i, i < N → i ≠ f → listed.getD i false = true) (hd2 : listed.getD f false = false) (hfn : f ∉ (ds N).pre) (hi : AnyInv G X n M N base ds tr val listed a w) :
 wpOp P ops (QRel G X n Q) N (wpAny P md ops (QRel G X n Q) fuel (listed.setIfInBounds N true)) a w := by
 have hletsF : ¬ LetsOut (QRel G X n Q) := by
  rintro ⟨a, w, x, σ, hx, _⟩
  cases x <;> exact hx
 obtain ⟨hg1, hg2, ⟨fc, args, hxop⟩, k, d, hop, hdst, hkd, hdx, hxd, hxk⟩ := w2l hok
 obtain ⟨of, hof⟩ : ∃ o, ops[f]? = some o := ⟨ops[f]'(by omega), Array.getElem?_eq_getElem (by omega)⟩
 obtain ⟨oN, hoN⟩ : ∃ o, ops[N]? = some o := ⟨ops[N]'(by omega), Array.getElem?_eq_getElem (by omega)⟩
 have hstr : (ds f).o.op.strip = (ds f).o.op := by rcases hop with h | h <;> rw [h] <;> rfl
 obtain ⟨kf1, kf2, kf3, kf4⟩ := v1h (hlow f of hof) (by simpa [VOper.strip] using hg1) (by simp only [VOper.strip, hstr]; rcases hop with h | h <;> rw [h] <;> exact fun h => by cases h)
 simp only [VOper.strip, hstr] at kf2 kf4
 rw [hdst] at kf2
 obtain ⟨kn1, kn2, kn3, kn4⟩ := v1h (hlow N oN hoN) (by simpa [VOper.strip] using hg2) (by simp only [VOper.strip, hxop, VOp.strip]; exact fun h => by cases h)
 simp only [VOper.strip, hxop, VOp.strip] at kn2 kn4
 obtain ⟨c, hcop, hcal, hargs⟩ := x3a kn4
 obtain ⟨q1, q2, q3⟩ := u4v (G := G) (X := X) (k := k) hop kf4
 have hdn : d < n := by rw [kf2] at kf3; simpa using kf3
 -- what the place reads now
 have hfl : listed.getD f true = false := by rw [z0l (by rw [hi.size]; omega)]; exact hd2
 have hallf : ∀ e ∈ of.after, Region.binds .any e = true → listed.getD e.on false = true := by
  intro e he hb
  have hk : e.on ∈ dir f := by
   rw [hdir f of hof]
   simp only [xz, List.mem_map, List.mem_filter, Array.mem_toList_iff]
   exact ⟨e, ⟨he, hb⟩, rfl⟩
  have := R.dirlt f hfN e.on hk
  exact hd1 _ (by omega) (by omega)
 obtain ⟨m, O, Im, dn, s, _⟩ := hi.ex
 have hp : ∀ i ∈ (ds f).pre, listed.getD i false = true := by
  intro i hi'
  have := (R0.pre f (by omega) i hi').1
  exact hd1 i (by omega) (by omega)
 obtain ⟨m', dn', hst⟩ := v3x R hs h0 dn hfN (by simp [hd2]) hp
 obtain ⟨v, hrun⟩ : ∃ v, (execOp a.eval of).run P w = .ok (.value v) w := by
  rcases hst with ⟨t, wt, b, g1, _⟩ | ⟨g, T', g1, g2, g3⟩
  ·rw [hg1] at g1; cases g1
  ·have e : stepF G (ds f).o.op ⟨yn N ds val (tr 0) (fun i => listed.getD i false = true), zt N base tr (fun i => listed.getD i false = true) m, base + f⟩ = some (T', val f) := by
    rcases hop with h | h <;> rw [h] at g1 ⊢ <;> exact g1
   obtain ⟨v, hr, _⟩ := q3 (s.nx (base + f)) e
   exact ⟨v, hr⟩
 have hN1 : AnyInv G X n M N base ds tr val (listed.setIfInBounds f true) (a.put (some d) v) w := by
  have := x4d (Q := fun _ _ _ => False) R R0 (by omega) hs h0 hN hdir hlow hi hfN hfl hof hallf (K := fun a' w' => AnyInv G X n M N base ds tr val (listed.setIfInBounds f true) a' w') (fun _ _ _ h => h)
  rw [z1s hof kf1] at this
  rcases this with h | ⟨_, _, _, h⟩
  ·unfold Oper.wp at h
   rw [hrun, Oper.upon_value, kf2] at h
   exact h
  ·exact h.elim
 have hset := u0x (listed := listed) (j := f) (by rw [hi.size]; omega)
 have hinv := y3e hs (fun i hiN => (congrFun hset i).mpr (by
  by_cases h : i = f
  ·exact .inr h
  ·exact .inl (hd1 i hiN h))) hN1
 have hH := hnext _ _ oN hinv hoN
 let dm : Oper := { of with dst := some d, op := .move (.const v), after := #[], guard := none }
 have hloN : oN.looksAt ops = (c.operands.toList.filterMap fun | .tmp t => some t | _ => none) := by
  simp only [Oper.looksAt, kn1, hcop, Op.operands, List.append_nil]
  rfl
 have hdN : d ∉ oN.looksAt ops := by
  rw [hloN]
  intro h
  obtain ⟨x, hx, hx2⟩ := List.mem_filterMap.1 h
  cases x with
  | tmp t =>
   simp only [Option.some.injEq] at hx2
   subst hx2
   simp only [Call.operands, hcal] at hx
   have hx' : Operand.tmp t ∈ c.args.toList := by simpa using hx
   exact hdx (by rw [hxop]; simp only [opSl, List.mem_flatMap]; exact ⟨_, y2l hargs hx', by simp [odSl]⟩)
  | _ => cases hx2
 have hap : dm.apart ops oN = true := by
  have h1 : dm.looksAt ops = [] := by simp [dm, Oper.looksAt, Op.operands]
  simp only [Oper.apart, h1, dm]
  have h2 : oN.dst ≠ some d := by rw [kn2]; exact hxd
  cases hh : oN.dst with
  | none => simp [hdN, hh]
  | some e => rw [hh] at h2; simp [hdN, hh]; exact fun h => h2 (by rw [h])
 have hy : Yields P ops dm v a := .inl ⟨by simp [dm, Region.wanted], fun w => by simp [dm, execOp, Act.eval]⟩
 have hput := wpOp_put (P := P) (ops := ops) (oi := dm) (v := v) (j := N) (Q := QRel G X n Q) hoN hap (fun cs b h => by cases h) (fun cs b h => by rw [hcop] at h; cases h)
  (fun ch a w h => by obtain ⟨x, σ, hx, _⟩ := h; cases x <;> exact hx.elim) hy (by rw [z1s hoN kn1]; exact .inl hH)
 refine wpOp_mono (fun a' w' h => ?_) hput
 obtain ⟨_, σ', hinv', hchk, hrest⟩ := h
 replace hinv' : Inv G X n σ' (a'.put (some d) v) w' := hinv'
 -- what the place reads behind the call
 have hsame : (execOp a'.eval of).run P w' = .ok (.value v) w' := by
  have hlf : d ∉ of.looksAt ops := by
   rw [Oper.looksAt, kf1, q1]; intro h; simp at h; first | exact hkd h.symm | exact hkd h
  rw [← execOp_put of q2 a' (some d) v (fun d' hd' => by cases hd'; exact hlf)]
  obtain ⟨O', Im', s', _, _, hs'⟩ := hinv'
  unfold chkF at hchk
  split at hchk
  ·rename_i u i j hst
   simp only [Option.map_eq_some_iff] at hst
   obtain ⟨⟨σ2, sv⟩, hst, hsv⟩ := hst
   simp only at hsv; subst hsv
   obtain ⟨v2, hr2, hrel2, _⟩ := q3 s' hst
   rw [hdst] at hchk
   simp only [Option.getD_some] at hchk
   have hsl := s'.slot d
   rw [show σ'.slots d = _ from hchk.1, x1z X.gh _ (by rw [hs']; exact hdn)] at hsl
   have hval : (a'.put (some d) v).tmps.getD d undef = v := by
    have hs2 : a'.tmps.size = n := by simpa [Act.put] using hs'
    simp [Act.put, Array.getD_eq_getD_getElem?, Array.getElem?_setIfInBounds, hs2, hdn]
   rw [hval] at hsl
   obtain ⟨o2, ho2⟩ := Option.isSome_iff_exists.1 hchk.2
   obtain ⟨l, hl, _⟩ := s'.obj u o2 ho2
   have e1 := hsl.one_inv
   have e2 := hrel2.one_inv
   cases e1 with
   | p _ _ r1 => cases e2 with
    | p _ _ r2 =>
     cases r1 with
     | qd _ _ _ _ h => rw [h] at hl; cases hl
     | q _ _ _ b1 c1 z1 h1 => cases r2 with
      | qd _ _ _ _ h => rw [h] at hl; cases hl
      | q _ _ _ b2 c2 z2 h2 => rw [h1] at h2; cases h2; exact hr2
  ·exact hchk.elim
 have hszN : (listed.setIfInBounds N true).size = M := by simp [hi.size]
 have hsetN := u0x (listed := listed) (j := N) (by rw [hi.size]; exact hNM)
 have hNd : ∀ i, i ≤ N → i ≠ f → (listed.setIfInBounds N true).getD i false = true := fun i h1 h2 => (congrFun hsetN i).mpr (by
  rcases Nat.lt_or_ge i N with h | h
  ·exact .inl (hd1 i h h2)
  ·exact .inr (by omega))
 have hNu : ∀ i, N < i → (listed.setIfInBounds N true).getD i false = false := fun i h => by
  cases hb : (listed.setIfInBounds N true).getD i false with
  | false => rfl
  | true =>
   rcases (congrFun hsetN i).mp hb with h' | h'
   ·rw [hi.up i (by omega)] at h'; cases h'
   ·omega
 have hNf : (listed.setIfInBounds N true).getD f false = false := by
  cases hb : (listed.setIfInBounds N true).getD f false with
  | false => rfl
  | true =>
   rcases (congrFun hsetN f).mp hb with h' | h'
   ·rw [hd2] at h'; cases h'
   ·omega
 have hleft2 : left M (listed.setIfInBounds N true) < left M listed := z3b hi.size hNM (hi.up N (Nat.le_refl _))
 have hpos : left M ((listed.setIfInBounds N true).setIfInBounds f true) < left M (listed.setIfInBounds N true) := z3b hszN (by omega) hNf
 cases fuel with
 | zero => omega
 | succ fuel =>
  refine ⟨fun hr => ?_, fun j hj => ?_⟩
  ·have := hdone _ hszN hr f (by omega)
   rw [hNf] at this; cases this
  ·rw [mem_ready] at hj
   obtain ⟨g1, o, ho, hall⟩ := hj
   have hjM : j < M := by have := (Array.getElem?_eq_some_iff.1 ho).1; omega
   rw [z0l (by rw [hszN]; exact hjM)] at g1
   have hdl : ∀ q ∈ dir j, (listed.setIfInBounds N true).getD q false = true := by
    intro q hq
    rw [hdir j o ho] at hq
    simp only [xz, List.mem_map, List.mem_filter, Array.mem_toList_iff] at hq
    obtain ⟨e, ⟨he, hb⟩, rfl⟩ := hq
    exact hall e he (z2f hb)
   have hjf : j = f := by
    rcases Nat.lt_or_ge N j with h | h
    ·exfalso
     -- j waits for f
     have hle : ∀ q, (listed.setIfInBounds N true).getD q false = true → q ≤ N := fun q hq => Nat.le_of_not_lt fun h => by rw [hNu q h] at hq; cases hq
     have hfp := hfull j h hjM f (by omega)
     obtain ⟨_, h2 | ⟨q, h2, h3⟩⟩ := R0.pre j hjM f hfp
     ·rw [hdl f h2] at hNf; cases hNf
     ·-- f before q, q before j
      have hq := hle q (hdl q h2)
      have hNp := hfull j h hjM N h
      obtain ⟨_, h4 | ⟨q', h4, h5⟩⟩ := R0.pre j hjM N hNp
      ·rcases Nat.lt_or_ge q N with hqN | hqN
       ·have hnf : q ≠ f := fun e => by subst e; have := (R0.pre q (by omega) q h3).1; omega
        have := dn.down q hqN (by simpa using hd1 q hqN hnf) f h3
        rw [hd2] at this; cases this
       ·obtain rfl : q = N := by omega
        exact absurd h3 hfn
      ·have := (R0.pre q' (by have := R0.dirlt j hjM q' h4; omega) N h5).1
       have := hle q' (hdl q' h4); omega
    ·by_cases e : j = f
     ·exact e
     ·rw [hNd j h e] at g1; cases g1
   subst hjf
   rw [hof] at ho; cases ho
   rw [z1s hof kf1]
   refine .inl ?_
   unfold Oper.wp
   rw [hsame, Oper.upon_value, kf2]
   have hset2 := u0x (listed := listed.setIfInBounds N true) (j := j) (by rw [hszN]; omega)
   have hA : ∀ i, i < N + 1 → ((listed.setIfInBounds N true).setIfInBounds j true).getD i false = true := fun i h => (congrFun hset2 i).mpr (by
    by_cases e : i = j
    ·exact .inr e
    ·exact .inl (hNd i (by omega) e))
   have hB : ∀ i, N + 1 ≤ i → ((listed.setIfInBounds N true).setIfInBounds j true).getD i false = false := fun i h => by
    cases hb : ((listed.setIfInBounds N true).setIfInBounds j true).getD i false with
    | false => rfl
    | true =>
     rcases (congrFun hset2 i).mp hb with h' | h'
     ·rw [hNu i (by omega)] at h'; cases h'
     ·omega
   refine w3r hdone R0 hN hdir (M - (N + 1)) (N + 1) fuel _ _ _ (by omega) (fun j' h1 h2 => hfull j' (by omega) h2) (by rw [← y4a (by omega) hA hB]; omega) (by simpa using hszN) hA hB (hrest _ _ hinv')
theorem y2w {Q : Exit → Act → World → Prop} {id : Nat} {a : Act} {w : World} (hm : (P.follows .mixedOrders || !Region.departs ops) = true)
 (h : wpAny P .any ops Q ops.size (Array.replicate ops.size false) a { w with drawn := w.drawn + 1 }) : (Code.region id ops true).wp P Q a w :=
 wp_region_draw fun t => by
  simp only [Region.schedule, hm, if_true]
  exact wpAny_sound ops.size t _ a _ h
theorem y3f {Q : Exit → Act → World → Prop} {id : Nat} {a : Act} {w : World}
 (h : ∀ md, wpAny P md ops Q ops.size (Array.replicate ops.size false) a { w with drawn := w.drawn + 1 }) : (Code.region id ops true).wp P Q a w :=
 wp_region_draw fun t => by
  simp only [Region.schedule]
  split
  ·exact wpAny_sound ops.size t _ a _ (h .any)
  ·split
   ·exact wpAny_sound ops.size _ _ a _ (h .text)
   ·exact wpAny_sound ops.size _ _ a _ (h .gc)
theorem v4l {ops : Array Oper} : ∀ (ord pre : List Nat), w3l ops pre ord = true → (∀ i ∈ ord, i < ops.size) ∧ ∀ (p post : List Nat) (j : Nat) (o : Oper), ord = p ++ j :: post → ops[j]? = some o → ∀ e ∈ o.after, Region.binds .gc e = true → e.on ∈ pre ++ p
 | [], pre, _ => ⟨fun i hi => (by cases hi), fun p post j o h => (by simp at h)⟩
 | k :: ord, pre, h => by
  simp only [w3l, Bool.and_eq_true] at h
  obtain ⟨h1, h2⟩ := h
  obtain ⟨g1, g2⟩ := v4l ord (pre ++ [k]) h2
  cases hk : ops[k]? with
  | none => rw [hk] at h1; cases h1
  | some o0 =>
   rw [hk] at h1
   simp only [Array.all_eq_true_iff_forall_mem, Bool.or_eq_true, Bool.not_eq_true', List.contains_iff_mem] at h1
   refine ⟨fun i hi => ?_, fun p post j o hord ho e he hb => ?_⟩
   ·rcases List.mem_cons.1 hi with rfl | hi
    ·exact (Array.getElem?_eq_some_iff.1 hk).1
    ·exact g1 i hi
   ·cases p with
    | nil =>
     simp only [List.nil_append, List.cons.injEq] at hord
     obtain ⟨rfl, rfl⟩ := hord
     rw [hk] at ho; cases ho
     rcases h1 e he with h | h
     ·rw [hb] at h; cases h
     ·simpa using h
    | cons q p =>
     simp only [List.cons_append, List.cons.injEq] at hord
     obtain ⟨rfl, hord⟩ := hord
     have := g2 p post j o hord ho e he hb
     simpa using this
theorem v1i {loose : Bool} {dl : List DOper} {id N : Nat} (hl : w0w loose P n ops = some (dl.map DOper.strip)) (hokd : okD dl = true) (fl : Option Nat) (hNl : N ≤ dl.length) (hfu : ∀ j, N ≤ j → j < dl.length → ∀ i, i < j → hasB (dl.getD j default).msk i = true ∨ (fl = some i ∧ j = N ∧ i < N)) (hfo : ∀ f, fl = some f → z2d (dl.getD f default).o (dl.getD N default).o = true) {Q Q' : Ex → St → Prop} {σ : St} {a : Act} {w : World} (h : wDraw P G σ.next 0 (dl.take N) Q' σ) (hi : Inv G X n σ a w)
 (hnext : ∀ f, fl = some f → ∀ σ' a w oN, Q' .normal σ' → Inv G X n σ' a w → ops[N]? = some oN → oN.wp P a w (fun a' w' => ∃ σ'', Inv G X n σ'' a' w' ∧ chkF G (dl.getD f default).o σ'' ∧ ∀ a w, Inv G X n σ'' a w → wpOps P ops (QRel G X n Q) (List.range' (N + 1) (dl.length - (N + 1))) a w) (QRel G X n Q))
 (hrest : ∀ σ' a w, Q' .normal σ' → Inv G X n σ' a w → wpOps P ops (QRel G X n Q) (List.range' N (dl.length - N)) a w) : (Code.region id ops true).wp P (QRel G X n Q) a w := by
 unfold w0w at hl
 split at hl
 ·rename_i hm0
  simp only [Option.bind_eq_some_iff] at hl
  obtain ⟨vs, hvs, hl⟩ := hl
  split at hl
  ·rename_i hok
   simp only [Option.some.injEq] at hl
   generalize hpres : v3d ops.toList [] = pres at *
   obtain ⟨O, Im, s, hf, hd, hs⟩ := hi
   have hvl : ∀ {l : List Oper} {vs : List VOper}, l.mapM (yw P n ops) = some vs → vs.length = l.length ∧ ∀ (j : Nat) (o : Oper), l[j]? = some o → ∃ v, vs[j]? = some v ∧ yw P n ops o = some v := by
    intro l
    induction l with
    | nil => intro vs h; simp only [List.mapM_nil, Option.pure_def, Option.some.injEq] at h; subst h; exact ⟨rfl, fun j o h => by simp at h⟩
    | cons x l ih =>
     intro vs h
     simp only [List.mapM_cons, Option.bind_eq_bind, Option.bind_eq_some_iff, Option.pure_def, Option.some.injEq] at h
     obtain ⟨y, h1, ys, h2, rfl⟩ := h
     obtain ⟨g1, g2⟩ := ih h2
     refine ⟨by simp [g1], fun j o ho => ?_⟩
     cases j with
     | zero => simp at ho; subst ho; exact ⟨y, by simp, h1⟩
     | succ j => simpa using g2 j o (by simpa using ho)
   obtain ⟨hlen, hat⟩ := hvl hvs
   simp only [Array.length_toList] at hlen
   have hds : ∀ j, j < ops.size → (vs.mapIdx (mkD vs pres)).getD j default = mkD vs pres j (vs.getD j default) := by
    intro j hj
    have : j < vs.length := by omega
    simp [List.getD_eq_getElem?_getD, List.getElem?_mapIdx, this]
   have hokj : ∀ j, j < ops.size → _ := fun j hj => List.all_eq_true.1 hok j (List.mem_range.2 (by simpa using hj))
   simp only [Bool.and_eq_true, List.all_eq_true, decide_eq_true_eq, Bool.or_eq_true, List.any_eq_true, List.contains_iff_mem, Bool.not_eq_true', List.mem_range] at hokj
   have hdl : dl.length = ops.size := by have := congrArg List.length hl; simp at this; omega
   have hstr : ∀ j, j < ops.size → (dl.getD j default).strip = mkD vs pres j (vs.getD j default) := by
    intro j hj
    rw [← hds j hj, hl]
    have : j < dl.length := by omega
    simp [List.getD_eq_getElem?_getD, this]
   have R0 : Reg0 ops.size (fun j => xz (ops.toList.getD j default)) (fun j => (vs.mapIdx (mkD vs pres)).getD j default) := by
    refine ⟨?_, ?_, ?_, ?_⟩
    ·intro j hj k hk
     rw [hds j hj] at hk
     have hk1 : hasB (pres.getD j 0) k = true := (x0z _ _).2 hk
     have hk2 : k < 160 := by simp [hasB] at hk1; exact hk1.2
     obtain ⟨g1, g2⟩ := ((hokj j hj).1.1.2 k hk2).resolve_left (by rw [hk1]; decide)
     refine ⟨g1, g2.imp (fun h => h) ?_⟩
     rintro ⟨q, h1, h2⟩
     refine ⟨q, h1, ?_⟩
     have := (hokj j hj).1.1.1 q h1
     rw [hds q (by omega)]
     exact (x0z _ _).1 h2
    ·intro j hj k hk
     exact (hokj j hj).1.1.1 k hk
    ·intro j hj i hij hc
     rw [hds j hj]
     rw [hds j hj, hds i (by omega)] at hc
     rcases (hokj j hj).2 i hij with h | h
     ·simp only [mkD] at hc
      rw [hc] at h; simp at h
     ·exact (x0z _ _).1 h
    ·intro j hj i
     rw [hds j hj]
     simp only [mkD, List.mem_filter, List.mem_range, Bool.and_eq_true, Bool.not_eq_true']
     have hbb : (hasB (pres.getD j 0) i = false) ↔ ¬ i ∈ z3u (pres.getD j 0) := by rw [← x0z]; simp
     constructor
     ·rintro ⟨h1, h2, h3⟩
      refine ⟨h1, ?_, hbb.1 h3⟩
      rw [hds i (by omega)]; exact h2
     ·rintro ⟨h1, h2, h3⟩
      rw [hds i (by omega)] at h2
      exact ⟨h1, h2, hbb.2 h3⟩
   have R1 : Reg0 ops.size (fun j => xz (ops.toList.getD j default)) (fun j => dl.getD j default) := R0.unstrip fun j hj => by rw [hstr j hj, hds j hj]
   have R : Reg ops.size (fun j => xz (ops.toList.getD j default)) (fun j => dl.getD j default) := by
    rw [← hdl] at R1 ⊢
    exact Reg.of R1 hokd
   have hNs : N ≤ ops.size := by omega
   have hfull : ∀ j, N ≤ j → j < ops.size → ∀ i, i < j → i ∈ ((fun j => dl.getD j default) j).pre ∨ (fl = some i ∧ j = N ∧ i < N) := fun j h1 h2 i h3 => by
    rcases hfu j h1 (by omega) i h3 with h | h
    ·exact .inl ((x0z _ _).1 h)
    ·exact .inr h
   have hfull2 : ∀ j, N < j → j < ops.size → ∀ i, i < j → i ∈ ((fun j => dl.getD j default) j).pre := fun j h1 h2 i h3 => (hfull j (by omega) h2 i h3).resolve_right fun h => by omega
   have RN : Reg N (fun j => xz (ops.toList.getD j default)) (fun j => dl.getD j default) :=
    { pre := fun j hj => R.pre j (by omega), dirlt := fun j hj => R.dirlt j (by omega), conf := fun j hj => R.conf j (by omega), hid := fun j hj => R.hid j (by omega), mem := fun j hj => R.mem j (by omega), prv := fun j hj => R.prv j (by omega), gen := fun j hj => R.gen j (by omega) }
   obtain ⟨tr, val, t1, t2, t3⟩ := v3w _ _ _ h
   have hlt : (dl.take N).length = N := by rw [List.length_take]; omega
   simp only [Nat.zero_add, hlt] at t2 t3
   have hst : y0p P G σ.next N (fun j => dl.getD j default) tr val := by
    intro j hj
    refine t2 j _ ?_
    have : j < dl.length := by omega
    simp [List.getD_eq_getElem?_getD, this, hj]
   have h0 : ∀ u, σ.next ≤ u → (tr 0).objs u = none := by
    intro u hu
    rw [t1]
    cases ho : σ.objs u with
    | none => rfl
    | some o =>
     obtain ⟨l, hl', _⟩ := s.obj u o ho
     rw [hf u hu] at hl'; cases hl'
   have back : ∀ (j : Nat) (o : Oper), ops[j]? = some o → ∀ e ∈ o.after, Region.binds .any e = true → e.on < j := by
    intro j o ho e he hb
    have hj := (Array.getElem?_eq_some_iff.1 ho).1
    have hto : ops.toList.getD j default = o := by simp [List.getD_eq_getElem?_getD, ho]
    have := R.dirlt j hj e.on (by
     simp only [hto, xz, List.mem_map, List.mem_filter, Array.mem_toList_iff]
     exact ⟨e, ⟨he, hb⟩, rfl⟩)
    exact this
   have main : ∀ md, (∀ listed : Array Bool, listed.size = ops.size → Region.ready md ops listed = [] → ∀ i, i < ops.size → listed.getD i false = true) → wpAny P md ops (QRel G X n Q) ops.size (Array.replicate ops.size false) a { w with drawn := w.drawn + 1 } := by
    intro md hdone
    have hdir0 : ∀ (j : Nat) (o : Oper), ops[j]? = some o → xz (ops.toList.getD j default) = xz o := by
     intro j o ho
     have hj := (Array.getElem?_eq_some_iff.1 ho).1
     have : ops.toList.getD j default = o := by
      simp [List.getD_eq_getElem?_getD, ho]
     simp only [this]
    have hlow0 : ∀ (j : Nat) (o : Oper), ops[j]? = some o → yw P n ops o = some ((fun j => dl.getD j default) j).o.strip := by
     intro j o ho
     have hj := (Array.getElem?_eq_some_iff.1 ho).1
     obtain ⟨v, hv, hlo⟩ := hat j o (by simpa using ho)
     have e : (dl.getD j default).o.strip = (dl.getD j default).strip.o := rfl
     show _ = some (dl.getD j default).o.strip
     rw [hlo, e, hstr j hj]
     simp [mkD, List.getD_eq_getElem?_getD, hv]
    refine v5m (X := X) (base := σ.next) (tr := tr) (val := val) (N := N) (M := ops.size) (fl := fl) hdone RN R.toReg0 hNs hfull hst h0 rfl hdir0 hlow0 ?_ ?_ _ _ _ _ ?_ ?_
    ·intro fuel listed a' w' hleft hsz h1 h2 hi'
     refine w3r hdone R.toReg0 rfl hdir0 (ops.size - N) N fuel listed a' w' (by omega) hfull2 (by rw [← y4a hNs h1 h2]; exact hleft) hsz h1 h2 ?_
     rw [← hdl]
     exact hrest _ _ _ t3 hi'
    ·intro f fuel listed a' w' hf0 hfN hNM hleft h1 h2 h3 hi'
     refine y4y hdone RN R.toReg0 hNM hst h0 rfl hdir0 hlow0 hfN (hfo f hf0) hfull2 (fun a w oN hinv ho => ?_) fuel listed a' w' hleft h1 h2 h3 hi'
     have := hnext f hf0 _ a w oN t3 hinv ho
     rw [hdl] at this
     exact this
    ·unfold left
     exact Nat.le_trans (List.length_filter_le _ _) (by simp)
    ·have hrep : ∀ i, (Array.replicate ops.size false).getD i false = false := by
      intro i
      simp only [Array.getD_eq_getD_getElem?, Array.getElem?_replicate]
      split <;> rfl
     have hS : (fun i => (Array.replicate ops.size false).getD i false = true) = fun _ => False := by
      funext i; rw [hrep i]; simp
     have hex := fun u => u3o N (fun j => dl.getD j default) (fun _ => False) u N 0 (by omega)
     let m : Nat → Nat := fun u => Classical.choose (hex u)
     have hm' : ∀ u, 0 ≤ m u ∧ m u ≤ N ∧ (∀ i, 0 ≤ i → i < m u → wr (fun j => dl.getD j default) i u → False) ∧ (m u < N → wr (fun j => dl.getD j default) (m u) u ∧ ¬ False) := fun u => Classical.choose_spec (hex u)
     refine ⟨by simp, fun i _ => hrep i, ⟨m, O, Im, ?_, ?_, fun u hu => hf u (by omega), fun i _ _ => hf _ (by omega)⟩, hd, hs⟩
     ·rw [hS]
      exact ⟨fun _ _ h => h.elim, fun u => (hm' u).2.1, fun u i h1 h2 => (hm' u).2.2.1 i (by omega) h1 h2, fun u => (hm' u).2.2.2⟩
     ·rw [hS]
      have e1 : yn N (fun j => dl.getD j default) val (tr 0) (fun _ => False) = σ.slots := by
       funext u
       simp only [yn]
       rw [z1i (fun i _ h => h.1.elim), t1]
      have e2 : zt N σ.next tr (fun _ => False) m = σ.objs := by
       funext u
       by_cases hx : ∃ i, i < N ∧ u = σ.next + i ∧ ¬ False
       ·rw [wu hx]
        obtain ⟨i, h1, rfl, _⟩ := hx
        have hz := h0 (σ.next + i) (by omega)
        rw [t1] at hz
        exact hz.symm
       ·rw [z0h hx]
        have hbt : ∀ k, k ≤ m u → (tr k).objs u = (tr 0).objs u := by
         intro k
         induction k with
         | zero => intro _; rfl
         | succ k ihk =>
          intro hk
          have hkN : k < N := by have := (hm' u).2.1; omega
          have hw : ¬ wr (fun j => dl.getD j default) k u := fun hw => (hm' u).2.2.1 k (by omega) (by omega) hw
          rw [((hst k hkN).objs RN hkN).1 u hw (fun e => hx ⟨k, hkN, e, fun h => h⟩), ihk (by omega)]
        rw [hbt (m u) (Nat.le_refl _), t1]
      rw [e1, e2]
      exact (s.nx 0).drawn _
   rw [Bool.or_eq_true] at hm0
   rcases hm0 with hm | hm
   ·exact y2w hm (main .any (x2i rfl back))
   ·simp only [Bool.and_eq_true, List.all_eq_true, Array.all_eq_true_iff_forall_mem, Bool.or_eq_true, Bool.not_eq_true', decide_eq_true_eq, List.contains_iff_mem, List.mem_range] at hm
    obtain ⟨⟨hm1, hm2⟩, hm3⟩ := hm
    have hx : ∀ md, md = .text → wpAny P md ops (QRel G X n Q) ops.size (Array.replicate ops.size false) a { w with drawn := w.drawn + 1 } := by
     rintro _ rfl
     refine main .text (x2i rfl fun j o ho e he hb => ?_)
     have hj := (Array.getElem?_eq_some_iff.1 ho).1
     have hto : ops.toList.getD j default = o := by simp [List.getD_eq_getElem?_getD, ho]
     have := hm1 j hj e (by rw [hto]; exact he)
     rcases this with h | h
     ·rw [hb] at h; cases h
     ·exact h
    refine y3f fun md => ?_
    cases md with
    | any => exact main .any (x2i rfl back)
    | text => exact hx .text rfl
    | gc =>
     obtain ⟨g1, g2⟩ := v4l _ _ hm2
     exact main .gc (u5k rfl (Region.linearise .gc ops 0) (fun i hi => hm3 i hi) g1 (fun p post j o h1 h2 e he hb => by simpa using g2 p post j o h1 h2 e he hb))
  ·cases hl
 ·cases hl
theorem v3c {loose : Bool} {dl : List DOper} {id : Nat} (hl : w0w loose P n ops = some (dl.map DOper.strip)) (hokd : okD dl = true) {Q : Ex → St → Prop} {σ : St} {a : Act} {w : World} (h : wDraw P G σ.next 0 dl Q σ) (hi : Inv G X n σ a w) : (Code.region id ops true).wp P (QRel G X n Q) a w :=
 v1i (N := dl.length) hl hokd none (Nat.le_refl _) (fun j h1 h2 => by omega) (fun f h => by cases h) (by rw [List.take_length]; exact h) hi (fun f h => by cases h) fun σ' a' w' hq hi' => by
  rw [Nat.sub_self]; exact ⟨.normal, σ', trivial, hq, hi'⟩
end
section
variable {b : Bool} {l m : List DOper}
theorem vz : (VCode.skip = if b = true then VCode.draw l else .pre .skip) = False := by cases b <;> simp
theorem x0d : (VCode.ret = if b = true then VCode.draw l else .pre .skip) = False := by cases b <;> simp
theorem z0a (n : Nat) : (VCode.exit n = if b = true then VCode.draw l else .pre .skip) = False := by cases b <;> simp
theorem w0d (x) : (VCode.reg x = if b = true then VCode.draw l else .pre .skip) = False := by cases b <;> simp
theorem vt (x) : (VCode.orders x = if b = true then VCode.draw l else .pre .skip) = False := by cases b <;> simp
theorem y0d (x y) : (VCode.seq x y = if b = true then VCode.draw l else .pre .skip) = False := by cases b <;> simp
theorem x0a (c x y) : (VCode.cond c x y = if b = true then VCode.draw l else .pre .skip) = False := by cases b <;> simp
theorem uv (i x) : (VCode.block i x = if b = true then VCode.draw l else .pre .skip) = False := by cases b <;> simp
theorem uz (x) : (VCode.loop x = if b = true then VCode.draw l else .pre .skip) = False := by cases b <;> simp
theorem y0a : (VCode.draw m = if b = true then VCode.draw l else .pre .skip) = (b = true ∧ m = l) := by cases b <;> simp
end

section
variable {P : Program} {G : Nat → Option (List D)} {X : Ctx} {n : Nat}

theorem v2b {p : Nat → Prop} : (∃ m, p m) → ∃ m, p m ∧ ∀ k, p k → m ≤ k := by
 rintro ⟨m, hm⟩
 induction m using Nat.strongRecOn with
 | _ m ih =>
  by_cases h : ∃ k, k < m ∧ p k
  ·obtain ⟨k, hk, hp⟩ := h; exact ih k hk hp
  ·exact ⟨m, hm, fun k hp => Nat.le_of_not_lt fun hlt => h ⟨k, hlt, hp⟩⟩
theorem u0t {ops : Array Oper} {Q : Ex → St → Prop} : ∀ (l : List Oper) (i : Nat) (vs : List VOper), (∀ (j : Nat) (o : Oper), l[j]? = some o → ops[i + j]? = some o) → l.mapM (yw P n ops) = some (vs.map VOper.strip) →
 ∀ (σ : St) (a : Act) (w : World), wOps P G vs Q σ → Inv G X n σ a w → wpOps P ops (QRel G X n Q) (List.range' i l.length) a w
 | [], i, vs, hl, hm, σ, a, w, h, hi => by
  simp only [List.mapM_nil, Option.pure_def, Option.some.injEq] at hm
  obtain rfl : vs = [] := List.map_eq_nil_iff.1 hm.symm
  exact ⟨.normal, σ, trivial, h, hi⟩
 | o :: l, i, vs, hl, hm, σ, a, w, h, hi => by
  simp only [List.mapM_cons, Option.bind_eq_bind, Option.bind_eq_some_iff, Option.pure_def, Option.some.injEq] at hm
  obtain ⟨vo0, h1, vs0, h2, hm⟩ := hm
  obtain ⟨vo, vs', rfl, rfl, rfl⟩ : ∃ vo vs', vs = vo :: vs' ∧ vo0 = vo.strip ∧ vs0 = vs'.map VOper.strip := by
   cases vs with
   | nil => simp at hm
   | cons vo vs' => simp only [List.map_cons, List.cons.injEq] at hm; exact ⟨vo, vs', rfl, hm.1, hm.2⟩
  have ho : ops[i]? = some o := hl 0 o (by simp)
  have ih := u0t (Q := Q) l (i + 1) vs' (fun j o' hj => by have := hl (j + 1) o' (by simpa using hj); rw [← this]; congr 1; omega) h2
  simp only [List.length_cons, List.range'_succ, wpOps, ho]
  unfold yw at h1
  split at h1
  ·rename_i hdst
   simp only [Option.bind_eq_some_iff] at h1
   obtain ⟨vop0, hlo, h1⟩ := h1
   obtain ⟨vdst, vop, vgd⟩ := vo
   simp only [VOper.strip] at h1
   have stepped : vop0 = vop.strip → wOp P G vop σ (fun σ' v => wOps P G vs' Q (σ'.putO o.dst v)) → o.wp P a w (wpOps P ops (QRel G X n Q) (List.range' (i + 1) l.length)) (QRel G X n Q) := by
    intro hvo hw
    refine w1k (ops := ops) (vop := vop) (hvo ▸ hlo) hdst hi hw ?_
    intro σ' sv a' w' hk hi'
    exact ih _ _ _ hk hi'
   split at h1
   ·rename_i hg
    simp only [Option.some.injEq, VOper.mk.injEq] at h1
    obtain ⟨rfl, hvo, rfl⟩ := h1
    have hwant : Region.wanted o (yielded ops a.tmps) = true := by simp [Region.wanted, hg]
    simp only [wOps] at h
    rw [if_pos hwant]
    exact .inl (stepped hvo h)
   ·rename_i j want hg
    simp only [Option.bind_eq_some_iff] at h1
    obtain ⟨d, ⟨oj, hoj, hd⟩, h1⟩ := h1
    split at h1
    ·rename_i hdn
     simp only [Option.some.injEq, VOper.mk.injEq] at h1
     obtain ⟨rfl, hvo, rfl⟩ := h1
     simp only [wOps] at h
     obtain ⟨v, hv, h⟩ := h
     obtain ⟨O, Im, s, hf, hdf, hs⟩ := hi
     have hy : yielded ops a.tmps j = v := by
      rw [w1a (d := d) (by simp [hoj, hd]) (by rw [hs]; exact hdn)]
      exact y2s (x1z X.gh a.tmps (by rw [hs]; exact hdn) ▸ s.slot d) hv
     by_cases hvw : v = some want
     ·rw [if_pos hvw] at h
      have hwant : Region.wanted o (yielded ops a.tmps) = true := by simp [Region.wanted, hg, hy, hvw]
      rw [if_pos hwant]
      exact .inl (stepped hvo h)
     ·rw [if_neg hvw] at h
      have hwant : ¬ Region.wanted o (yielded ops a.tmps) = true := by simp [Region.wanted, hg, hy, hvw]
      rw [if_neg hwant]
      exact ih _ _ _ h (Inv.und ⟨O, Im, s, hf, hdf, hs⟩ hdst)
    ·cases h1
  ·cases h1

theorem u1u {ops : Array Oper} {Q Q0 : Ex → St → Prop} {rest : List Nat} (hk0 : ∀ σ a w, Q0 .normal σ → Inv G X n σ a w → wpOps P ops (QRel G X n Q) rest a w) : ∀ (l : List Oper) (i : Nat) (vs : List VOper), (∀ (j : Nat) (o : Oper), l[j]? = some o → ops[i + j]? = some o) → l.mapM (yw P n ops) = some (vs.map VOper.strip) →
 ∀ (σ : St) (a : Act) (w : World), wOps P G vs Q0 σ → Inv G X n σ a w → wpOps P ops (QRel G X n Q) (List.range' i l.length ++ rest) a w
 | [], i, vs, hl, hm, σ, a, w, h, hi => by
  simp only [List.mapM_nil, Option.pure_def, Option.some.injEq] at hm
  obtain rfl : vs = [] := List.map_eq_nil_iff.1 hm.symm
  exact hk0 _ _ _ h hi
 | o :: l, i, vs, hl, hm, σ, a, w, h, hi => by
  simp only [List.mapM_cons, Option.bind_eq_bind, Option.bind_eq_some_iff, Option.pure_def, Option.some.injEq] at hm
  obtain ⟨vo0, h1, vs0, h2, hm⟩ := hm
  obtain ⟨vo, vs', rfl, rfl, rfl⟩ : ∃ vo vs', vs = vo :: vs' ∧ vo0 = vo.strip ∧ vs0 = vs'.map VOper.strip := by
   cases vs with
   | nil => simp at hm
   | cons vo vs' => simp only [List.map_cons, List.cons.injEq] at hm; exact ⟨vo, vs', rfl, hm.1, hm.2⟩
  have ho : ops[i]? = some o := hl 0 o (by simp)
  have ih := u1u (Q := Q) hk0 l (i + 1) vs' (fun j o' hj => by have := hl (j + 1) o' (by simpa using hj); rw [← this]; congr 1; omega) h2
  simp only [List.length_cons, List.range'_succ, List.cons_append, wpOps, ho]
  unfold yw at h1
  split at h1
  ·rename_i hdst
   simp only [Option.bind_eq_some_iff] at h1
   obtain ⟨vop0, hlo, h1⟩ := h1
   obtain ⟨vdst, vop, vgd⟩ := vo
   simp only [VOper.strip] at h1
   have stepped : vop0 = vop.strip → wOp P G vop σ (fun σ' v => wOps P G vs' Q0 (σ'.putO o.dst v)) → o.wp P a w (wpOps P ops (QRel G X n Q) (List.range' (i + 1) l.length ++ rest)) (QRel G X n Q) := by
    intro hvo hw
    refine w1k (ops := ops) (vop := vop) (hvo ▸ hlo) hdst hi hw ?_
    intro σ' sv a' w' hk hi'
    exact ih _ _ _ hk hi'
   split at h1
   ·rename_i hg
    simp only [Option.some.injEq, VOper.mk.injEq] at h1
    obtain ⟨rfl, hvo, rfl⟩ := h1
    have hwant : Region.wanted o (yielded ops a.tmps) = true := by simp [Region.wanted, hg]
    simp only [wOps] at h
    rw [if_pos hwant]
    exact .inl (stepped hvo h)
   ·rename_i j want hg
    simp only [Option.bind_eq_some_iff] at h1
    obtain ⟨d, ⟨oj, hoj, hd⟩, h1⟩ := h1
    split at h1
    ·rename_i hdn
     simp only [Option.some.injEq, VOper.mk.injEq] at h1
     obtain ⟨rfl, hvo, rfl⟩ := h1
     simp only [wOps] at h
     obtain ⟨v, hv, h⟩ := h
     obtain ⟨O, Im, s, hf, hdf, hs⟩ := hi
     have hy : yielded ops a.tmps j = v := by
      rw [w1a (d := d) (by simp [hoj, hd]) (by rw [hs]; exact hdn)]
      exact y2s (x1z X.gh a.tmps (by rw [hs]; exact hdn) ▸ s.slot d) hv
     by_cases hvw : v = some want
     ·rw [if_pos hvw] at h
      have hwant : Region.wanted o (yielded ops a.tmps) = true := by simp [Region.wanted, hg, hy, hvw]
      rw [if_pos hwant]
      exact .inl (stepped hvo h)
     ·rw [if_neg hvw] at h
      have hwant : ¬ Region.wanted o (yielded ops a.tmps) = true := by simp [Region.wanted, hg, hy, hvw]
      rw [if_neg hwant]
      exact ih _ _ _ h (Inv.und ⟨O, Im, s, hf, hdf, hs⟩ hdst)
    ·cases h1
  ·cases h1

theorem x0r {α β : Type} {f : α → Option β} : ∀ {l : List α} {ys : List β}, l.mapM f = some ys → ys.length = l.length ∧ ∀ (i : Nat) (x : α), l[i]? = some x → ∃ y, ys[i]? = some y ∧ f x = some y
 | [], ys, h => by simp only [List.mapM_nil, Option.pure_def, Option.some.injEq] at h; subst h; exact ⟨rfl, fun i x hx => by simp at hx⟩
 | x :: l, ys, h => by
  simp only [List.mapM_cons, Option.bind_eq_bind, Option.bind_eq_some_iff, Option.pure_def, Option.some.injEq] at h
  obtain ⟨y, h1, ys', h2, rfl⟩ := h
  obtain ⟨g1, g2⟩ := x0r h2
  refine ⟨by simp [g1], fun i x' hx => ?_⟩
  cases i with
  | zero => simp at hx; subst hx; exact ⟨y, by simp, h1⟩
  | succ i => simpa using g2 i x' (by simpa using hx)
theorem u2j {ops : Array Oper} {Q : Ex → St → Prop} : ∀ (ls : List (List VOper)) (l : List Oper) (i : Nat), (∀ (j : Nat) (o : Oper), l[j]? = some o → ops[i + j]? = some o) → l.mapM (yw P n ops) = some (ls.flatten.map VOper.strip) →
 ∀ (σ : St) (a : Act) (w : World), wRegs P G ls Q σ → Inv G X n σ a w → wpOps P ops (QRel G X n Q) (List.range' i l.length) a w
 | [], l, i, hl, hm, σ, a, w, h, hi => u0t l i [] hl hm σ a w h hi
 | [b], l, i, hl, hm, σ, a, w, h, hi => u0t l i b hl (by simpa using hm) σ a w h hi
 | b :: c :: r, l, i, hl, hm, σ, a, w, h, hi => by
  have hlen := (x0r hm).1
  simp only [List.flatten_cons, List.length_append, List.length_map] at hlen
  have e : l = l.take b.length ++ l.drop b.length := (List.take_append_drop _ _).symm
  have hm' := hm
  rw [e] at hm'
  simp only [List.mapM_append, Option.bind_eq_bind, Option.bind_eq_some_iff, Option.pure_def, Option.some.injEq] at hm'
  obtain ⟨y1, h1, y2, h2, h3⟩ := hm'
  have hl1 : y1.length = (b.map VOper.strip).length := by rw [(x0r h1).1, List.length_take, List.length_map]; omega
  rw [List.flatten_cons, List.map_append] at h3
  obtain ⟨rfl, rfl⟩ := List.append_inj h3 hl1
  clear hl1
  have e2 : List.range' i l.length = List.range' i (l.take b.length).length ++ List.range' (i + b.length) (l.drop b.length).length := by
   rw [List.length_take, Nat.min_eq_left (by omega), List.length_drop, List.range'_append_1]; congr 1; omega
  rw [e2]
  refine u1u (Q := Q) (Q0 := fun e σ' => match e with | .normal => ∃ sl ob, Wk σ' sl ob ∧ wRegs P G (c :: r) Q (St.of sl ob) | _ => False) ?_ (l.take b.length) i b (fun j o hj => hl j o (by
   rw [List.getElem?_take] at hj; split at hj
   ·exact hj
   ·cases hj)) h1 σ a w h hi
  rintro σ' a' w' ⟨sl, ob, hw, hq⟩ hi'
  exact u2j (c :: r) (l.drop b.length) (i + b.length) (fun j o hj => by
   rw [List.getElem?_drop] at hj
   have := hl _ _ hj
   rw [← this]; congr 1; omega) h2 _ _ _ hq (hi'.wk hw)
theorem z3w {ops : Array Oper} {Q : Ex → St → Prop} {vs : List VOper} (hm : ops.toList.mapM (yw P n ops) = some vs) : ∀ (ord : List Nat), (∀ i ∈ ord, i < ops.size) →
 ∀ (σ : St) (a : Act) (w : World), wOps P G (ord.map fun i => vs.getD i default) Q σ → Inv G X n σ a w → wpOps P ops (QRel G X n Q) ord a w
 | [], _, σ, a, w, h, hi => ⟨.normal, σ, trivial, h, hi⟩
 | i :: l, hlt, σ, a, w, h, hi => by
  have ih := z3w (Q := Q) hm l (fun j hj => hlt j (by simp [hj]))
  have hi0 := hlt i (by simp)
  obtain ⟨vo, hv, h1⟩ := (x0r hm).2 i ops[i] (by simp [hi0])
  have hvd : vs.getD i default = vo := by simp [List.getD_eq_getElem?_getD, hv]
  have ho : ops[i]? = some ops[i] := by simp [hi0]
  generalize ops[i] = o at *
  rw [List.map_cons, hvd] at h
  generalize (l.map fun i => vs.getD i default) = vs' at *
  simp only [wpOps, ho]
  unfold yw at h1
  split at h1
  ·rename_i hdst
   simp only [Option.bind_eq_some_iff] at h1
   obtain ⟨vop, hlo, h1⟩ := h1
   have stepped : wOp P G vop σ (fun σ' v => wOps P G vs' Q (σ'.putO o.dst v)) → o.wp P a w (wpOps P ops (QRel G X n Q) l) (QRel G X n Q) := by
    intro hw
    refine w1k (ops := ops) (by rw [x3p hlo]; exact hlo) hdst hi hw ?_
    intro σ' sv a' w' hk hi'
    exact ih _ _ _ hk hi'
   split at h1
   ·rename_i hg
    simp only [Option.some.injEq] at h1
    subst h1
    have hwant : Region.wanted o (yielded ops a.tmps) = true := by simp [Region.wanted, hg]
    simp only [wOps] at h
    rw [if_pos hwant]
    exact .inl (stepped h)
   ·rename_i j want hg
    simp only [Option.bind_eq_some_iff] at h1
    obtain ⟨d, ⟨oj, hoj, hd⟩, h1⟩ := h1
    split at h1
    ·rename_i hdn
     simp only [Option.some.injEq] at h1
     subst h1
     simp only [wOps] at h
     obtain ⟨v, hv, h⟩ := h
     obtain ⟨O, Im, s, hf, hdf, hs⟩ := hi
     have hy : yielded ops a.tmps j = v := by
      rw [w1a (d := d) (by simp [hoj, hd]) (by rw [hs]; exact hdn)]
      exact y2s (x1z X.gh a.tmps (by rw [hs]; exact hdn) ▸ s.slot d) hv
     by_cases hvw : v = some want
     ·rw [if_pos hvw] at h
      have hwant : Region.wanted o (yielded ops a.tmps) = true := by simp [Region.wanted, hg, hy, hvw]
      rw [if_pos hwant]
      exact .inl (stepped h)
     ·rw [if_neg hvw] at h
      have hwant : ¬ Region.wanted o (yielded ops a.tmps) = true := by simp [Region.wanted, hg, hy, hvw]
      rw [if_neg hwant]
      exact ih _ _ _ h (Inv.und ⟨O, Im, s, hf, hdf, hs⟩ hdst)
    ·cases h1
  ·cases h1
theorem y2j {md : Region.Mode} {ops : Array Oper} : ∀ (fuel t : Nat) (listed : Array Bool), Region.linearise.go md ops fuel t listed [] ∈ allGo md ops fuel listed ∧ ∀ i ∈ Region.linearise.go md ops fuel t listed [], i < ops.size := by
 intro fuel
 induction fuel with
 | zero => intro t listed; exact ⟨by simp [Region.linearise.go, allGo], fun i hi => by simp [Region.linearise.go] at hi⟩
 | succ fuel ih =>
  intro t listed
  simp only [Region.linearise.go, allGo]
  generalize hrs : ((List.range ops.size).filter fun i => !listed.getD i true && ((ops[i]?).map (·.after.all fun e => !Region.binds md e || listed.getD e.on false)).getD false) = rs
  have hin : ∀ i ∈ rs, i < ops.size := fun i hi => by rw [← hrs] at hi; exact List.mem_range.1 (List.mem_filter.1 hi).1
  cases rs with
  | nil => exact ⟨by simp, fun i hi => by simp at hi⟩
  | cons r rs =>
   have hlt : t % (r :: rs).length < (r :: rs).length := Nat.mod_lt _ (by simp)
   rw [List.getElem?_eq_getElem hlt]
   simp only
   rw [linearise_go_acc, List.reverse_singleton, List.singleton_append]
   have hmem := List.getElem_mem hlt
   obtain ⟨h1, h2⟩ := ih (t / (r :: rs).length) (listed.setIfInBounds (r :: rs)[t % (r :: rs).length] true)
   refine ⟨?_, fun i hi => ?_⟩
   ·rw [List.mem_flatMap]
    exact ⟨_, hmem, List.mem_map.2 ⟨_, h1, rfl⟩⟩
   ·rcases List.mem_cons.1 hi with rfl | hi
    ·exact hin _ hmem
    ·exact h2 i hi
theorem w3w {Q : Ex → St → Prop} {σ : St} : ∀ {l : List (List VOper)}, wAll P G l Q σ → ∀ o ∈ l, wOps P G o Q σ
 | [], _, o, ho => by cases ho
 | x :: l, h, o, ho => by
  rcases List.mem_cons.1 ho with rfl | ho
  ·exact h.1
  ·exact w3w h.2 o ho
theorem z3o {id : Nat} {ops : Array Oper} {v : VCode} (hl : z0t P n ops = some v) {Q : Ex → St → Prop} {σ : St} {a : Act} {w : World} (h : wpv P G v Q σ) (hi : Inv G X n σ a w) : (Code.region id ops true).wp P (QRel G X n Q) a w := by
 unfold z0t at hl
 split at hl
 ·simp only [Option.map_eq_some_iff] at hl
  obtain ⟨vs, hm, rfl⟩ := hl
  refine wp_region_draw fun t => ?_
  have hi' : Inv G X n σ a { w with drawn := w.drawn + 1 } := by
   obtain ⟨O, Im, s, hrest⟩ := hi
   exact ⟨O, Im, s.drawn _, hrest⟩
  have fin : ∀ ord, ord ∈ x0t P ops → (∀ i ∈ ord, i < ops.size) → wpOps P ops (QRel G X n Q) ord a { w with drawn := w.drawn + 1 } := fun ord ho hlt =>
   z3w hm ord hlt σ a _ (w3w h _ (List.mem_map.2 ⟨ord, ho, rfl⟩)) hi'
  simp only [Region.schedule]
  split
  ·rename_i hc
   obtain ⟨h1, h2⟩ := y2j (md := .any) (ops := ops) ops.size t (Array.replicate ops.size false)
   exact fin _ (by unfold x0t; rw [if_pos hc]; exact h1) h2
  ·rename_i hc
   split
   ·obtain ⟨h1, h2⟩ := y2j (md := .text) (ops := ops) ops.size (t / 2) (Array.replicate ops.size false)
    exact fin _ (by unfold x0t; rw [if_neg hc]; exact List.mem_append_left _ h1) h2
   ·obtain ⟨h1, h2⟩ := y2j (md := .gc) (ops := ops) ops.size (t / 2) (Array.replicate ops.size false)
    exact fin _ (by unfold x0t; rw [if_neg hc]; exact List.mem_append_right _ h1) h2
 ·cases hl
theorem x0k {Q Q' : Ex → St → Prop} (hq : ∀ e σ, Q e σ → Q' e σ) : ∀ (vs : List VOper) (σ : St), wOps P G vs Q σ → wOps P G vs Q' σ := by
 have wop : ∀ (op : VOp) (σ : St) {K K' : St → SV → Prop}, (∀ σ v, K σ v → K' σ v) → wOp P G op σ K → wOp P G op σ K' := by
  intro op σ K K' hk h
  have cv : ∀ {f svs}, CallV P G f svs σ K → CallV P G f svs σ K' := fun h => h.elim
   (fun h => .inl ⟨h.1, fun X tm w O Im vals s hf r => (h.2 X tm w O Im vals s hf r).mono fun e w' ⟨v, σ', sv, O', Im', h1, h2, h3⟩ => ⟨v, σ', sv, O', Im', h1, hk _ _ h2, h3⟩⟩)
   (fun h => .inr fun X tm w O Im vals s hf r => let ⟨v, w', σ', sv, O', Im', h1, h2, h3⟩ := h X tm w O Im vals s hf r; ⟨v, w', σ', sv, O', Im', h1, hk _ _ h2, h3⟩)
  cases op
  case call f args => exact cv h
  case callv f args =>
   simp only [wOp] at h ⊢
   split at h
   ·exact cv h
   ·exact cv h
   ·exact h.elim
  case len x =>
   simp only [wOp] at h ⊢
   obtain ⟨n, e, h⟩ := h
   exact ⟨n, e, fun hn => hk _ _ (h hn)⟩
  case isnil neg x =>
   simp only [wOp] at h ⊢
   obtain ⟨n, e, h⟩ := h
   refine ⟨n, e, ?_⟩
   by_cases h0 : n = 0
   ·rw [if_pos h0] at h ⊢; exact fun b => hk _ _ (h b)
   ·rw [if_neg h0] at h ⊢; exact hk _ _ h
  case allocb => exact hk _ _ h
  all_goals
   simp only [wOp] at h ⊢
   obtain ⟨r, e, k⟩ := h
   exact ⟨r, e, hk _ _ k⟩
 intro vs
 induction vs with
 | nil => intro σ h; exact hq _ _ h
 | cons o r ih =>
  intro σ h
  simp only [wOps] at h ⊢
  split at h
  ·exact wop _ _ (fun σ v h => ih _ h) h
  ·obtain ⟨v, hv, h⟩ := h
   refine ⟨v, hv, ?_⟩
   split at h
   ·rename_i hvw; rw [if_pos hvw]; exact wop _ _ (fun σ v h => ih _ h) h
   ·rename_i hvw; rw [if_neg hvw]; exact ih _ h

theorem Inv.room {σ : St} {a : Act} {w : World} (hi : Inv G X n σ a w) {t id off len sz : Nat} {rows : List (List D)} {fz : Bool} (h1 : σ.get t = .one (.r id off len)) (h2 : σ.obj id = some (.arr sz rows fz)) :
 ∃ cp, len ≤ cp ∧ cp ≤ maxLen ∧ Inv G X n (σ.put t (.one (.rc id off len cp))) a w := by
 obtain ⟨O, Im, s, hf, hd, hs⟩ := hi
 obtain ⟨l, hl, hro, _⟩ := s.obj id _ h2
 have ht := s.slot t
 have put : ∀ cp, RelV w.heap Im O (.one (.rc id off len cp)) (tmAt X.gh a.tmps t) → Inv G X n (σ.put t (.one (.rc id off len cp))) a w := by
  intro cp r
  refine ⟨O, Im, ⟨s.ext, s.ownlt, s.imlt, s.im0, s.im1, s.dead, s.obj, s.disj, fun u => ?_, s.glob⟩, hf, hd, hs⟩
  show RelV _ _ _ (if u = t then _ else _) _
  by_cases e : u = t
  ·subst e; rw [if_pos rfl]; exact r
  ·rw [if_neg e]; exact s.slot u
 rw [show σ.slots t = _ from h1] at ht
 generalize hv : tmAt X.gh a.tmps t = v at ht put
 cases ht.one_inv with
 | rd _ _ _ _ g1 _ => rw [g1] at hl; cases hl
 | rn _ cap sz' a0 g1 => exact ⟨0, Nat.le_refl _, Nat.zero_le _, put 0 (.one _ _ (.rcn id cap sz' a0 g1))⟩
 | r _ _ _ b cap sz' ad c g1 g2 g3 g4 =>
  rw [g1] at hl; cases hl
  cases hro with
  | arr _ _ _ _ _ cur tyc fr k1 k2 k3 k4 k5 k6 k7 k8 => exact ⟨c, g2, by omega, put c (.one _ _ (.rc id off len c b cap sz ad g1 g2 g3 g4))⟩

def VCode.isWk : VCode → Bool
 | .wk _ => true
 | .pre _ => true
 | .room .. => true
 | .gho _ => true
 | _ => false
theorem y2m {loose : Bool} {ops : Array Oper} {dl : List DOper} {id m : Nat} (hl : w0w loose P n ops = some (dl.map DOper.strip)) (hok : (okD dl && fullT m dl) = true) {Q : Ex → St → Prop} {σ : St} {a : Act} {w : World} (h : wpv P G (.drawt m dl) Q σ) (hi : Inv G X n σ a w) : (Code.region id ops true).wp P (QRel G X n Q) a w := by
 rw [Bool.and_eq_true] at hok
 have hm : ops.toList.mapM (yw P n ops) = some (dl.map fun d => d.o.strip) := by
  unfold w0w at hl
  split at hl
  ·simp only [Option.bind_eq_some_iff] at hl
   obtain ⟨vs, hvs, hl⟩ := hl
   split at hl
   ·simp only [Option.some.injEq] at hl
    rw [hvs]
    congr 1
    have : (vs.mapIdx (mkD vs (v3d ops.toList []))).map DOper.o = vs := by
     refine List.ext_getElem? fun i => ?_
     simp only [List.getElem?_map, List.getElem?_mapIdx]
     cases vs[i]? <;> rfl
    rw [← this, hl, List.map_map]
    rfl
   ·cases hl
  ·cases hl
 have hlen : dl.length = ops.toList.length := by have := (x0r hm).1; simpa using this
 have tail : ∀ (m : Nat) (σ' : St) (a' : Act) (w' : World), wOps P G ((dl.drop m).map DOper.o) Q σ' → Inv G X n σ' a' w' → wpOps P ops (QRel G X n Q) (List.range' m (dl.length - m)) a' w' := by
  intro m σ' a' w' hq hi'
  have := u0t (P := P) (G := G) (X := X) (ops := ops) (Q := Q) (ops.toList.drop m) m ((dl.drop m).map DOper.o) (fun j o hj => by
   rw [List.getElem?_drop] at hj; simpa using hj) (by
   have e : ops.toList = ops.toList.take m ++ ops.toList.drop m := (List.take_append_drop _ _).symm
   rw [e, List.mapM_append] at hm
   simp only [Option.bind_eq_bind, Option.bind_eq_some_iff, Option.pure_def, Option.some.injEq] at hm
   obtain ⟨y1, h1, y2, h2, h3⟩ := hm
   rw [h2]
   congr 1
   have hl1 := (x0r h1).1
   have e2 : (dl.map fun d => d.o.strip).drop m = y2 := by
    rw [← h3]
    rcases Nat.le_total m ops.toList.length with hle | hle
    ·rw [List.drop_append_of_le_length (by rw [hl1, List.length_take]; omega), List.drop_of_length_le (by rw [hl1, List.length_take]; omega), List.nil_append]
    ·have : y2 = [] := by
      have := (x0r h2).1
      rw [List.length_drop] at this
      exact List.eq_nil_of_length_eq_zero (by omega)
     subst this
     rw [List.drop_of_length_le (by rw [List.append_nil, hl1, List.length_take]; omega)]
   rw [← e2, ← List.map_drop, List.map_map]; rfl) σ' a' w' hq hi'
  rw [List.length_drop, ← hlen] at this
  exact this
 by_cases hm1 : m < 1000
 ·have hfb : fullB m dl = true := by have := hok.2; unfold fullT at this; rwa [if_pos hm1] at this
  simp only [fullB, Bool.and_eq_true, decide_eq_true_eq, List.all_eq_true, List.mem_range, Bool.or_eq_true] at hfb
  simp only [wpv, if_pos hm1] at h
  exact v1i (N := m) hl hok.1 none hfb.1 (fun j h1 h2 i h3 => .inl (((hfb.2 j h2).resolve_left (by omega)) i h3)) (fun f h => by cases h) h hi (fun f h => by cases h) fun σ' a' w' hq hi' => tail m σ' a' w' hq hi'
 ·have hfb : fullF (m / 1000 - 1) (m % 1000) dl = true := by have := hok.2; unfold fullT at this; rwa [if_neg hm1] at this
  simp only [wpv, if_neg hm1] at h
  generalize m / 1000 - 1 = f at *
  generalize m % 1000 = N at *
  simp only [fullF, Bool.and_eq_true, decide_eq_true_eq, List.all_eq_true, List.mem_range, Bool.or_eq_true, beq_iff_eq] at hfb
  obtain ⟨⟨⟨k1, k2⟩, k3⟩, k4⟩ := hfb
  have hdr : (dl.drop N).map DOper.o = (dl.getD N default).o :: (dl.drop (N + 1)).map DOper.o := by
   rw [List.drop_eq_getElem_cons k1, List.map_cons]; congr 1; simp [List.getD_eq_getElem?_getD, k1]
  obtain ⟨_, hg2, ⟨fc, args, hxop⟩, _⟩ := w2l k3
  refine v1i (N := N) hl hok.1 (some f) (Nat.le_of_lt k1) (fun j h1 h2 i h3 => ?_) (fun f' h => by cases h; exact k3) h hi ?_ fun σ' a' w' hq hi' => ?_
  ·rcases k4 j h2 with h | h
   ·omega
   ·rcases h i h3 with h | ⟨h, h'⟩
    ·exact .inl h
    ·exact .inr ⟨by rw [h'], h, by omega⟩
  ·intro f' hf' σ' a' w' oN hq hi' hoN
   cases hf'
   obtain ⟨v, hv, hlo⟩ : ∃ v, (dl.map fun d => d.o.strip)[N]? = some v ∧ yw P n ops oN = some v := (x0r hm).2 N oN (by simpa using hoN)
   have hv2 : v = (dl.getD N default).o.strip := by
    simp only [List.getElem?_map, Option.map_eq_some_iff] at hv
    obtain ⟨d, hd, rfl⟩ := hv
    simp [List.getD_eq_getElem?_getD, hd]
   subst hv2
   obtain ⟨q1, q2, q3, q4⟩ := v1h hlo (by simpa [VOper.strip] using hg2) (by simp only [VOper.strip, hxop, VOp.strip]; exact fun h => by cases h)
   simp only [VOper.strip] at q2 q4
   rw [hdr] at hq
   simp only [v2f, wOps, hg2] at hq
   refine w1k (ops := ops) (vop := (dl.getD N default).o.op) (by unfold x1t; rw [q4]; rfl) q3 hi' hq ?_
   intro σ2 sv a2 w2 hk hi2
   rw [q2] at hi2
   exact ⟨_, hi2, hk.1, fun a3 w3 hi3 => tail (N + 1) _ a3 w3 hk.2 hi3⟩
  ·refine tail N σ' a' w' ?_ hi'
   rw [hdr] at hq ⊢
   simp only [v2f] at hq
   simp only [wOps, hg2] at hq ⊢
   have cv : ∀ {f svs} {K K' : St → SV → Prop}, (∀ σ v, K σ v → K' σ v) → CallV P G f svs σ' K → CallV P G f svs σ' K' := fun hk h => h.elim
    (fun h => .inl ⟨h.1, fun X tm w O Im vals s hf r => (h.2 X tm w O Im vals s hf r).mono fun e w' ⟨v, σ', sv, O', Im', h1, h2, h3⟩ => ⟨v, σ', sv, O', Im', h1, hk _ _ h2, h3⟩⟩)
    (fun h => .inr fun X tm w O Im vals s hf r => let ⟨v, w', σ', sv, O', Im', h1, h2, h3⟩ := h X tm w O Im vals s hf r; ⟨v, w', σ', sv, O', Im', h1, hk _ _ h2, h3⟩)
   rw [hxop] at hq ⊢
   exact cv (fun _ _ h => h.2) hq
theorem Inv.frz {σ : St} {a : Act} {w : World} (hi : Inv G X n σ a w) (gs : List GC) : Inv G X n (σ.frz gs) a w := by
 obtain ⟨O, Im, s, hf, hd, hs⟩ := hi
 obtain ⟨O', Im', s', hf', _⟩ := (y2i gs s hf).ex
 exact ⟨O', Im', s', hf', hd, hs⟩
theorem w2f : ∀ (c : Code) (v : VCode), yz P n c = some v.strip → ∀ (Q : Ex → St → Prop) (σ : St) (a : Act) (w : World), wpv P G v Q σ → Inv G X n σ a w → c.wp P (QRel G X n Q) a w := by
 have wrap : ∀ (c : Code), (∀ (v : VCode), v.isWk = false → yz P n c = some v.strip → ∀ (Q : Ex → St → Prop) (σ : St) (a : Act) (w : World), wpv P G v Q σ → Inv G X n σ a w → c.wp P (QRel G X n Q) a w) →
  ∀ (v : VCode), yz P n c = some v.strip → ∀ (Q : Ex → St → Prop) (σ : St) (a : Act) (w : World), wpv P G v Q σ → Inv G X n σ a w → c.wp P (QRel G X n Q) a w := by
  intro c hc v
  induction v with
  | wk v ih =>
   intro hl Q σ a w h hi
   refine wp_mono (ih hl _ σ a w h hi) ?_
   rintro e a' w' ⟨x, σ', hr, hq, hi'⟩
   cases x <;> cases e <;> simp only [exRel] at hr
   ·obtain ⟨sl, ob, hw, hq⟩ := hq
    exact ⟨.normal, _, trivial, hq, hi'.wk hw⟩
   ·subst hr; exact ⟨.exit _, _, rfl, hq, hi'⟩
   ·exact ⟨.ret, _, trivial, hq, hi'⟩
  | pre v ih =>
   intro hl Q σ a w h hi
   obtain ⟨sl, ob, hw, h⟩ := h
   exact ih hl Q _ a w h (hi.wk hw)
  | gho v ih =>
   intro hl Q σ a w h hi
   obtain ⟨gs, h⟩ := h
   exact ih hl Q _ a w h (hi.frz gs)
  | room t v ih =>
   intro hl Q σ a w h hi
   obtain ⟨id, off, len, sz, rows, fz, h1, h2, h⟩ := h
   obtain ⟨cp, h3, h4, hi'⟩ := hi.room h1 h2
   exact ih hl Q _ a w (h cp h3 h4) hi'
  | _ => exact hc _ rfl
 intro c
 induction c with
 | skip => refine wrap _ fun v hv hl Q σ a w h hi => ?_; cases v <;> simp only [yz, VCode.strip, vz, x0d, z0a, w0d, vt, y0d, x0a, uv, uz, y0a, Option.some.injEq, reduceCtorEq] at hl <;> first | exact wp_skip ⟨.normal, σ, trivial, h, hi⟩ | cases hv
 | label l => refine wrap _ fun v hv hl Q σ a w h hi => ?_; cases v <;> simp only [yz, VCode.strip, vz, x0d, z0a, w0d, vt, y0d, x0a, uv, uz, y0a, Option.some.injEq, reduceCtorEq] at hl <;> first | exact wp_label ⟨.normal, σ, trivial, h, hi⟩ | cases hv
 | region id ops draw =>
  refine wrap _ fun v hv hl Q σ a w h hi => ?_
  simp only [yz] at hl
  split at hl
  ·rename_i hd
   subst hd
   split at hl
   ·rename_i dl h1
    replace h1 := w3z h1
    simp only [Option.some.injEq] at hl
    cases v <;> simp only [VCode.strip, vz, x0d, z0a, w0d, vt, y0d, x0a, uv, uz, y0a, reduceCtorEq, VCode.draw.injEq] at hl <;> first | exact v3c (by rw [h1, hl.2]) hl.1 h hi | exact y2m (by rw [h1, hl.2]) hl.1 h hi | cases hv
   ·split at hl
    case h_2 =>
     simp only [Option.map_eq_some_iff] at hl
     obtain ⟨dl, h1, hl⟩ := hl
     cases v <;> simp only [VCode.strip, vz, x0d, z0a, w0d, vt, y0d, x0a, uv, uz, y0a, reduceCtorEq, VCode.draw.injEq] at hl <;> first | exact v3c (by rw [h1, hl.2]) hl.1 h hi | exact y2m (by rw [h1, hl.2]) hl.1 h hi | cases hv
    rename_i c0 hl0
    have hl : z0t P n ops = some v.strip := by rw [hl0]; exact hl
    have hst : v.strip = v := by
     unfold z0t at hl
     split at hl
     ·simp only [Option.map_eq_some_iff] at hl
      obtain ⟨vs, _, hl⟩ := hl
      cases v <;> simp only [VCode.strip, vz, x0d, z0a, w0d, vt, y0d, x0a, uv, uz, y0a, reduceCtorEq] at hl <;> first | rfl | cases hv
     ·cases hl
    rw [hst] at hl
    exact z3o hl h hi
  ·rename_i hd
   simp only [Option.map_eq_some_iff] at hl
   obtain ⟨vs, h1, hl⟩ := hl
   obtain rfl : draw = false := by simpa using hd
   cases v <;> simp only [VCode.strip, vz, x0d, z0a, w0d, vt, y0d, x0a, uv, uz, y0a, reduceCtorEq, VCode.reg.injEq] at hl <;> first | cases hv; done | skip
   case regs ls =>
    refine wp_region ?_
    have := u2j (X := X) ls ops.toList 0 (ops := ops) (Q := Q) (fun j o hj => by simpa using hj) (by rw [h1, hl]) σ a w h hi
    rwa [Array.length_toList, ← List.range_eq_range'] at this
   refine wp_region ?_
   have := u0t (X := X) ops.toList 0 _ (ops := ops) (Q := Q) (fun j o hj => by simpa using hj) (by rw [h1, hl]) σ a w h hi
   rwa [Array.length_toList, ← List.range_eq_range'] at this
 | seq x y ihx ihy =>
  refine wrap _ fun v hv hl Q σ a w h hi => ?_
  simp only [yz, Option.map_eq_some_iff, Option.bind_eq_some_iff] at hl
  obtain ⟨vx, h1, vy, h2, hl⟩ := hl
  cases v <;> simp only [VCode.strip, vz, x0d, z0a, w0d, vt, y0d, x0a, uv, uz, y0a, reduceCtorEq, VCode.seq.injEq] at hl <;> first | cases hv; done | skip
  obtain ⟨rfl, rfl⟩ := hl
  refine wp_seq (wp_mono (ihx _ h1 _ σ a w h hi) ?_)
  rintro e a' w' ⟨x, σ', hr, hq, hi'⟩
  cases x <;> cases e <;> simp only [exRel] at hr
  ·exact ihy _ h2 _ _ _ _ hq hi'
  ·subst hr; exact ⟨.exit _, _, rfl, hq, hi'⟩
  ·exact ⟨.ret, _, trivial, hq, hi'⟩
 | cond c x y ihx ihy =>
  refine wrap _ fun v hv hl Q σ a w h hi => ?_
  simp only [yz, Option.map_eq_some_iff, Option.bind_eq_some_iff] at hl
  obtain ⟨vc, h0, vx, h1, vy, h2, hl⟩ := hl
  cases v <;> simp only [VCode.strip, vz, x0d, z0a, w0d, vt, y0d, x0a, uv, uz, y0a, reduceCtorEq, VCode.cond.injEq] at hl <;> first | cases hv; done | skip
  obtain ⟨rfl, rfl, rfl⟩ := hl
  simp only [wpv] at h
  obtain ⟨t, ht, h⟩ := h
  obtain ⟨O, Im, s, hrest⟩ := hi
  have hb := z4d (ud s h0) ht
  refine wp_cond hb ?_
  cases t with
  | true => exact ihx _ h1 _ _ _ _ (by simpa using h) ⟨O, Im, s, hrest⟩
  | false => exact ihy _ h2 _ _ _ _ (by simpa using h) ⟨O, Im, s, hrest⟩
 | block id c ih =>
  refine wrap _ fun v hv hl Q σ a w h hi => ?_
  simp only [yz, Option.map_eq_some_iff] at hl
  obtain ⟨vc, h1, hl⟩ := hl
  cases v <;> simp only [VCode.strip, vz, x0d, z0a, w0d, vt, y0d, x0a, uv, uz, y0a, reduceCtorEq, VCode.block.injEq] at hl <;> first | cases hv; done | skip
  obtain ⟨rfl, rfl⟩ := hl
  refine wp_block (wp_mono (ih _ h1 _ σ a w h hi) ?_)
  rintro e a' w' ⟨x, σ', hr, hq, hi'⟩
  cases x <;> cases e <;> simp only [exRel] at hr
  ·exact ⟨.normal, _, trivial, hq, hi'⟩
  ·subst hr
   simp only [Exit.inBlock] at hq ⊢
   split
   ·rename_i he; rw [if_pos he] at hq; exact ⟨.normal, _, trivial, hq, hi'⟩
   ·rename_i he; rw [if_neg he] at hq; exact ⟨.exit _, _, rfl, hq, hi'⟩
  ·exact ⟨.ret, _, trivial, hq, hi'⟩
 | loop c ih =>
  refine wrap _ fun v hv hl Q σ a w h hi => ?_
  simp only [yz, Option.map_eq_some_iff] at hl
  obtain ⟨vc, h1, hl⟩ := hl
  cases v <;> simp only [VCode.strip, vz, x0d, z0a, w0d, vt, y0d, x0a, uv, uz, y0a, reduceCtorEq, VCode.loop.injEq] at hl <;> first | cases hv; done | skip
  subst hl
  simp only [wpv] at h
  obtain ⟨I, m0, hI0, hstep⟩ := h
  let J : Act → World → Nat → Prop := fun a w m => ∃ σ, I m σ ∧ Inv G X n σ a w
  open Classical in
  let μ : Act → World → Nat := fun a w => if hex : ∃ m, J a w m then (v2b hex).choose else 0
  have toJ : ∀ {m : Nat} {σ : St} {a : Act} {w : World}, (I m σ ∨ ∃ sl ob, Wk σ sl ob ∧ I m (St.of sl ob)) → Inv G X n σ a w → J a w m := by
   intro m σ a w h hi
   rcases h with h | ⟨sl, ob, hw, h⟩
   ·exact ⟨σ, h, hi⟩
   ·exact ⟨_, h, hi.wk hw⟩
  refine wp_loop (fun a w => ∃ m, J a w m) μ ⟨m0, toJ hI0 hi⟩ ?_
  intro a w hex
  have hμ : μ a w = (v2b hex).choose := by simp only [μ]; rw [dif_pos hex]
  obtain ⟨σ', hIm, hi'⟩ := (v2b hex).choose_spec.1
  refine wp_mono (ih _ h1 _ σ' a w (hstep _ _ hIm) hi') ?_
  rintro e a' w' ⟨x, σ'', hr, hq, hi''⟩
  cases x <;> cases e <;> simp only [exRel] at hr
  ·obtain ⟨m', hm', hI'⟩ := hq
   have hex' : ∃ m, J a' w' m := ⟨m', toJ hI' hi''⟩
   refine ⟨hex', ?_⟩
   have : μ a' w' = (v2b hex').choose := by simp only [μ]; rw [dif_pos hex']
   rw [this, hμ]
   exact Nat.lt_of_le_of_lt ((v2b hex').choose_spec.2 _ (toJ hI' hi'')) hm'
  ·subst hr; exact ⟨.exit _, _, rfl, hq, hi''⟩
  ·exact ⟨.ret, _, trivial, hq, hi''⟩
 | exit id => refine wrap _ fun v hv hl Q σ a w h hi => ?_; cases v <;> simp only [yz, VCode.strip, vz, x0d, z0a, w0d, vt, y0d, x0a, uv, uz, y0a, Option.some.injEq, reduceCtorEq, VCode.exit.injEq] at hl <;> first | (subst hl; exact wp_exit ⟨.exit _, σ, rfl, h, hi⟩) | cases hv
 | ret => refine wrap _ fun v hv hl Q σ a w h hi => ?_; cases v <;> simp only [yz, VCode.strip, vz, x0d, z0a, w0d, vt, y0d, x0a, uv, uz, y0a, Option.some.injEq, reduceCtorEq] at hl <;> first | exact wp_ret ⟨.ret, σ, trivial, h, hi⟩ | cases hv
 | _ => intro v hl; simp [yz] at hl
end
end Go.V
