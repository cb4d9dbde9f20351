/- Code and regions, held against the machine; no condition. -/
import Derived.Test.YtjpkfnblnimdoaaDoorVT
import Derived.Orders
set_option linter.unusedVariables false
set_option linter.unusedSimpArgs false
namespace Go.V
open Go
/-- The activation and the world stand to a state. -/
def Inv (G : Nat → Option (List D)) (X : Ctx) (n : Nat) (σ : St) (a : Act) (w : World) : Prop :=
  ∃ O Im, SimW G X σ a.tmps w O Im ∧ (∀ u, σ.next ≤ u → O u = .free) ∧ a.defers = [] ∧ a.tmps.size = n
def exRel : Ex → Exit → Prop
  | .normal, .normal => True
  | .exit n, .exit m => n = m
  | .ret, .ret => True
  | _, _ => False
/-- What is said of the states' exits, said of the machine's. -/
def QRel (G : Nat → Option (List D)) (X : Ctx) (n : Nat) (Q : Ex → St → Prop) : Exit → Act → World → Prop :=
  fun e a w => ∃ x σ, exRel x e ∧ Q x σ ∧ Inv G X n σ a w

section
variable {P : Program} {G : Nat → Option (List D)} {X : Ctx} {n : Nat}

theorem Inv.put {σ : St} {a : Act} {w : World} {O : Nat → LS} {Im : Nat → Prop} (s : SimW G X σ a.tmps w O Im) (hf : ∀ u, σ.next ≤ u → O u = .free) (hd : a.defers = []) (hs : a.tmps.size = n) {dst : Option Nat} (hdst : dst.all (· < n) = true) {sv : SV} {v : Value} (r : RelV w.heap Im O sv v) :
    Inv G X n (σ.putO dst sv) (a.put dst v) w := by
  cases dst with
  | none => exact ⟨O, Im, s, hf, hd, hs⟩
  | some t =>
    have ht : t < a.tmps.size := by simpa [hs] using hdst
    exact ⟨O, Im, s.put ht r, hf, hd, by simpa [Act.put] using hs⟩
theorem Inv.und {σ : St} {a : Act} {w : World} (h : Inv G X n σ a w) {dst : Option Nat} (hdst : dst.all (· < n) = true) : Inv G X n (σ.putO dst .und) (a.put dst undef) w := by
  obtain ⟨O, Im, s, hf, hd, hs⟩ := h
  exact Inv.put s hf hd hs hdst .und
/-- What the machine makes of a test. -/
def asYield : Value → Option Bool
  | .bool b => some b
  | _ => none
theorem grd_rel {h : Array Obj} {Im : Nat → Prop} {O : Nat → LS} {sv : SV} {v : Value} {r : Option Bool} (q : RelV h Im O sv v) (e : grd sv = some r) : asYield v = r := by
  unfold grd at e
  split at e
  · cases e; have := q.one_inv.d_inv; cases this; rfl
  · cases e; cases q; rfl
  · cases e
theorem yielded_of {ops : Array Oper} {a : Act} {q d : Nat} (h1 : (ops[q]?).bind (·.dst) = some d) (h2 : d < a.tmps.size) : yielded ops a.tmps q = asYield (a.tmps.getD d undef) := by
  unfold yielded
  rw [h1]
  simp only [Option.bind_some, Array.getElem?_eq_getElem h2, Array.getD_eq_getD_getElem?, Option.getD_some]
  unfold asYield
  cases a.tmps[d] <;> rfl

theorem Post.inv {σ σ' : St} {a : Act} {w' : World} {O : Nat → LS} {sv : SV} {v : Value} (h : Post G X a.tmps σ O σ' sv v w') (hf : ∀ u, σ.next ≤ u → O u = .free) (hd : a.defers = []) (hs : a.tmps.size = n) {dst : Option Nat} (hdst : dst.all (· < n) = true) :
    Inv G X n (σ'.putO dst sv) (a.put dst v) w' := by
  obtain ⟨O', Im', s', r, hn⟩ := h
  refine Inv.put s' ?_ hd hs hdst r
  intro u hu
  rcases hn with ⟨h1, h2⟩ | ⟨h1, h2⟩
  · exact h2 u (hf u (by omega))
  · exact h2 u (by omega) (hf u (by omega))

theorem lowArgs_rel {a : Act} {σ : St} {w : World} {O : Nat → LS} {Im : Nat → Prop} (s : SimW G X σ a.tmps w O Im) : ∀ {xs : List Operand} {ts : List TypeId} {ods : List Od}, lowArgs P xs ts = some ods → RelVs w.heap Im O (ods.map (σ.ev G)) (xs.map a.eval)
  | [], ts, ods, e => by simp only [lowArgs, Option.some.injEq] at e; subst e; exact .nil
  | x :: xs, ts, ods, e => by
    simp only [lowArgs, Option.bind_eq_some_iff, Option.map_eq_some_iff] at e
    obtain ⟨o, h1, os, h2, rfl⟩ := e
    exact .cons _ _ _ _ (ev_rel s h1) (lowArgs_rel s h2)
theorem RelVs.app {h Im O} : ∀ {xs ys : List SV} {vs us : List Value}, RelVs h Im O xs vs → RelVs h Im O ys us → RelVs h Im O (xs ++ ys) (vs ++ us)
  | _, _, _, _, .nil, r => r
  | _, _, _, _, .cons x v xs vs r rs, q => .cons x v _ _ r (rs.app q)

/-- A function's value is called. -/
theorem exec_callv {a : Act} {o : Oper} {c : Call} {x : Operand} {f : Nat} {caps : Array Value} {w : World} (ho : o.op = .call c) (hc : c.callee = .value x) (hx : a.eval x = .func (.func f) #[] caps) (hf : fOk P f = true) :
    (execOp a.eval o).run P w = .ok (.enter f (c.args.map a.eval ++ caps)) w := by
  unfold fOk at hf
  cases hg : P.funcs[f]? with
  | none => simp [hg] at hf
  | some fn =>
    rw [hg] at hf
    simp only [Bool.and_eq_true, bne_iff_ne, ne_eq] at hf
    have h1 : fn.body ≠ none := by intro h; rw [h] at hf; simp at hf
    have h2 : fn.name ≠ "runtime.NumGoroutine" := hf.2
    simp [execOp, ho, resolve, hc, hx, Deferred.ofValue, invoke, callFunc, run_program, hg, h1, h2]

theorem psRel {h Im O} : ∀ {ps : List Ptr} {vs : List Value}, vs.length = ps.length → (∀ (j : Nat) (x : Ptr), ps[j]? = some x → ∃ v, vs[j]? = some v ∧ RelP h Im O x v) → RelVs h Im O (ps.map fun x => .one (.p x)) vs
  | [], [], _, _ => .nil
  | p :: ps, v :: vs, hl, hh => by
    obtain ⟨v', h1, h2⟩ := hh 0 p (by simp)
    simp at h1; subst h1
    exact .cons _ _ _ _ (.one _ _ (.p _ _ h2)) (psRel (by simpa using hl) fun j x hx => by simpa using hh (j + 1) x (by simpa using hx))
  | [], _ :: _, hl, _ => by simp at hl
  | _ :: _, [], hl, _ => by simp at hl
theorem dsRel {h Im O} : ∀ {ds : List D} {vs : List Value}, RelCs h Im ds vs [] → vs.length = ds.length → RelVs h Im O (ds.map fun d => .one (.d d)) vs := by
  intro ds
  induction ds with
  | nil => intro vs r hl; obtain rfl : vs = [] := List.eq_nil_of_length_eq_zero (by simpa using hl); exact .nil
  | cons d ds ih =>
    intro vs r hl
    match vs, hl with
    | v :: vs, hl =>
      refine .cons _ _ _ _ ?_ (ih ?_ (by simpa using hl))
      · obtain ⟨v', h1, h2⟩ := r.at_ 0 d (by simp)
        simp at h1; subst h1
        exact .one _ _ (.d _ _ h2)
      · refine RelCs.of_at _ _ fun j d' hd => ?_
        obtain ⟨v', h1, h2⟩ := r.at_ (j + 1) d' (by simpa using hd)
        exact ⟨v', by simpa using h1, h2⟩

theorem exec_callf {a : Act} {o : Oper} {c : Call} {x : Operand} {f : Nat} {caps : Array Value} {w : World} (ho : o.op = .call c) (hc : c.callee = .value x) (hx : a.eval x = .func (.func f) #[] caps) :
    (execOp a.eval o).run P w = (callFunc f (c.args.map a.eval ++ caps)).run P w := by
  simp [execOp, ho, resolve, hc, hx, Deferred.ofValue, invoke]
theorem low_call {o : Oper} {f : Nat} {args : List Od} (hl : lowOp P o = some (.call f args)) : ∃ c, o.op = .call c ∧ c.callee = .value (.func f) ∧ lowArgs P c.args.toList c.argTypes.toList = some args := by
  unfold lowOp at hl
  (repeat' split at hl) <;> first
    | (cases hl; done)
    | (simp only [Option.map_eq_some_iff, Option.bind_eq_some_iff, reduceCtorEq, and_false, exists_false] at hl; done)
    | skip
  · rename_i c hop _ x hc
    unfold lowVal at hl
    split at hl
    · simp only [Option.map_eq_some_iff] at hl
      obtain ⟨_, h1, h2⟩ := hl
      cases h2
      exact ⟨_, hop, hc, h1⟩
    · simp only [Option.map_eq_some_iff, Option.bind_eq_some_iff, reduceCtorEq, and_false, exists_false] at hl
  · unfold lowBi at hl
    (repeat' split at hl) <;> first
      | (cases hl; done)
      | (simp only [Option.map_eq_some_iff, Option.bind_eq_some_iff, reduceCtorEq, and_false, exists_false] at hl; done)
theorem low_callv {o : Oper} {x : Od} {args : List Od} (hl : lowOp P o = some (.callv x args)) : ∃ c x', o.op = .call c ∧ c.callee = .value x' ∧ lowOd P 0 x' = some x ∧ lowArgs P c.args.toList c.argTypes.toList = some args := by
  unfold lowOp at hl
  (repeat' split at hl) <;> first
    | (cases hl; done)
    | (simp only [Option.map_eq_some_iff, Option.bind_eq_some_iff, reduceCtorEq, and_false, exists_false] at hl; done)
    | skip
  · rename_i c hop _ x' hc
    unfold lowVal at hl
    split at hl
    · simp only [Option.map_eq_some_iff, reduceCtorEq, and_false, exists_false] at hl
    · simp only [Option.map_eq_some_iff, Option.bind_eq_some_iff] at hl
      obtain ⟨_, h0, _, h1, h2⟩ := hl
      cases h2
      exact ⟨_, _, hop, hc, h0, h1⟩
  · unfold lowBi at hl
    (repeat' split at hl) <;> first
      | (cases hl; done)
      | (simp only [Option.map_eq_some_iff, Option.bind_eq_some_iff, reduceCtorEq, and_false, exists_false] at hl; done)
theorem low_len {o : Oper} {x : Od} (hl : lowOp P o = some (.len x)) : ∃ t x', lowOd P t x' = some x := by
  unfold lowOp at hl
  (repeat' split at hl) <;> first
    | (cases hl; done)
    | (simp only [Option.map_eq_some_iff, Option.bind_eq_some_iff, reduceCtorEq, and_false, exists_false] at hl; done)
    | skip
  · unfold lowVal at hl
    split at hl
    · simp only [Option.map_eq_some_iff, reduceCtorEq, and_false, exists_false] at hl
    · simp only [Option.map_eq_some_iff, Option.bind_eq_some_iff, reduceCtorEq, and_false, exists_false] at hl
  · unfold lowBi at hl
    (repeat' split at hl) <;> first
      | (cases hl; done)
      | (simp only [Option.map_eq_some_iff, Option.bind_eq_some_iff, reduceCtorEq, and_false, exists_false] at hl; done)
      | (simp only [Option.map_eq_some_iff] at hl
         obtain ⟨_, h1, h2⟩ := hl
         cases h2
         exact ⟨_, _, h1⟩)

theorem wOp_sound0 {ops : Array Oper} {o : Oper} {vop : VOp} (hl : lowOp P o = some vop.strip) (hdst : o.dst.all (· < n) = true) {σ : St} {a : Act} {w : World} (hi : Inv G X n σ a w) {K : St → SV → Prop} (h : wOp P G vop σ K) {next : Act → World → Prop} {Q : Exit → Act → World → Prop}
    (hn : ∀ σ' sv a' w', K σ' sv → Inv G X n (σ'.putO o.dst sv) a' w' → next a' w') : o.wp P a w next Q := by
  obtain ⟨O, Im, s, hf, hd, hs⟩ := hi
  unfold Oper.wp
  have plain : ∀ {σ' : St} {sv : SV}, stepF G vop σ = some (σ', sv) → K σ' sv → o.upon P a next Q ((execOp a.eval o).run P w) := by
    intro σ' sv e hk
    rcases snd_step' hl s (hf _ (Nat.le_refl _)) e with ⟨v, w', h1, h2⟩ | ⟨w', h1, h2⟩
    · rw [h1, Oper.upon_value]
      exact hn _ _ _ _ hk (Post.inv h2 hf hd hs hdst)
    · rw [h1, Oper.upon_skip]
      exact hn _ _ _ _ hk (Post.inv h2 hf hd hs hdst)
  have called : ∀ {c : Call} {x : Operand} {f : Nat} {caps : Array Value} {ods : List Od} {svs : List SV}, o.op = .call c → c.callee = .value x → a.eval x = .func (.func f) #[] caps → lowArgs P c.args.toList c.argTypes.toList = some ods → RelVs w.heap Im O svs caps.toList →
      CallV P G f (ods.map (σ.ev G) ++ svs) σ K → o.upon P a next Q ((execOp a.eval o).run P w) := by
    intro c x f caps ods svs hop hc hx ha hr hcv
    have hra : RelVs w.heap Im O (ods.map (σ.ev G) ++ svs) (c.args.map a.eval ++ caps).toList := by simpa using RelVs.app (lowArgs_rel s ha) hr
    rcases hcv with hcv | hcv
    · rw [exec_callv hop hc hx hcv.1, Oper.upon_enter]
      have := hcv.2 X a.tmps w O Im (c.args.map a.eval ++ caps).toList s hf hra
      rw [Array.toArray_toList] at this
      refine Calls.mono this ?_
      rintro e w' ⟨v, σ', sv, O', Im', rfl, hk, s', hf', r⟩
      exact hn _ _ _ _ hk (Inv.put s' hf' hd hs hdst r)
    · obtain ⟨v, w', σ', sv, O', Im', hrun, hk, s', hf', r⟩ := hcv X a.tmps w O Im (c.args.map a.eval ++ caps).toList s hf hra
      rw [Array.toArray_toList] at hrun
      rw [exec_callf hop hc hx, hrun, Oper.upon_value]
      exact hn _ _ _ _ hk (Inv.put s' hf' hd hs hdst r)
  cases vop
  case call f args =>
    replace hl : lowOp P o = some (.call f args) := hl
    simp only [wOp] at h
    obtain ⟨c, hop, hc, ha⟩ := low_call hl
    refine called (svs := []) (caps := #[]) hop hc rfl ha .nil (by simpa using h)
  case callv x args =>
    replace hl : lowOp P o = some (.callv x args) := hl
    obtain ⟨c, x', hop, hc, hx, ha⟩ := low_callv hl
    have rx := ev_rel s hx
    simp only [wOp] at h
    split at h
    · rename_i fn caps he
      rw [he] at rx
      have := rx.one_inv
      generalize hv : a.eval x' = vx at this
      cases this with
      | c _ _ cv h1 h2 => exact called hop hc hv ha (psRel (by simpa using h1) (by simpa using h2)) h
    · rename_i fn caps he
      rw [he] at rx
      have := rx.one_inv.d_inv
      generalize hv : a.eval x' = vx at this
      cases this with
      | f _ _ cv h1 h2 => exact called hop hc hv ha (dsRel h2 (by simpa using h1)) h
    · exact h.elim
  case len x =>
    replace hl : lowOp P o = some (.len x) := hl
    simp only [wOp] at h
    obtain ⟨m, e1, h⟩ := h
    obtain ⟨t, x', hx⟩ := low_len hl
    exact plain (σ' := σ) (sv := .one (.d (.i .i64 (m : Int)))) (by simp only [stepF, e1, Option.map_some]) (h (lenV_max s (ev_rel s hx).ur e1))
  case isnil neg x =>
    replace hl : lowOp P o = some (.isnil neg x) := hl
    simp only [wOp] at h
    obtain ⟨m, e1, h⟩ := h
    obtain ⟨t, u, el, x', hop, hu, hx⟩ : ∃ t u el x', o.op = .binOp (if neg = true then .neq else .eql) t x' (.const (.slice none 0 0)) u ∧ P.underlying t = some (.slice el) ∧ lowOd P t x' = some x := by
      unfold lowOp at hl
      (repeat' split at hl) <;> first
        | (cases hl; done)
        | (simp only [Option.map_eq_some_iff, Option.bind_eq_some_iff, reduceCtorEq, and_false, exists_false] at hl; done)
        | (simp only [Option.map_eq_some_iff] at hl
           obtain ⟨_, h1, h2⟩ := hl
           cases h2
           exact ⟨_, _, _, _, by simpa using (by assumption), by assumption, h1⟩)
        | (exfalso; unfold lowVal at hl; split at hl <;> simp only [Option.map_eq_some_iff, Option.bind_eq_some_iff, reduceCtorEq, and_false, exists_false] at hl; done)
        | (exfalso; unfold lowBi at hl; (repeat' split at hl) <;> first | (cases hl; done) | (simp only [Option.map_eq_some_iff, Option.bind_eq_some_iff, reduceCtorEq, and_false, exists_false] at hl; done))
    obtain ⟨ad, c, hv, hne⟩ := lenV_some s (ev_rel s hx) e1
    have hrun := run_isnil (P := P) (a := a) (w := w) hop hu hv
    rw [hrun, Oper.upon_value]
    have fin : ∀ b : Bool, K σ (.one (.d (.b b))) → (if neg = true then !ad.isNone else ad.isNone) = b → next (a.put o.dst (.bool (if neg = true then !ad.isNone else ad.isNone))) w := by
      intro b hk hb
      rw [hb]
      exact hn _ _ _ _ hk (Inv.put s hf hd hs hdst (.one _ _ (.d _ _ (.b b))))
    by_cases hm : m = 0
    · rw [if_pos hm] at h
      exact fin _ (h _) rfl
    · rw [if_neg hm] at h
      refine fin _ h ?_
      have := hne hm
      cases ad with
      | none => exact absurd rfl this
      | some _ => cases neg <;> rfl
  case bslw sz n z parts =>
    replace hl : lowOp P o = some (.bsl sz n z parts) := hl
    simp only [wOp] at h
    obtain ⟨⟨σ', sv⟩, e, hk⟩ := h
    obtain ⟨ty, el, i, zv, prts, hop, hu, hi, hz, rfl, h1, h2, h3, h4, h5⟩ := low_bsl hl
    rcases snd_bslw hop hu hi hz h1 h2 h3 h4 h5 s (hf _ (Nat.le_refl _)) e with ⟨v, w', g1, g2⟩ | ⟨w', g1, g2⟩
    · rw [g1, Oper.upon_value]
      exact hn _ _ _ _ hk (Post.inv g2 hf hd hs hdst)
    · rw [g1, Oper.upon_skip]
      exact hn _ _ _ _ hk (Post.inv g2 hf hd hs hdst)
  case appw sz bytes x y =>
    replace hl : lowOp P o = some (.app sz bytes x y) := hl
    simp only [wOp] at h
    obtain ⟨⟨σ', sv⟩, e, hk⟩ := h
    obtain ⟨ty, el, i, zv, x', y', hop, hu, hi, hz, hzs, rfl, rfl, h1, h2⟩ := low_app hl
    rcases snd_appw hop hu hi hz hzs h1 h2 s (hf _ (Nat.le_refl _)) e with ⟨v, w', g1, g2⟩ | ⟨w', g1, g2⟩
    · rw [g1, Oper.upon_value]
      exact hn _ _ _ _ hk (Post.inv g2 hf hd hs hdst)
    · rw [g1, Oper.upon_skip]
      exact hn _ _ _ _ hk (Post.inv g2 hf hd hs hdst)
  case allocb T e0 =>
    replace hl : lowOp P o = some (.allocb T e0) := hl
    simp only [wOp] at h
    obtain ⟨hop, hb⟩ := low_allocb hl
    rcases snd_allocb hop hb s (hf _ (Nat.le_refl _)) with ⟨v, w', g1, g2⟩ | ⟨w', g1, g2⟩
    · rw [g1, Oper.upon_value]
      exact hn _ _ _ _ h (Post.inv g2 hf hd hs hdst)
    · rw [g1, Oper.upon_skip]
      exact hn _ _ _ _ h (Post.inv g2 hf hd hs hdst)
  case apps bytes x y =>
    replace hl : lowOp P o = some (.apps bytes x y) := hl
    simp only [wOp] at h
    obtain ⟨⟨σ', sv⟩, e, hk⟩ := h
    obtain ⟨ty, tu, el, i, zv, x', y', hop, hu, htu, hi, hz, hzs, hi1, rfl, h1, h2⟩ := low_apps hl
    rcases snd_apps hop hu htu hi hz hzs hi1 h1 h2 s (hf _ (Nat.le_refl _)) e with ⟨v, w', g1, g2⟩ | ⟨w', g1, g2⟩
    · rw [g1, Oper.upon_value]
      exact hn _ _ _ _ hk (Post.inv g2 hf hd hs hdst)
    · rw [g1, Oper.upon_skip]
      exact hn _ _ _ _ hk (Post.inv g2 hf hd hs hdst)
  all_goals
    simp only [wOp] at h
    obtain ⟨⟨σ', sv⟩, e, hk⟩ := h
    exact plain e hk
theorem wOp_sound {ops : Array Oper} {o : Oper} {vop : VOp} (hl : lowOpB P o = some vop.strip) (hdst : o.dst.all (· < n) = true) {σ : St} {a : Act} {w : World} (hi : Inv G X n σ a w) {K : St → SV → Prop} (h : wOp P G vop σ K) {next : Act → World → Prop} {Q : Exit → Act → World → Prop}
    (hn : ∀ σ' sv a' w', K σ' sv → Inv G X n (σ'.putO o.dst sv) a' w' → next a' w') : o.wp P a w next Q := by
  rcases lowOpB_inv hl with hl | hb
  · exact wOp_sound0 (ops := ops) hl hdst hi h hn
  · rw [strip_bad hb] at h
    obtain ⟨r, h, _⟩ := h
    cases h

end
section
variable {G : Nat → Option (List D)} {X : Ctx} {σ : St} {tm : Array Value} {w : World} {O : Nat → LS} {Im : Nat → Prop}
/-- Where the objects lie by their new names. -/
def wkL (O : Nat → LS) : Option (Option VO) → Option (Option Nat) → LS
  | none, _ => .free
  | some none, _ => .gone
  | some (some _), some (some m) => O m
  | some (some (.arr sz _ _)), some none => .live ⟨none, 0, sz, []⟩
  | some (some (.tre sz _ _)), some none => .live ⟨none, 0, sz, []⟩
  | _, _ => .gone
def wkO (O : Nat → LS) (ob : List (Option VO)) (rn : List (Option Nat)) : Nat → LS := fun u => wkL O ob[u]? rn[u]?

theorem objsWk_at {rn : List (Option Nat)} : ∀ {ob : List (Option VO)} {ms : List (Option Nat)}, objsWk rn σ ob ms → ob.length = ms.length ∧ ∀ (u : Nat) (o : VO), ob[u]? = some (some o) → ∃ m, ms[u]? = some m ∧ objWk rn σ (some o) m
  | [], [], _ => ⟨rfl, fun u o h => by simp at h⟩
  | o :: os, m :: ms, h => by
    obtain ⟨h1, h2⟩ := objsWk_at (ob := os) (ms := ms) h.2
    refine ⟨by simp [h1], fun u o' ho => ?_⟩
    cases u with
    | zero => simp at ho; subst ho; exact ⟨m, rfl, h.1⟩
    | succ u => simpa using h2 u o' (by simpa using ho)
  | [], _ :: _, h => h.elim
  | _ :: _, [], h => h.elim
theorem nodupO_at : ∀ {rn : List (Option Nat)}, nodupO rn = true → ∀ (u v m : Nat), rn[u]? = some (some m) → rn[v]? = some (some m) → u = v
  | [], _, u, v, m, h, _ => by simp at h
  | none :: xs, h, u, v, m, h1, h2 => by
    cases u with
    | zero => simp at h1
    | succ u => cases v with
      | zero => simp at h2
      | succ v => rw [nodupO_at (rn := xs) (by simpa [nodupO] using h) u v m (by simpa using h1) (by simpa using h2)]
  | some x :: xs, h, u, v, m, h1, h2 => by
    simp only [nodupO, Bool.and_eq_true, Bool.not_eq_true', List.contains_eq_mem, decide_eq_false_iff_not] at h
    cases u with
    | zero =>
      simp at h1; subst h1
      cases v with
      | zero => rfl
      | succ v => exact absurd (List.mem_of_getElem? (by simpa using h2)) h.1
    | succ u => cases v with
      | zero => simp at h2; subst h2; exact absurd (List.mem_of_getElem? (by simpa using h1)) h.1
      | succ v => rw [nodupO_at (rn := xs) h.2 u v m (by simpa using h1) (by simpa using h2)]

theorem ptr_wk {ob : List (Option VO)} {rn : List (Option Nat)} (hl : ob.length = rn.length) {x y : Ptr} {v : Value} (h : x.wk rn y) (r : RelP w.heap Im O y v) : RelP w.heap Im (wkO O ob rn) x v := by
  cases x with
  | l sz rows i j =>
    simp only [Ptr.wk] at h; subst h
    cases r with
    | l _ _ _ _ b off c e fr h1 h2 h3 h4 => exact .l _ _ _ _ b off c e fr h1 h2 h3 h4
  | q id i j =>
    simp only [Ptr.wk] at h
    split at h
    · rename_i m hm
      subst h
      have hid : id < ob.length := by rw [hl]; exact (List.getElem?_eq_some_iff.1 hm).1
      have hO : wkO O ob rn id = O m ∨ wkO O ob rn id = .gone := by
        unfold wkO
        rw [hm]
        cases ho : ob[id]? with
        | none => simp at ho; omega
        | some o => cases o with
          | none => exact .inr rfl
          | some o => exact .inl rfl
      cases r with
      | qd _ _ _ _ h1 h2 => exact .qd _ _ _ _ (by rcases hO with e | e <;> simp [e, h1]) h2
      | q _ _ _ b cap sz h1 =>
        rcases hO with e | e
        · exact .q _ _ _ b cap sz (by rw [e, h1])
        · exact .qd _ _ _ _ e rfl
    · exact h.elim
theorem ptrs_wk {ob : List (Option VO)} {rn : List (Option Nat)} (hl : ob.length = rn.length) : ∀ {xs ys : List Ptr}, ptrsWk rn xs ys → xs.length = ys.length ∧ ∀ (j : Nat) (x : Ptr), xs[j]? = some x → ∃ y, ys[j]? = some y ∧ x.wk rn y
  | [], [], _ => ⟨rfl, fun j x h => by simp at h⟩
  | x :: xs, y :: ys, h => by
    obtain ⟨h1, h2⟩ := ptrs_wk hl (xs := xs) (ys := ys) h.2
    refine ⟨by simp [h1], fun j x' hx => ?_⟩
    cases j with
    | zero => simp at hx; subst hx; exact ⟨y, rfl, h.1⟩
    | succ j => simpa using h2 j x' (by simpa using hx)
  | [], _ :: _, h => h.elim
  | _ :: _, [], h => h.elim
theorem sc_wk (s : SimW G X σ tm w O Im) {ob : List (Option VO)} {rn : List (Option Nat)} (hob : objsWk rn σ ob rn) {c c' : SC} {v : Value} (h : c.wk rn σ c') (r : RelC w.heap Im O c' v) : RelC w.heap Im (wkO O ob rn) c v := by
  have hl := (objsWk_at hob).1
  cases c with
  | d d =>
    have h' : σ.toD c' = some d := by cases c' <;> exact h
    exact .d _ _ (toD_rel (a := ⟨tm, []⟩) s r h')
  | nl sz =>
    have h' : c'.isNl = true := by cases c' <;> exact h
    cases c' <;> simp [SC.isNl] at h'
    cases r; exact .nl _ _
  | r id off len =>
    have h' : match rn[id]? with | some (some m) => c'.ur = .r m off len | some none => off = 0 ∧ len = 0 ∧ c'.isNl = true | none => False := by cases c' <;> exact h
    split at h'
    · rename_i m hm
      replace r := r.ur
      rw [h'] at r
      have hid : id < ob.length := by rw [hl]; exact (List.getElem?_eq_some_iff.1 hm).1
      have hO : wkO O ob rn id = O m ∨ wkO O ob rn id = .gone := by
        unfold wkO
        rw [hm]
        cases ho : ob[id]? with
        | none => simp at ho; omega
        | some o => cases o with
          | none => exact .inr rfl
          | some o => exact .inl rfl
      cases r with
      | rd _ _ _ _ h1 h2 => exact .rd _ _ _ _ (by rcases hO with e | e <;> simp [e, h1]) h2
      | r _ _ _ b cap sz a c h1 h2 h3 h4 =>
        rcases hO with e | e
        · exact .r _ _ _ b cap sz a c (by rw [e, h1]) h2 h3 h4
        · exact .rd _ _ _ _ e rfl
      | rn _ cap sz a h1 =>
        rcases hO with e | e
        · exact .rn _ cap sz a (by rw [e, h1])
        · exact .rd _ _ _ _ e rfl
    · rename_i hm
      obtain ⟨rfl, rfl, h'⟩ := h'
      cases c' <;> simp [SC.isNl] at h'
      cases r with
      | nl sz a =>
      have hid : id < ob.length := by rw [hl]; exact (List.getElem?_eq_some_iff.1 hm).1
      cases ho : ob[id]? with
      | none => simp at ho; omega
      | some o =>
        have hw : wkO O ob rn id = wkL O (some o) (some none) := by unfold wkO; rw [hm, ho]
        cases o with
        | none => exact .rd _ _ _ _ (by rw [hw]; rfl) rfl
        | some o =>
          cases o with
          | bld => exact .rd _ _ _ _ (by rw [hw]; rfl) rfl
          | box cells => exact .rd _ _ _ _ (by rw [hw]; rfl) rfl
          | arr sz' rows fz => exact .rn _ 0 sz' a (by rw [hw]; rfl)
          | tre sz' rows foc => exact .rn _ 0 sz' a (by rw [hw]; rfl)
    · exact h'.elim
  | p x =>
    cases c' <;> simp only [SC.wk] at h
    cases r with | p _ _ r => exact .p _ _ (ptr_wk hl h r)
  | c fn caps =>
    cases c' <;> simp only [SC.wk] at h
    obtain ⟨rfl, h⟩ := h
    obtain ⟨g1, g2⟩ := ptrs_wk hl h
    cases r with
    | c _ _ cv h1 h2 =>
      refine .c _ _ cv (by rw [h1, g1]) fun j x hx => ?_
      obtain ⟨y, hy, hxy⟩ := g2 j x hx
      obtain ⟨v, hv, hr⟩ := h2 j y hy
      exact ⟨v, hv, ptr_wk hl hxy hr⟩
  | dead => exact .dead _ r.one
  | rc => cases c' <;> simp only [SC.wk] at h
theorem cells_wk (s : SimW G X σ tm w O Im) {ob : List (Option VO)} {rn : List (Option Nat)} (hob : objsWk rn σ ob rn) : ∀ {cs cs' : List SC} {vs : List Value}, cellsWk rn σ cs cs' → RelCl w.heap Im O cs' vs → RelCl w.heap Im (wkO O ob rn) cs vs
  | [], [], _, _, r => by cases r; exact .nil
  | c :: cs, c' :: cs', _, h, r => by
    cases r with
    | cons _ v _ vs r1 r2 => exact .cons _ _ _ _ (sc_wk s hob h.1 r1) (cells_wk s hob h.2 r2)
  | [], _ :: _, _, h, _ => h.elim
  | _ :: _, [], _, h, _ => h.elim
theorem sv_wk (s : SimW G X σ tm w O Im) {ob : List (Option VO)} {rn : List (Option Nat)} (hob : objsWk rn σ ob rn) {x y : SV} {v : Value} (h : x.wk rn σ y) (r : RelV w.heap Im O y v) : RelV w.heap Im (wkO O ob rn) x v := by
  cases x with
  | one c =>
    cases y <;> simp only [SV.wk] at h
    exact .one _ _ (sc_wk s hob h r.one_inv)
  | agg cs =>
    cases y <;> simp only [SV.wk] at h
    obtain ⟨cv, rfl, rr⟩ := r.agg_inv
    exact .agg _ _ (cells_wk s hob h rr)
  | dead => exact .dead _
  | und => cases y <;> simp only [SV.wk] at h; cases r; exact .und
  | tup vs => cases y <;> simp only [SV.wk] at h
theorem slots_wk (s : SimW G X σ tm w O Im) {ob : List (Option VO)} {rn : List (Option Nat)} (hob : objsWk rn σ ob rn) : ∀ {sl : List (Nat × SV)}, slotsWk rn σ sl → ∀ t, RelV w.heap Im (wkO O ob rn) (lookS sl t) (tmAt X.gh tm t)
  | [], _, t => .dead _
  | (k, v) :: r, h, t => by
    simp only [lookS]
    split
    · rename_i e; subst e; exact sv_wk s hob h.1 (s.slot t)
    · exact slots_wk s hob h.2 t
theorem SimW.wk0 (s : SimW G X σ tm w O Im) {rn : List (Option Nat)} {sl : List (Nat × SV)} {ob : List (Option VO)} (h1 : nodupO rn = true) (h2 : slotsWk rn σ sl) (h3 : objsWk rn σ ob rn) : ∃ O', SimW G X (St.of sl ob) tm w O' Im ∧ ∀ u, (St.of sl ob).next ≤ u → O' u = .free := by
  obtain ⟨hl, hat⟩ := objsWk_at h3
  have key : ∀ u o, (St.of sl ob).objs u = some o → ob[u]? = some (some o) := by
    intro u o ho
    have : (ob[u]?).join = some o := ho
    cases hx : ob[u]? with
    | none => rw [hx] at this; cases this
    | some y => rw [hx] at this; simp at this; subst this; rfl
  have two : ∀ u o, (St.of sl ob).objs u = some o → (rn[u]? = some none ∧ ∃ sz, ((∃ fz, o = .arr sz [] fz) ∨ o = .tre sz [] none) ∧ wkO O ob rn u = .live ⟨none, 0, sz, []⟩) ∨ ∃ m o', rn[u]? = some (some m) ∧ σ.objs m = some o' ∧ o.wk rn σ o' ∧ wkO O ob rn u = O m := by
    intro u o ho
    have hu := key u o ho
    obtain ⟨m, hm, hw⟩ := hat u o hu
    cases m with
    | none =>
      left
      refine ⟨hm, ?_⟩
      cases o with
      | bld => exact hw.elim
      | box cells => exact hw.elim
      | arr sz rows fz =>
        cases rows with
        | nil => exact ⟨sz, .inl ⟨fz, rfl⟩, by unfold wkO; rw [hu, hm]; rfl⟩
        | cons _ _ => exact hw.elim
      | tre sz rows foc =>
        cases rows with
        | nil =>
          cases foc with
          | none => exact ⟨sz, .inr rfl, by unfold wkO; rw [hu, hm]; rfl⟩
          | some _ => exact hw.elim
        | cons _ _ => exact hw.elim
    | some m =>
      right
      have hw' : optVOWk rn σ o (σ.obj m) := by cases o <;> exact hw
      cases ho' : σ.obj m with
      | none => rw [ho'] at hw'; exact hw'.elim
      | some o' => rw [ho'] at hw'; exact ⟨m, o', hm, ho', hw', by unfold wkO; rw [hu, hm]; rfl⟩
  have own : ∀ o o' l b, o.wk rn σ o' → (Own o l b ↔ Own o' l b) := by
    intro o o' l b h
    cases o with
    | bld T e l0 =>
      cases o' with
      | bld => exact Iff.rfl
      | box => simp only [VO.wk] at h
      | tre => simp only [VO.wk] at h
      | arr => simp only [VO.wk] at h
    | arr sz rows fz =>
      cases o' with
      | bld => simp only [VO.wk] at h
      | box => simp only [VO.wk] at h
      | tre => simp only [VO.wk] at h
      | arr sz' rows' fz' =>
        simp only [VO.wk] at h
        obtain ⟨⟨_, e⟩, _⟩ := h
        rw [e]
        cases fz <;> exact Iff.rfl
    | box cells =>
      cases o' with
      | bld => simp only [VO.wk] at h
      | box => exact Iff.rfl
      | tre => simp only [VO.wk] at h
      | arr => simp only [VO.wk] at h
    | tre sz rows foc =>
      cases o' with
      | bld => cases foc <;> simp only [VO.wk] at h
      | box => cases foc <;> simp only [VO.wk] at h
      | arr => cases foc <;> simp only [VO.wk] at h
      | tre => exact Iff.rfl
  refine ⟨wkO O ob rn, ⟨s.ext, s.ownlt, s.imlt, s.im0, s.im1, ?_, ?_, ?_, slots_wk s h3 h2, s.glob⟩, ?_⟩
  · intro u hu l hl'
    have : (ob[u]?).join = none := hu
    unfold wkO at hl'
    cases hx : ob[u]? with
    | none => rw [hx] at hl'; cases hl'
    | some y => rw [hx] at this hl'; simp at this; subst this; cases hl'
  · intro u o ho
    rcases two u o ho with ⟨_, sz, ⟨fz0, rfl⟩ | rfl, hO⟩ | ⟨m, o', hm, hobj, hwk, hO⟩
    · exact ⟨_, hO, .an _ _ _, fun b hb => by cases fz0 <;> simp [Own] at hb⟩
    · exact ⟨_, hO, .tn _ _, fun b hb => by simp [Own] at hb⟩
    · obtain ⟨l, g1, g2, g3⟩ := s.obj m o' hobj
      refine ⟨l, by rw [hO, g1], ?_, fun b hb => g3 b ((own o o' l b hwk).1 hb)⟩
      cases o with
      | bld T e l0 =>
        cases o' <;> simp only [VO.wk] at hwk
        obtain ⟨rfl, rfl, rfl⟩ := hwk
        cases g2 with
        | bld _ _ _ b sub k1 k2 k3 k4 => exact .bld _ _ _ b sub k1 k2 k3 k4
      | arr sz rows fz =>
        cases o' <;> simp only [VO.wk] at hwk
        obtain ⟨⟨rfl, rfl⟩, t, ht⟩ := hwk
        cases g2 with
        | an =>
          obtain rfl : rows = [] := (List.append_eq_nil_iff.1 ht).1
          exact .an _ _ _
        | arr _ _ _ b cap c e fr k1 k2 k3 k4 k5 k6 k7 k8 =>
          subst ht
          refine .arr _ _ _ b cap c e fr k1 k2 (fun r hr => k3 r (List.mem_append_left _ hr)) (by simp at k4; omega) k5 k6 ?_ k8
          have := k7.take rows.flatten.length
          simpa using this
      | box cells =>
        cases o' <;> simp only [VO.wk] at hwk
        cases g2 with
        | box _ b c e k1 k2 k3 =>
          have hr := cells_wk s h3 hwk k2
          have h5 := k2.len; have h6 := hr.len
          have := RelO.box (h := w.heap) (Im := Im) (O := wkO O ob rn) cells b c e k1 hr k3
          rw [h6, ← h5] at this; exact this
      | tre sz rows foc =>
        cases o' with
        | bld => cases foc <;> simp only [VO.wk] at hwk
        | box => cases foc <;> simp only [VO.wk] at hwk
        | arr => cases foc <;> simp only [VO.wk] at hwk
        | tre sz' rows' foc' =>
          cases foc with
          | some fp =>
            cases foc' with
            | none => simp only [VO.wk] at hwk
            | some fp' =>
              obtain ⟨i, cs⟩ := fp
              obtain ⟨i', cs'⟩ := fp'
              simp only [VO.wk] at hwk
              obtain ⟨⟨rfl, rfl, rfl⟩, hc⟩ := hwk
              cases g2 with
              | tre _ _ _ b cap c e sub k1 k2 k3 k4 k5 k6 k7 k8 k9 => exact .tre _ _ _ b cap c e sub k1 k2 k3 k4 k5 k6 k7 k8 ⟨k9.1, cells_wk s h3 hc k9.2⟩
          | none =>
            cases foc' with
            | some _ => simp only [VO.wk] at hwk
            | none =>
              simp only [VO.wk] at hwk
              obtain ⟨rfl, rfl⟩ := hwk
              cases g2 with
              | tn => exact .tn _ _
              | tre _ _ _ b cap c e sub k1 k2 k3 k4 k5 k6 k7 k8 k9 => exact .tre _ _ _ b cap c e sub k1 k2 k3 k4 k5 k6 k7 k8 trivial
  · intro u u' o o' l l' b hne ho ho' hlu hlu' hb
    rcases two u o ho with ⟨_, sz, ho1, hO⟩ | ⟨m, p, hm, hobj, hwk, hO⟩
    · rw [hO] at hlu; cases hlu
      rcases ho1 with ⟨fz0, rfl⟩ | rfl
      · cases fz0 <;> simp [Own] at hb
      · simp [Own] at hb
    · rcases two u' o' ho' with ⟨_, sz, ho1', hO'⟩ | ⟨m', p', hm', hobj', hwk', hO'⟩
      · rw [hO'] at hlu'; cases hlu'
        rcases ho1' with ⟨fz0, rfl⟩ | rfl
        · cases fz0 <;> simp [Own]
        · simp [Own]
      · rw [own _ _ _ _ hwk']
        rw [own _ _ _ _ hwk] at hb
        rw [hO] at hlu; rw [hO'] at hlu'
        refine s.disj m m' p p' l l' b (fun e => ?_) hobj hobj' hlu hlu' hb
        subst e
        exact hne (nodupO_at h1 u u' m hm hm')
  · intro u hu
    have hu' : ob.length ≤ u := hu
    unfold wkO
    rw [List.getElem?_eq_none hu']; rfl
theorem SimW.wk (s : SimW G X σ tm w O Im) (hf : ∀ u, σ.next ≤ u → O u = .free) {sl : List (Nat × SV)} {ob : List (Option VO)} (h : Wk σ sl ob) : ∃ O' Im', SimW G X (St.of sl ob) tm w O' Im' ∧ ∀ u, (St.of sl ob).next ≤ u → O' u = .free := by
  obtain ⟨rn, fs, h1, h2, h3⟩ := h
  obtain ⟨O1, Im', s', hf', _, _, _⟩ := (frz_ok fs s hf).ex
  obtain ⟨O', g1, g2⟩ := s'.wk0 h1 h2 h3
  exact ⟨O', Im', g1, g2⟩
end
theorem Inv.wk {G : Nat → Option (List D)} {X : Ctx} {n : Nat} {σ : St} {a : Act} {w : World} (h : Inv G X n σ a w) {sl : List (Nat × SV)} {ob : List (Option VO)} (hw : Wk σ sl ob) : Inv G X n (St.of sl ob) a w := by
  obtain ⟨O, Im, s, hf, hd, hs⟩ := h
  obtain ⟨O', Im', s', hf'⟩ := s.wk hf hw
  exact ⟨O', Im', s', hf', hd, hs⟩
section
variable {G : Nat → Option (List D)} {σ τ σ' : St} {v : SV}
theorem ev_eq {x : Od} (h : ∀ t ∈ odSl x, σ.slots t = τ.slots t) : τ.ev G x = σ.ev G x := by
  cases x with
  | t n => exact (h n (by simp [odSl])).symm
  | _ => rfl
theorem optI_eq {x : Option Od} (h : ∀ t ∈ oodSl x, σ.slots t = τ.slots t) : optI G τ x = optI G σ x := by
  cases x with
  | none => rfl
  | some x => simp only [optI]; rw [ev_eq (σ := σ) h]
theorem fill_eq : ∀ {ps : List (Nat × Nat × Od)} {z : List SC}, (∀ p ∈ ps, ∀ t ∈ odSl p.2.2, σ.slots t = τ.slots t) → τ.fill G z ps = σ.fill G z ps
  | [], z, _ => rfl
  | (off, n, x) :: r, z, h => by
    have hx : τ.ev G x = σ.ev G x := ev_eq (σ := σ) (h (off, n, x) (by simp))
    have ih : ∀ z, τ.fill G z r = σ.fill G z r := fun z => fill_eq fun p hp => h p (by simp [hp])
    simp only [St.fill, hx, ih]
theorem psOf_eq : ∀ {xs : List Od}, (∀ x ∈ xs, ∀ t ∈ odSl x, σ.slots t = τ.slots t) → psOf G τ xs = psOf G σ xs
  | [], _ => rfl
  | x :: xs, h => by
    simp only [psOf]
    rw [ev_eq (σ := σ) (h x (by simp)), psOf_eq fun x hx => h x (by simp [hx])]
theorem map_ev_eq : ∀ {xs : List Od}, (∀ x ∈ xs, ∀ t ∈ odSl x, σ.slots t = τ.slots t) → xs.map (τ.ev G) = xs.map (σ.ev G)
  | [], _ => rfl
  | x :: xs, h => by
    simp only [List.map_cons]
    rw [ev_eq (σ := σ) (h x (by simp)), map_ev_eq fun x hx => h x (by simp [hx])]

/-- An operation that looks at no object. -/
theorem frame_p {op : VOp} (hc : clsOf op = .p) (hs : ∀ t ∈ opSl op, σ.slots t = τ.slots t) (e : stepF G op σ = some (σ', v)) : σ' = σ ∧ stepF G op τ = some (τ, v) := by
  cases op <;> simp only [clsOf, reduceCtorEq] at hc <;> simp only [opSl, List.mem_append, List.mem_flatMap] at hs <;> simp only [stepF] at e ⊢
  case app sz b x y => exact absurd hc (clsApp_np x)
  case appq sz b x y => exact absurd hc (clsApp_np x)
  case bad => cases e
  case gho => cases e
  case appw sz b x y => exact absurd hc (clsApp_np x)
  case appr sz b x y => exact absurd hc (clsApp_np x)
  case mv x =>
    simp only [Option.some.injEq, Prod.mk.injEq] at e ⊢; obtain ⟨rfl, rfl⟩ := e
    exact ⟨rfl, trivial, ev_eq hs⟩
  case pick c a b =>
    simp only [Option.map_eq_some_iff, Prod.mk.injEq] at e ⊢; obtain ⟨t, e, rfl, rfl⟩ := e
    rw [ev_eq (σ := σ) (x := c) (fun t h => hs t (.inl h)), ev_eq (σ := σ) (x := a) (fun t h => hs t (.inr (.inl h))), ev_eq (σ := σ) (x := b) (fun t h => hs t (.inr (.inr h)))]
    exact ⟨rfl, t, e, trivial, rfl⟩
  case build z ps =>
    simp only [Option.map_eq_some_iff, Prod.mk.injEq] at e ⊢; obtain ⟨t, e, rfl, rfl⟩ := e
    rw [fill_eq (σ := σ) (fun p hp t ht => hs t ⟨p, hp, ht⟩)]
    exact ⟨rfl, t, e, trivial, rfl⟩
  case fl agg off n x =>
    rw [ev_eq (σ := σ) hs]
    simp only [Option.bind_eq_some_iff] at e ⊢; obtain ⟨cs, e1, e⟩ := e
    split at e
    · rename_i hle
      simp only [Option.map_eq_some_iff, Prod.mk.injEq] at e; obtain ⟨t, e, rfl, rfl⟩ := e
      refine ⟨rfl, cs, e1, ?_⟩
      rw [if_pos hle]; simp [e]
    · cases e
  case ix x i =>
    rw [ev_eq (σ := σ) (x := x) (fun t h => hs t (.inl h)), ev_eq (σ := σ) (x := i) (fun t h => hs t (.inr h))]
    simp only [Option.bind_eq_some_iff] at e ⊢; obtain ⟨n, e1, s, e2, e⟩ := e
    split at e
    · rename_i hle
      simp only [Option.some.injEq, Prod.mk.injEq] at e; obtain ⟨rfl, rfl⟩ := e
      refine ⟨rfl, n, e1, s, e2, ?_⟩
      rw [if_pos hle]
    · cases e
  case sls x lo hi =>
    rw [ev_eq (σ := σ) (x := x) (fun t h => hs t (.inl h)), optI_eq (σ := σ) (x := lo) (fun t h => hs t (.inr (.inl h))), optI_eq (σ := σ) (x := hi) (fun t h => hs t (.inr (.inr h)))]
    simp only [Option.bind_eq_some_iff] at e ⊢; obtain ⟨s, e1, l, e2, h, e3, e⟩ := e
    split at e
    · rename_i hle
      simp only [Option.some.injEq, Prod.mk.injEq] at e; obtain ⟨rfl, rfl⟩ := e
      refine ⟨rfl, s, e1, l, e2, h, e3, ?_⟩
      rw [if_pos hle]
    · cases e
  case sla n z x lo hi =>
    rw [ev_eq (σ := σ) (x := x) (fun t h => hs t (.inl h)), optI_eq (σ := σ) (x := lo) (fun t h => hs t (.inr (.inl h))), optI_eq (σ := σ) (x := hi) (fun t h => hs t (.inr (.inr h)))]
    simp only [Option.bind_eq_some_iff, Option.map_eq_some_iff, Prod.mk.injEq] at e ⊢; obtain ⟨l, e2, h, e3, t, e, rfl, rfl⟩ := e
    exact ⟨rfl, l, e2, h, e3, t, e, trivial, rfl⟩
  case bin k o x y =>
    rw [ev_eq (σ := σ) (x := x) (fun t h => hs t (.inl h)), ev_eq (σ := σ) (x := y) (fun t h => hs t (.inr h))]
    simp only [Option.map_eq_some_iff, Prod.mk.injEq] at e ⊢; obtain ⟨t, e, rfl, rfl⟩ := e
    exact ⟨rfl, t, e, trivial, rfl⟩
  case eqs n k x y =>
    rw [ev_eq (σ := σ) (x := x) (fun t h => hs t (.inl h)), ev_eq (σ := σ) (x := y) (fun t h => hs t (.inr h))]
    simp only [Option.bind_eq_some_iff, Option.map_eq_some_iff, Prod.mk.injEq] at e ⊢; obtain ⟨a, e1, b, e2, t, e, rfl, rfl⟩ := e
    exact ⟨rfl, a, e1, b, e2, t, e, trivial, rfl⟩
  case un o x =>
    rw [ev_eq (σ := σ) hs]
    simp only [Option.map_eq_some_iff, Prod.mk.injEq] at e ⊢; obtain ⟨t, e, rfl, rfl⟩ := e
    exact ⟨rfl, t, e, trivial, rfl⟩
  case cvi k x =>
    rw [ev_eq (σ := σ) hs]
    simp only [Option.map_eq_some_iff, Prod.mk.injEq] at e ⊢; obtain ⟨t, e, rfl, rfl⟩ := e
    exact ⟨rfl, t, e, trivial, rfl⟩
  case cid x =>
    rw [ev_eq (σ := σ) hs]
    simp only [Option.map_eq_some_iff, Prod.mk.injEq] at e ⊢; obtain ⟨t, e, rfl, rfl⟩ := e
    exact ⟨rfl, t, e, trivial, rfl⟩
  case lens x =>
    rw [ev_eq (σ := σ) hs]
    simp only [Option.map_eq_some_iff, Prod.mk.injEq] at e ⊢; obtain ⟨t, e, rfl, rfl⟩ := e
    exact ⟨rfl, t, e, trivial, rfl⟩
  case inil n x =>
    rw [ev_eq (σ := σ) hs]
    simp only [Option.map_eq_some_iff, Prod.mk.injEq] at e ⊢; obtain ⟨t, e, rfl, rfl⟩ := e
    exact ⟨rfl, t, e, trivial, rfl⟩
  case mkf f cs =>
    rw [psOf_eq (σ := σ) (fun p hp t ht => hs t ⟨p, hp, ht⟩)]
    simp only [Option.map_eq_some_iff, Prod.mk.injEq] at e ⊢; obtain ⟨t, e, rfl, rfl⟩ := e
    exact ⟨rfl, t, e, trivial, rfl⟩
  case ext x i =>
    rw [ev_eq (σ := σ) hs]
    simp only [Option.map_eq_some_iff, Prod.mk.injEq] at e ⊢; obtain ⟨t, e, rfl, rfl⟩ := e
    exact ⟨rfl, t, e, trivial, rfl⟩
  case mm b x y =>
    rw [ev_eq (σ := σ) (x := x) (fun t h => hs t (.inl h)), ev_eq (σ := σ) (x := y) (fun t h => hs t (.inr h))]
    simp only [Option.map_eq_some_iff, Prod.mk.injEq] at e ⊢; obtain ⟨t, e, rfl, rfl⟩ := e
    exact ⟨rfl, t, e, trivial, rfl⟩

/-- More objects. -/
def ObjLe (σ τ : St) : Prop := ∀ u o, σ.objs u = some o → τ.objs u = some o
theorem ObjLe.obj (h : ObjLe σ τ) {u : Nat} {o : VO} (e : σ.obj u = some o) : τ.obj u = some o := h u o e
theorem ld_le (h : ObjLe σ τ) {n : Nat} {p : Ptr} {cs : List SC} (e : σ.ld n p = some cs) : τ.ld n p = some cs := by
  cases p with
  | l => exact e
  | q id i j =>
    simp only [St.ld] at e ⊢
    split at e
    · rename_i ho; rw [h.obj ho]; exact e
    · rename_i ho; rw [h.obj ho]; exact e
    · rename_i ho; rw [h.obj ho]; exact e
    · rename_i ho; rw [h.obj ho]; exact e
    · cases e
    · cases e
theorem alive_le (h : ObjLe σ τ) {p : Ptr} (e : σ.alive p = true) : τ.alive p = true := by
  cases p with
  | l => rfl
  | q id i j =>
    simp only [St.alive, Option.isSome_iff_exists] at e ⊢
    obtain ⟨o, ho⟩ := e
    exact ⟨o, h.obj ho⟩
theorem toD_le (h : ObjLe σ τ) {c : SC} {d : D} (e : σ.toD c = some d) : τ.toD c = some d := by
  cases c with
  | r id off len =>
    simp only [St.toD] at e ⊢
    split at e
    · rename_i ho; rw [h.obj ho]; exact e
    · cases e
  | _ => exact e
theorem toDs_le (h : ObjLe σ τ) : ∀ {cs : List SC} {ds : List D}, σ.toDs cs = some ds → τ.toDs cs = some ds
  | [], ds, e => e
  | c :: cs, ds, e => by
    simp only [St.toDs] at e ⊢
    split at e
    · rename_i d ds' h1 h2
      rw [toD_le h h1, toDs_le h h2]
      exact e
    · cases e
theorem lenV_le (h : ObjLe σ τ) {x : SV} {n : Nat} (e : σ.lenV x = some n) : τ.lenV x = some n := by
  unfold St.lenV at e ⊢
  split at e
  · exact e
  · exact e
  · rename_i id off len
    split at e
    · rename_i ho
      obtain ⟨o, ho⟩ := Option.isSome_iff_exists.1 ho
      simp [h.obj ho, e]
    · cases e
  · cases e
theorem rowsOf_le (h : ObjLe σ τ) {sz : Nat} {x : SV} {r : List (List D)} (e : σ.rowsOf sz x = some r) : τ.rowsOf sz x = some r := by
  unfold St.rowsOf at e ⊢
  split at e
  · exact e
  · exact e
  · split at e
    · rename_i ho; rw [h.obj ho]; exact e
    · cases e
  · cases e
theorem ia_le (h : ObjLe σ τ) {sz : Nat} {n : Int} {x r : SV} (e : σ.ia sz n x = some r) : τ.ia sz n x = some r := by
  unfold St.ia at e ⊢
  split at e
  · exact e
  · rename_i id off len
    split at e
    · rename_i ho
      rw [h.obj ho]
      exact e
    · rename_i ho
      rw [h.obj ho]
      exact e
    · cases e
  · cases e
theorem iaa_le (h : ObjLe σ τ) {m sz : Nat} {n : Int} {x r : SV} (e : σ.iaa m sz n x = some r) : τ.iaa m sz n x = some r := by
  unfold St.iaa at e ⊢
  split at e
  · exact e
  · split at e
    · rename_i hc
      rw [if_pos ⟨hc.1, alive_le h hc.2⟩]; exact e
    · cases e
  · cases e
theorem sl3V_le (h : ObjLe σ τ) {sz : Nat} {x r : SV} {lo hi mx : Int} (e : σ.sl3V sz x lo hi mx = some r) : τ.sl3V sz x lo hi mx = some r := by
  unfold St.sl3V at e ⊢
  split at e
  · exact e
  · exact e
  · rename_i id off len
    split at e
    · rename_i ho
      rw [h.obj ho]
      exact e
    · cases e
  · cases e
theorem slV_le (h : ObjLe σ τ) {sz : Nat} {x r : SV} {lo hi : Option Int} (e : σ.slV sz x lo hi = some r) : τ.slV sz x lo hi = some r := by
  unfold St.slV at e ⊢
  split at e
  · exact e
  · rename_i id off len
    split at e
    · rename_i ho
      rw [h.obj ho]
      exact e
    · cases e
  · exact e
  · rename_i id off len cp
    split at e
    · rename_i ho
      rw [h.obj ho]
      exact e
    · cases e
  · cases e
theorem capV_le (h : ObjLe σ τ) {x : SV} {n : Nat} (e : σ.capV x = some n) : τ.capV x = some n := by
  unfold St.capV at e ⊢
  split at e
  · exact e
  · split at e
    · rename_i ho
      obtain ⟨o, ho⟩ := Option.isSome_iff_exists.1 ho
      rw [h.obj ho]
      exact e
    · cases e
  · cases e
theorem appz_le (h : ObjLe σ τ) {sz b l : Nat} {ds : List D} {x : SV} {r : List (List D)} (e : σ.appz sz b ds l x = some r) : τ.appz sz b ds l x = some r := by
  unfold St.appz at e ⊢
  split at e
  · exact e
  · split at e
    · rename_i ho
      rw [h.obj ho]
      exact e
    · cases e
  · cases e
/-- An operation that reads objects, or makes one. -/
theorem frame_m {op : VOp} (hc : clsOf op = .m) (hcall : ∀ f as, op ≠ .call f as) (hs : ∀ t ∈ opSl op, σ.slots t = τ.slots t) (ho : ObjLe σ τ) (hn : τ.next = σ.next) (e : stepF G op σ = some (σ', v)) :
    (σ' = σ ∧ stepF G op τ = some (τ, v)) ∨ (∃ o, makes op = true ∧ σ' = σ.new o ∧ stepF G op τ = some (τ.new o, v)) := by
  cases op <;> simp only [clsOf, reduceCtorEq] at hc <;> simp only [opSl, List.mem_append, List.mem_flatMap] at hs <;> simp only [stepF] at e ⊢
  case appr sz b x y =>
    obtain ⟨n, rfl⟩ := clsApp_m hc
    simp only [Option.bind_eq_some_iff] at e; obtain ⟨news, e1, e⟩ := e
    simp only [St.ev, St.appr] at e
    cases e
  case bslw => cases e
  case appw => cases e
  case call f as => exact absurd rfl (hcall f as)
  case alloc z =>
    simp only [Option.some.injEq, Prod.mk.injEq] at e; obtain ⟨rfl, rfl⟩ := e
    exact .inr ⟨_, rfl, rfl, by rw [hn]⟩
  case box n x =>
    rw [ev_eq (σ := σ) hs]
    simp only [Option.bind_eq_some_iff] at e; obtain ⟨cs, e1, e⟩ := e
    split at e
    · rename_i hl
      simp only [Option.some.injEq, Prod.mk.injEq] at e; obtain ⟨rfl, rfl⟩ := e
      refine .inr ⟨_, rfl, rfl, ?_⟩
      simp [e1, hl, hn]
    · cases e
  case boxk n x =>
    rw [ev_eq (σ := σ) hs]
    simp only [Option.bind_eq_some_iff] at e; obtain ⟨cs, e1, e⟩ := e
    split at e
    · rename_i hl
      simp only [Option.map_eq_some_iff, Prod.mk.injEq] at e; obtain ⟨ds, e2, rfl, rfl⟩ := e
      refine .inl ⟨rfl, ?_⟩
      simp [e1, hl, toDs_le ho e2]
    · cases e
  case bsl sz n z ps =>
    have hf : τ.fill G (List.replicate n z).flatten (mul1 sz ps) = σ.fill G (List.replicate n z).flatten (mul1 sz ps) := by
      refine fill_eq fun p hp t ht => ?_
      have : ∀ {ps : List (Nat × Od)}, p ∈ mul1 sz ps → ∃ q ∈ ps, q.2 = p.2.2 := by
        intro ps
        induction ps with
        | nil => intro h; simp [mul1] at h
        | cons q r ih =>
          intro h
          obtain ⟨i, x⟩ := q
          simp only [mul1, List.mem_cons] at h
          rcases h with rfl | h
          · exact ⟨(i, x), by simp, rfl⟩
          · obtain ⟨q, hq, hx⟩ := ih h; exact ⟨q, by simp [hq], hx⟩
      obtain ⟨q, hq, hx⟩ := this hp
      exact hs t ⟨q, hq, by rw [hx]; exact ht⟩
    rw [hf]
    simp only [Option.bind_eq_some_iff, Option.map_eq_some_iff, Prod.mk.injEq] at e; obtain ⟨cs, e1, ds, e2, rfl, rfl⟩ := e
    refine .inr ⟨_, rfl, rfl, ?_⟩
    simp [e1, toDs_le ho e2, hn]
  case bslf sz n z ps =>
    have hf : τ.fill G (List.replicate n z).flatten (mul1 sz ps) = σ.fill G (List.replicate n z).flatten (mul1 sz ps) := by
      refine fill_eq fun p hp t ht => ?_
      have : ∀ {ps : List (Nat × Od)}, p ∈ mul1 sz ps → ∃ q ∈ ps, q.2 = p.2.2 := by
        intro ps
        induction ps with
        | nil => intro h; simp [mul1] at h
        | cons q r ih =>
          intro h
          obtain ⟨i, x⟩ := q
          simp only [mul1, List.mem_cons] at h
          rcases h with rfl | h
          · exact ⟨(i, x), by simp, rfl⟩
          · obtain ⟨q, hq, hx⟩ := ih h; exact ⟨q, by simp [hq], hx⟩
      obtain ⟨q, hq, hx⟩ := this hp
      exact hs t ⟨q, hq, by rw [hx]; exact ht⟩
    rw [hf]
    simp only [Option.bind_eq_some_iff, Option.map_eq_some_iff, Prod.mk.injEq] at e; obtain ⟨cs, e1, ds, e2, rfl, rfl⟩ := e
    refine .inr ⟨_, rfl, rfl, ?_⟩
    simp [e1, toDs_le ho e2, hn]
  case mks sz b z l c =>
    rw [ev_eq (σ := σ) (x := l) (fun t h => hs t (.inl h)), ev_eq (σ := σ) (x := c) (fun t h => hs t (.inr h))]
    simp only [Option.bind_eq_some_iff] at e; obtain ⟨n, e1, m, e2, ds, e3, e⟩ := e
    split at e
    · rename_i hl
      simp only [Option.some.injEq, Prod.mk.injEq] at e; obtain ⟨rfl, rfl⟩ := e
      refine .inr ⟨_, rfl, rfl, ?_⟩
      simp only [e1, e2, toDs_le ho e3, Option.bind_some]
      rw [if_pos hl, hn]
    · cases e
  case appz sz b z x n =>
    rw [ev_eq (σ := σ) (x := x) (fun t h => hs t (.inl h)), ev_eq (σ := σ) (x := n) (fun t h => hs t (.inr h))]
    simp only [Option.bind_eq_some_iff] at e; obtain ⟨l, e2, ds, e3, e⟩ := e
    split at e
    · rename_i hl
      simp only [Option.map_eq_some_iff, Prod.mk.injEq] at e; obtain ⟨rows, e4, rfl, rfl⟩ := e
      refine .inr ⟨_, rfl, rfl, ?_⟩
      simp only [e2, toDs_le ho e3, Option.bind_some]
      rw [if_pos hl, appz_le ho e4, hn]; rfl
    · cases e
  case cap x =>
    rw [ev_eq (σ := σ) hs]
    simp only [Option.map_eq_some_iff, Prod.mk.injEq] at e; obtain ⟨n, e1, rfl, rfl⟩ := e
    exact .inl ⟨rfl, by simp [capV_le ho e1]⟩
  case ld agg n x =>
    rw [ev_eq (σ := σ) hs]
    simp only [Option.bind_eq_some_iff, Option.map_eq_some_iff, Prod.mk.injEq] at e; obtain ⟨p, e1, cs, e2, u, e3, rfl, rfl⟩ := e
    exact .inl ⟨rfl, by simp [e1, ld_le ho e2, e3]⟩
  case fa off x =>
    rw [ev_eq (σ := σ) hs]
    simp only [Option.bind_eq_some_iff] at e; obtain ⟨p, e1, e⟩ := e
    split at e
    · rename_i ha
      simp only [Option.some.injEq, Prod.mk.injEq] at e; obtain ⟨rfl, rfl⟩ := e
      exact .inl ⟨rfl, by simp [e1, alive_le ho ha]⟩
    · cases e
  case nilchk x =>
    rw [ev_eq (σ := σ) hs]
    simp only [Option.bind_eq_some_iff] at e; obtain ⟨p, e1, e⟩ := e
    split at e
    · rename_i ha
      simp only [Option.some.injEq, Prod.mk.injEq] at e; obtain ⟨rfl, rfl⟩ := e
      exact .inl ⟨rfl, by simp [e1, alive_le ho ha]⟩
    · cases e
  case ia sz x i =>
    rw [ev_eq (σ := σ) (x := x) (fun t h => hs t (.inl h)), ev_eq (σ := σ) (x := i) (fun t h => hs t (.inr h))]
    simp only [Option.bind_eq_some_iff, Option.map_eq_some_iff, Prod.mk.injEq] at e; obtain ⟨n, e1, u, e2, rfl, rfl⟩ := e
    exact .inl ⟨rfl, by simp [e1, ia_le ho e2]⟩
  case appf sz b n y =>
    rw [ev_eq (σ := σ) (x := y) (fun t h => hs t h)]
    simp only [Option.bind_eq_some_iff] at e; obtain ⟨news, e1, e⟩ := e
    split at e
    · rename_i hfit
      simp only [Option.some.injEq, Prod.mk.injEq] at e; obtain ⟨rfl, rfl⟩ := e
      refine .inr ⟨_, rfl, rfl, ?_⟩
      rw [rowsOf_le ho e1]
      simp only [Option.bind_some]
      rw [if_pos hfit, hn]
    · cases e
  case app sz b x y =>
    obtain ⟨n, rfl⟩ := clsApp_m hc
    rw [ev_eq (σ := σ) (x := y) (fun t h => hs t (.inr h))]
    simp only [Option.bind_eq_some_iff] at e; obtain ⟨news, e1, e⟩ := e
    simp only [St.ev, SV.ur, SC.ur, St.app] at e
    split at e
    · rename_i hfit
      simp only [Option.some.injEq, Prod.mk.injEq] at e; obtain ⟨rfl, rfl⟩ := e
      refine .inr ⟨_, rfl, rfl, ?_⟩
      rw [rowsOf_le ho e1]
      show τ.app sz b news (.one (.nl n)) = _
      simp only [St.app]
      rw [if_pos hfit, hn]
    · cases e
  case appq sz b x y =>
    obtain ⟨n, rfl⟩ := clsApp_m hc
    rw [ev_eq (σ := σ) (x := y) (fun t h => hs t (.inr h))]
    simp only [Option.bind_eq_some_iff] at e; obtain ⟨news, e1, e⟩ := e
    simp only [St.ev, SV.ur, SC.ur, St.appq] at e
    split at e
    · rename_i hfit
      simp only [Option.some.injEq, Prod.mk.injEq] at e; obtain ⟨rfl, rfl⟩ := e
      refine .inr ⟨_, rfl, rfl, ?_⟩
      rw [rowsOf_le ho e1]
      show τ.appq sz b news (.one (.nl n)) = _
      simp only [St.appq]
      rw [if_pos hfit, hn]
    · cases e
  case iaa m sz x i =>
    rw [ev_eq (σ := σ) (x := x) (fun t h => hs t (.inl h)), ev_eq (σ := σ) (x := i) (fun t h => hs t (.inr h))]
    simp only [Option.bind_eq_some_iff, Option.map_eq_some_iff, Prod.mk.injEq] at e; obtain ⟨n, e1, u, e2, rfl, rfl⟩ := e
    exact .inl ⟨rfl, by simp [e1, iaa_le ho e2]⟩
  case sl sz x lo hi =>
    rw [ev_eq (σ := σ) (x := x) (fun t h => hs t (.inl h)), optI_eq (σ := σ) (x := lo) (fun t h => hs t (.inr (.inl h))), optI_eq (σ := σ) (x := hi) (fun t h => hs t (.inr (.inr h)))]
    simp only [Option.bind_eq_some_iff, Option.map_eq_some_iff, Prod.mk.injEq] at e; obtain ⟨l, e1, h, e2, u, e3, rfl, rfl⟩ := e
    exact .inl ⟨rfl, by simp [e1, e2, slV_le ho e3]⟩
  case sl3 sz x lo hi mx =>
    rw [ev_eq (σ := σ) (x := x) (fun t h => hs t (.inl h)), optI_eq (σ := σ) (x := lo) (fun t h => hs t (.inr (.inl h))), ev_eq (σ := σ) (x := hi) (fun t h => hs t (.inr (.inr (.inl h)))), ev_eq (σ := σ) (x := mx) (fun t h => hs t (.inr (.inr (.inr h))))]
    simp only [Option.bind_eq_some_iff, Option.map_eq_some_iff, Prod.mk.injEq] at e; obtain ⟨l, e1, h, e2, m, e3, u, e4, rfl, rfl⟩ := e
    exact .inl ⟨rfl, by simp [e1, e2, e3, sl3V_le ho e4]⟩
  case len x =>
    rw [ev_eq (σ := σ) hs]
    simp only [Option.map_eq_some_iff, Prod.mk.injEq] at e; obtain ⟨n, e1, rfl, rfl⟩ := e
    exact .inl ⟨rfl, by simp [lenV_le ho e1]⟩
  case b2s x =>
    rw [ev_eq (σ := σ) hs]
    simp only [Option.map_eq_some_iff, Option.bind_eq_some_iff, Prod.mk.injEq] at e; obtain ⟨n, ⟨rr, e1, e2⟩, rfl, rfl⟩ := e
    exact .inl ⟨rfl, by simp [rowsOf_le ho e1, e2]⟩
theorem frame_m_makes {op : VOp} (hm : makes op = false) (hw : clsOf op ≠ .w) (e : stepF G op σ = some (σ', v)) : σ' = σ := by
  by_cases hp : clsOf op = .p
  · exact (frame_p (τ := σ) hp (fun _ _ => rfl) e).1
  · have hc : clsOf op = .m := by cases h : clsOf op <;> simp_all
    rcases frame_m (τ := σ) hc (fun f as h => by subst h; simp [stepF] at e) (fun _ _ => rfl) (fun u o h => h) rfl e with h | ⟨o, h, _⟩
    · exact h.1
    · rw [hm] at h; cases h

theorem toDs_obj (h : σ.objs = τ.objs) : ∀ (cs : List SC), τ.toDs cs = σ.toDs cs
  | [] => rfl
  | c :: cs => by
    have hc : τ.toD c = σ.toD c := by cases c <;> simp [St.toD, St.obj, h]
    simp only [St.toDs, hc, toDs_obj h cs]
/-- An operation that writes. -/
theorem frame_w {op : VOp} (hc : clsOf op = .w) (hs : ∀ t ∈ opSl op, σ.slots t = τ.slots t) (ho : τ.objs = σ.objs) (hn : τ.next = σ.next) (e : stepF G op σ = some (σ', v)) :
    stepF G op τ = some (⟨τ.slots, σ'.objs, σ'.next⟩, v) ∧ σ'.slots = σ.slots ∧ σ'.next ≤ σ.next + 1 ∧ (∀ u, σ.objs u = none → u ≠ σ.next → σ'.objs u = none) ∧ (makes op = false → ∀ u, σ.objs u = none → σ'.objs u = none) := by
  cases op <;> simp only [clsOf, reduceCtorEq] at hc <;> simp only [opSl, List.mem_append, List.mem_flatMap] at hs <;> simp only [stepF] at e ⊢
  case appw => cases e
  case apps => cases e
  case allocb => cases e
  case callv => cases e
  case isnil => cases e
  case clr sz z x =>
    rw [ev_eq (σ := σ) hs]
    simp only [Option.bind_eq_some_iff] at e; obtain ⟨ds, e1, e⟩ := e
    split at e
    · rename_i hl
      simp only [Option.map_eq_some_iff, Prod.mk.injEq] at e; obtain ⟨σ1, e, rfl, rfl⟩ := e
      have hst : τ.clr sz ds (σ.ev G x).ur = some ⟨τ.slots, σ1.objs, σ1.next⟩ ∧ σ1.slots = σ.slots ∧ σ1.next = σ.next ∧ ∀ u, σ.objs u = none → σ1.objs u = none := by
        unfold St.clr at e ⊢
        split at e
        · cases e; exact ⟨by rw [← ho, ← hn], rfl, rfl, fun _ h => h⟩
        · rename_i id off len heq
          have hob : τ.obj id = σ.obj id := by simp [St.obj, ho]
          rw [hob]
          split at e
          · rename_i s rows hx
            split at e
            · rename_i hc
              cases e
              simp only [hc, and_self, if_true]
              refine ⟨by simp [St.setO, ho, hn], rfl, rfl, fun u hu => ?_⟩
              by_cases e : u = id
              · subst e; exact absurd (show σ.obj u = none from hu) (by rw [hx]; simp)
              · simp [St.setO, e, hu]
            · cases e
          · cases e
        · cases e
      refine ⟨?_, hst.2.1, by rw [hst.2.2.1]; omega, fun u h _ => hst.2.2.2 u h, fun _ => hst.2.2.2⟩
      rw [toDs_obj ho.symm]
      simp [e1, hl, hst.1]
    · cases e
  case cpy sz x y =>
    rw [ev_eq (σ := σ) (x := x) (fun t h => hs t (.inl h)), ev_eq (σ := σ) (x := y) (fun t h => hs t (.inr h))]
    simp only [Option.map_eq_some_iff, Prod.mk.injEq] at e; obtain ⟨⟨σ1, n⟩, e, rfl, rfl⟩ := e
    have hst : τ.cpy sz (σ.ev G y).ur (σ.ev G x).ur = some (⟨τ.slots, σ1.objs, σ1.next⟩, n) ∧ σ1.slots = σ.slots ∧ σ1.next = σ.next ∧ ∀ u, σ.objs u = none → σ1.objs u = none := by
      unfold St.cpy at e ⊢
      split at e
      · rename_i id off len heq
        have hob : τ.obj id = σ.obj id := by simp [St.obj, ho]
        have hsr : ∀ k y, τ.srcOf sz k y = σ.srcOf sz k y := by intro k y; simp [St.srcOf, St.obj, ho]
        rw [hob]
        split at e
        · rename_i s rows hx
          split at e
          · rename_i hc
            simp only [hsr]
            rw [if_pos hc]
            simp only [Option.map_eq_some_iff, Prod.mk.injEq] at e
            obtain ⟨ys, e1, rfl, rfl⟩ := e
            refine ⟨by rw [e1]; simp [St.setO, ho, hn], rfl, rfl, fun u hu => ?_⟩
            by_cases e : u = id
            · subst e; exact absurd (show σ.obj u = none from hu) (by rw [hx]; simp)
            · simp [St.setO, e, hu]
          · cases e
        · cases e
      · cases e
    refine ⟨?_, hst.2.1, by rw [hst.2.2.1]; omega, fun u h _ => hst.2.2.2 u h, fun _ => hst.2.2.2⟩
    simp [hst.1]
  case st n a x =>
    rw [ev_eq (σ := σ) (x := a) (fun t h => hs t (.inl h)), ev_eq (σ := σ) (x := x) (fun t h => hs t (.inr h))]
    simp only [Option.bind_eq_some_iff] at e; obtain ⟨p, e1, cs, e2, e⟩ := e
    split at e
    · rename_i hl
      simp only [Option.map_eq_some_iff, Prod.mk.injEq] at e; obtain ⟨σ1, e, rfl, rfl⟩ := e
      have hst : τ.stO cs p = some ⟨τ.slots, σ1.objs, σ1.next⟩ ∧ σ1.slots = σ.slots ∧ σ1.next = σ.next ∧ ∀ u, σ.objs u = none → σ1.objs u = none := by
        unfold St.stO at e ⊢
        split at e
        · rename_i id i j
          have hob : τ.obj id = σ.obj id := by simp [St.obj, ho]
          rw [hob]
          have key : ∀ (o' : VO), σ.obj id ≠ none → σ.setO id (some o') = σ1 → τ.setO id (some o') = ⟨τ.slots, σ1.objs, σ1.next⟩ ∧ σ1.slots = σ.slots ∧ σ1.next = σ.next ∧ ∀ u, σ.objs u = none → σ1.objs u = none := by
            rintro o' hne rfl
            refine ⟨by simp [St.setO, ho, hn], rfl, rfl, fun u hu => ?_⟩
            by_cases e : u = id
            · subst e; exact absurd hu hne
            · simp [St.setO, e, hu]
          split at e
          · rename_i sz rows hx
            split at e
            · rename_i r ds h1 h2
              rw [toDs_obj ho.symm, h2]
              simp only [h1]
              split at e
              · rename_i hle
                simp only [Option.some.injEq] at e
                rw [if_pos hle]
                have := key _ (by rw [hx]; simp) e
                exact ⟨by rw [this.1], this.2⟩
              · cases e
            · cases e
          · rename_i cells hx
            split at e
            · rename_i hle
              simp only [Option.some.injEq] at e
              rw [if_pos hle]
              have := key _ (by rw [hx]; simp) e
              exact ⟨by rw [this.1], this.2⟩
            · cases e
          · rename_i hx
            split at e
            · rename_i hle
              simp only [Option.some.injEq] at e
              rw [if_pos hle]
              have := key _ (by rw [hx]; simp) e
              exact ⟨by rw [this.1], this.2⟩
            · cases e
          · cases e
        · cases e
      refine ⟨?_, hst.2.1, by rw [hst.2.2.1]; omega, fun u h _ => hst.2.2.2 u h, fun _ => hst.2.2.2⟩
      simp [e1, e2, hl, hst.1]
    · cases e
  case app sz b x y =>
    rw [ev_eq (σ := σ) (x := x) (fun t h => hs t (.inl h)), ev_eq (σ := σ) (x := y) (fun t h => hs t (.inr h))]
    simp only [Option.bind_eq_some_iff] at e; obtain ⟨news, e1, e2⟩ := e
    have hr : τ.rowsOf sz (σ.ev G y) = σ.rowsOf sz (σ.ev G y) := by
      unfold St.rowsOf; simp [St.obj, ho]
    rw [hr, e1]
    simp only [Option.bind_some, makes]
    unfold St.app at e2 ⊢
    split at e2
    · split at e2
      · rename_i hc
        simp only [Option.some.injEq, Prod.mk.injEq] at e2; obtain ⟨rfl, rfl⟩ := e2
        refine ⟨by rw [if_pos hc]; simp [St.new, ho, hn], rfl, Nat.le_refl _, fun u h hu => ?_, fun h => by cases h⟩
        simp [St.new, hu, h]
      · cases e2
    · rename_i id off len heq
      have hob : τ.obj id = σ.obj id := by simp [St.obj, ho]
      rw [hob]
      split at e2
      · split at e2
        · rename_i hc
          simp only [Option.some.injEq, Prod.mk.injEq] at e2; obtain ⟨rfl, rfl⟩ := e2
          refine ⟨by rw [if_pos hc]; simp [St.new, St.setO, ho, hn]; rfl, rfl, Nat.le_refl _, fun u h hu => ?_, fun h => by cases h⟩
          by_cases h2 : u = id
          · subst h2; simp [St.new, St.setO, hu]
          · simp [St.new, St.setO, hu, h2, h]
        · cases e2
      · cases e2
    · cases e2
  case appr sz b x y =>
    rw [ev_eq (σ := σ) (x := x) (fun t h => hs t (.inl h)), ev_eq (σ := σ) (x := y) (fun t h => hs t (.inr h))]
    simp only [Option.bind_eq_some_iff] at e; obtain ⟨news, e1, e2⟩ := e
    have hr : τ.rowsOf sz (σ.ev G y).ur = σ.rowsOf sz (σ.ev G y).ur := by
      unfold St.rowsOf; simp [St.obj, ho]
    rw [hr, e1]
    simp only [Option.bind_some, makes]
    unfold St.appr at e2 ⊢
    split at e2
    · rename_i id off len cp heq
      have hob : τ.obj id = σ.obj id := by simp [St.obj, ho]
      rw [hob]
      split at e2
      · rename_i s' rows hx
        split at e2
        · rename_i hc
          simp only [Option.some.injEq, Prod.mk.injEq] at e2; obtain ⟨rfl, rfl⟩ := e2
          have hno : ∀ u, σ.objs u = none → (σ.setO id (some (.arr sz (rows.take len ++ (news ++ rows.drop (len + news.length))) false))).objs u = none := by
            intro u hu
            by_cases h2 : u = id
            · subst h2; rw [show σ.objs u = _ from hx] at hu; cases hu
            · simp [St.setO, hu, h2]
          exact ⟨by rw [if_pos hc]; simp [St.setO, ho, hn], rfl, Nat.le_succ _, fun u h _ => hno u h, fun h => by cases h⟩
        · cases e2
      · cases e2
    · cases e2
  case appq sz b x y =>
    rw [ev_eq (σ := σ) (x := x) (fun t h => hs t (.inl h)), ev_eq (σ := σ) (x := y) (fun t h => hs t (.inr h))]
    simp only [Option.bind_eq_some_iff] at e; obtain ⟨news, e1, e2⟩ := e
    have hr : τ.rowsOf sz (σ.ev G y) = σ.rowsOf sz (σ.ev G y) := by
      unfold St.rowsOf; simp [St.obj, ho]
    rw [hr, e1]
    simp only [Option.bind_some, makes]
    unfold St.appq at e2 ⊢
    split at e2
    · split at e2
      · rename_i hc
        simp only [Option.some.injEq, Prod.mk.injEq] at e2; obtain ⟨rfl, rfl⟩ := e2
        refine ⟨by rw [if_pos hc]; simp [St.new, ho, hn], rfl, Nat.le_refl _, fun u h hu => ?_, fun h => by cases h⟩
        simp [St.new, hu, h]
      · cases e2
    · rename_i id off len heq
      have hob : τ.obj id = σ.obj id := by simp [St.obj, ho]
      rw [hob]
      split at e2
      · split at e2
        · rename_i hc
          simp only [Option.some.injEq, Prod.mk.injEq] at e2; obtain ⟨rfl, rfl⟩ := e2
          refine ⟨by rw [if_pos hc]; simp [St.new, St.setO, ho, hn]; rfl, rfl, Nat.le_refl _, fun u h hu => ?_, fun h => by cases h⟩
          by_cases h2 : u = id
          · subst h2; simp [St.new, St.setO, hu]
          · simp [St.new, St.setO, hu, h2, h]
        · cases e2
      · cases e2
    · cases e2
end
/-- What one operation comes to. -/
def DS (P : Program) (G : Nat → Option (List D)) (op : VOp) (σ σ' : St) (v : SV) : Prop :=
  match op with
  | .call f args => ∃ res, CallD P G f (args.map (σ.ev G)) σ res v ∧ σ' = addO σ res
  | .callv .. => False
  | .isnil .. => False
  | op => stepF G op σ = some (σ', v)
section
variable {P : Program} {G : Nat → Option (List D)} {X : Ctx} {n : Nat} {σ τ σ' : St} {v : SV}
theorem dOp_DS {op : VOp} {K : St → SV → Prop} (h : dOp P G op σ K) : ∃ σ' v, DS P G op σ σ' v ∧ K σ' v := by
  cases op
  case call f args => obtain ⟨res, v, h1, h2⟩ := h; exact ⟨_, v, ⟨res, h1, rfl⟩, h2⟩
  case callv => exact h.elim
  case isnil => exact h.elim
  all_goals exact (let ⟨r, h1, h2⟩ := h; ⟨r.1, r.2, h1, h2⟩)
theorem DS_p {op : VOp} (hc : clsOf op = .p) (hs : ∀ t ∈ opSl op, σ.slots t = τ.slots t) (e : DS P G op σ σ' v) : σ' = σ ∧ DS P G op τ τ v := by
  cases op <;> simp only [clsOf, reduceCtorEq] at hc <;> exact frame_p (by first | rfl | exact hc) hs e
theorem DS_m {op : VOp} (hc : clsOf op = .m) (hs : ∀ t ∈ opSl op, σ.slots t = τ.slots t) (ho : ObjLe σ τ) (hn : τ.next = σ.next) (e : DS P G op σ σ' v) :
    ∃ res, (makes op = false → res = none) ∧ σ' = addO σ res ∧ DS P G op τ (addO τ res) v := by
  cases op
  case call f args =>
    obtain ⟨res, h, rfl⟩ := e
    refine ⟨res, (fun h => by simp [makes] at h), rfl, res, ?_, rfl⟩
    have hm : args.map (τ.ev G) = args.map (σ.ev G) := map_ev_eq fun x hx t ht => hs t (by simp only [opSl, List.mem_flatMap]; exact ⟨x, hx, ht⟩)
    rw [hm]
    exact ⟨h.1, fun τ' h1 h2 => h.2 τ' (fun u o hu => h1 u o (ho u o hu)) (h2.trans hn)⟩
  all_goals simp only [clsOf, reduceCtorEq] at hc
  all_goals
    rcases frame_m (τ := τ) (by first | rfl | exact hc) (fun f as h => by cases h) hs ho hn e with ⟨rfl, h⟩ | ⟨o, h1, rfl, h⟩
    · exact ⟨none, (fun _ => rfl), rfl, h⟩
    · exact ⟨some o, (fun h0 => by rw [h1] at h0; cases h0), rfl, h⟩
theorem DS_w {op : VOp} (hc : clsOf op = .w) (hs : ∀ t ∈ opSl op, σ.slots t = τ.slots t) (ho : τ.objs = σ.objs) (hn : τ.next = σ.next) (e : DS P G op σ σ' v) :
    DS P G op τ ⟨τ.slots, σ'.objs, σ'.next⟩ v ∧ σ'.slots = σ.slots ∧ (∀ u, σ.objs u = none → u ≠ σ.next → σ'.objs u = none) ∧ (makes op = false → ∀ u, σ.objs u = none → σ'.objs u = none) := by
  cases op
  case callv => exact e.elim
  case isnil => exact e.elim
  all_goals simp only [clsOf, reduceCtorEq] at hc
  all_goals exact (let ⟨h1, h2, _, h3, h4⟩ := frame_w (τ := τ) (by first | rfl | exact hc) hs ho hn e; ⟨h1, h2, h3, h4⟩)
theorem DS_slots {op : VOp} (e : DS P G op σ σ' v) : σ'.slots = σ.slots := by
  cases h : clsOf op with
  | p => rw [(DS_p (τ := σ) h (fun _ _ => rfl) e).1]
  | m => obtain ⟨res, _, rfl, _⟩ := DS_m (τ := σ) h (fun _ _ => rfl) (fun _ _ h => h) rfl e; cases res <;> rfl
  | w => exact (DS_w (τ := σ) h (fun _ _ => rfl) rfl rfl e).2.1

/-- A store into one object, or an append onto one: what else there is does not matter. -/
theorem DS_st {op : VOp} {u : Nat} (hp : ptrId G σ op = some u) (hs : ∀ t ∈ opSl op, σ.slots t = τ.slots t) (ho : ObjLe σ τ) (hn : τ.next = σ.next) (e : DS P G op σ σ' v) :
    ∃ o' res, (makes op = false → res = none) ∧ σ' = addO (σ.setO u o') res ∧ DS P G op τ (addO (τ.setO u o') res) v ∧ σ.objs u ≠ none := by
  cases op <;> simp only [ptrId, reduceCtorEq] at hp
  case st n a x =>
    split at hp
    · rename_i u' i j hpp
      cases hp
      simp only [opSl, List.mem_append] at hs
      replace e : stepF G (.st n a x) σ = some (σ', v) := e
      suffices ∃ o', σ' = σ.setO u (some o') ∧ stepF G (.st n a x) τ = some (τ.setO u (some o'), v) ∧ σ.objs u ≠ none from let ⟨o', h1, h2, h3⟩ := this; ⟨some o', none, fun _ => rfl, h1, h2, h3⟩
      simp only [stepF] at e ⊢
      rw [ev_eq (σ := σ) (x := a) (fun t h => hs t (.inl h)), ev_eq (σ := σ) (x := x) (fun t h => hs t (.inr h))]
      simp only [hpp, Option.bind_some, Option.bind_eq_some_iff] at e ⊢
      obtain ⟨cs, e2, e⟩ := e
      split at e
      · rename_i hl
        simp only [Option.map_eq_some_iff, Prod.mk.injEq] at e; obtain ⟨σ1, e, rfl, rfl⟩ := e
        have key : ∃ o', σ1 = σ.setO u (some o') ∧ τ.stO cs (.q u i j) = some (τ.setO u (some o')) ∧ σ.objs u ≠ none := by
          simp only [St.stO] at e ⊢
          split at e
          · rename_i sz rows hx
            rw [ho.obj hx]
            split at e
            · rename_i r ds h1 h2
              split at e
              · rename_i hle
                simp only [Option.some.injEq] at e
                refine ⟨_, e.symm, ?_, by rw [show σ.objs u = _ from hx]; simp⟩
                simp only [h1, toDs_le ho h2]
                rw [if_pos hle]
              · cases e
            · cases e
          · rename_i cells hx
            rw [ho.obj hx]
            split at e
            · rename_i hle
              simp only [Option.some.injEq] at e
              refine ⟨_, e.symm, ?_, by rw [show σ.objs u = _ from hx]; simp⟩
              simp only
              rw [if_pos hle]
            · cases e
          · rename_i hx
            rw [ho.obj hx]
            split at e
            · rename_i hle
              simp only [Option.some.injEq] at e
              refine ⟨_, e.symm, ?_, by rw [show σ.objs u = _ from hx]; simp⟩
              simp only
              rw [if_pos hle]
            · cases e
          · cases e
        obtain ⟨o', k1, k2, k3⟩ := key
        refine ⟨o', k1, ⟨cs, e2, ?_⟩, k3⟩
        rw [if_pos hl, k2]; rfl
      · cases e
    · cases hp
  case app sz b x y =>
    split at hp
    · rename_i u' off len hx
      cases hp
      simp only [opSl, List.mem_append] at hs
      replace e : stepF G (.app sz b x y) σ = some (σ', v) := e
      suffices ∃ o, σ' = (σ.setO u none).new o ∧ stepF G (.app sz b x y) τ = some ((τ.setO u none).new o, v) ∧ σ.objs u ≠ none from let ⟨o, h1, h2, h3⟩ := this; ⟨none, some o, fun h => (by simp [makes] at h), h1, h2, h3⟩
      simp only [stepF] at e ⊢
      rw [ev_eq (σ := σ) (x := x) (fun t h => hs t (.inl h)), ev_eq (σ := σ) (x := y) (fun t h => hs t (.inr h))]
      simp only [Option.bind_eq_some_iff] at e
      obtain ⟨news, e1, e⟩ := e
      rw [rowsOf_le ho e1]
      simp only [Option.bind_some, hx, St.app] at e ⊢
      split at e
      · rename_i s rows hob
        rw [ho.obj hob]
        split at e
        · rename_i hc
          simp only [Option.some.injEq, Prod.mk.injEq] at e
          obtain ⟨rfl, rfl⟩ := e
          refine ⟨_, rfl, ?_, by rw [show σ.objs u = _ from hob]; simp⟩
          simp only
          rw [if_pos hc]
          simp [St.setO, hn]
        · cases e
      · cases e
    · cases hp
  case appq sz b x y =>
    split at hp
    · rename_i u' off len hx
      cases hp
      simp only [opSl, List.mem_append] at hs
      replace e : stepF G (.appq sz b x y) σ = some (σ', v) := e
      suffices ∃ o, σ' = (σ.setO u none).new o ∧ stepF G (.appq sz b x y) τ = some ((τ.setO u none).new o, v) ∧ σ.objs u ≠ none from let ⟨o, h1, h2, h3⟩ := this; ⟨none, some o, fun h => (by simp [makes] at h), h1, h2, h3⟩
      simp only [stepF] at e ⊢
      rw [ev_eq (σ := σ) (x := x) (fun t h => hs t (.inl h)), ev_eq (σ := σ) (x := y) (fun t h => hs t (.inr h))]
      simp only [Option.bind_eq_some_iff] at e
      obtain ⟨news, e1, e⟩ := e
      rw [rowsOf_le ho e1]
      simp only [Option.bind_some, hx, St.appq] at e ⊢
      split at e
      · rename_i s rows hob
        rw [ho.obj hob]
        split at e
        · rename_i hc
          simp only [Option.some.injEq, Prod.mk.injEq] at e
          obtain ⟨rfl, rfl⟩ := e
          refine ⟨_, rfl, ?_, by rw [show σ.objs u = _ from hob]; simp⟩
          simp only
          rw [if_pos hc]
          simp [St.setO, hn]
        · cases e
      · cases e
    · cases hp
theorem SimW.nx {tm : Array Value} {w : World} {O : Nat → LS} {Im : Nat → Prop} (s : SimW G X σ tm w O Im) (k : Nat) : SimW G X ⟨σ.slots, σ.objs, k⟩ tm w O Im :=
  ⟨s.ext, s.ownlt, s.imlt, s.im0, s.im1, s.dead, s.obj, s.disj, s.slot, s.glob⟩

/-- The machine does it. -/
theorem DS_sound0 {o : Oper} {op : VOp} (hl : lowOp P o = some op.strip) (hdst : o.dst.all (· < n) = true) {a : Act} {w : World} {O : Nat → LS} {Im : Nat → Prop} (s : SimW G X σ a.tmps w O Im) (hf : O σ.next = .free) (hd : a.defers = []) (hs : a.tmps.size = n)
    (e : DS P G op σ σ' v) {next : Act → World → Prop} {Q : Exit → Act → World → Prop}
    (hn : ∀ a' w' O' Im', SimW G X (σ'.putO o.dst v) a'.tmps w' O' Im' → (∀ u, u ≠ σ.next → O u = .free → O' u = .free) → a'.defers = [] → a'.tmps.size = n → next a' w') : o.wp P a w next Q := by
  unfold Oper.wp
  have fin : ∀ {u : Value} {w' : World} {O' : Nat → LS} {Im' : Nat → Prop}, SimW G X σ' a.tmps w' O' Im' → (∀ k, k ≠ σ.next → O k = .free → O' k = .free) → RelV w'.heap Im' O' v u → next (a.put o.dst u) w' := by
    intro u w' O' Im' s' hk r
    cases hdd : o.dst with
    | none => rw [hdd] at hn; exact hn a w' O' Im' s' hk hd hs
    | some t =>
      rw [hdd] at hn hdst
      have ht : t < a.tmps.size := by simpa [hs] using hdst
      exact hn _ w' O' Im' (s'.put ht r) hk hd (by simpa [Act.put] using hs)
  have plain : stepF G op σ = some (σ', v) → o.upon P a next Q ((execOp a.eval o).run P w) := by
    intro e
    have use : ∀ {u : Value} {w' : World}, Post G X a.tmps σ O σ' v u w' → next (a.put o.dst u) w' := by
      rintro u w' ⟨O', Im', s', r, hk⟩
      refine fin s' ?_ r
      intro k hk1 hk2
      rcases hk with ⟨_, h⟩ | ⟨_, h⟩
      · exact h k hk2
      · exact h k hk1 hk2
    rcases snd_step' hl s hf e with ⟨u, w', h1, h2⟩ | ⟨w', h1, h2⟩
    · rw [h1, Oper.upon_value]; exact use h2
    · rw [h1, Oper.upon_skip]; exact use h2
  cases op
  case call f args =>
    replace hl : lowOp P o = some (.call f args) := hl
    obtain ⟨res, h, rfl⟩ := e
    obtain ⟨c, hop, hc, ha⟩ := low_call hl
    rw [exec_callv (caps := #[]) hop hc rfl h.1, Oper.upon_enter]
    have := h.2 σ (fun _ _ h => h) rfl X a.tmps w O Im (c.args.map a.eval ++ #[]).toList s hf (by simpa using lowArgs_rel s ha)
    rw [Array.toArray_toList] at this
    refine Calls.mono this ?_
    rintro e w' ⟨u, O', Im', rfl, s', r, hk⟩
    exact fin s' hk r
  case callv => exact e.elim
  case isnil => exact e.elim
  all_goals exact plain e
theorem DS_sound {o : Oper} {op : VOp} (hl : lowOpB P o = some op.strip) (hdst : o.dst.all (· < n) = true) {a : Act} {w : World} {O : Nat → LS} {Im : Nat → Prop} (s : SimW G X σ a.tmps w O Im) (hf : O σ.next = .free) (hd : a.defers = []) (hs : a.tmps.size = n)
    (e : DS P G op σ σ' v) {next : Act → World → Prop} {Q : Exit → Act → World → Prop}
    (hn : ∀ a' w' O' Im', SimW G X (σ'.putO o.dst v) a'.tmps w' O' Im' → (∀ u, u ≠ σ.next → O u = .free → O' u = .free) → a'.defers = [] → a'.tmps.size = n → next a' w') : o.wp P a w next Q := by
  rcases lowOpB_inv hl with hl | hb
  · exact DS_sound0 hl hdst s hf hd hs e hn
  · rw [strip_bad hb] at e
    cases e

end
/-- The greatest number below n with a property. -/
noncomputable def lastIn (p : Nat → Prop) : Nat → Option Nat
  | 0 => none
  | n + 1 => open Classical in if p n then some n else lastIn p n
theorem lastIn_congr {p q : Nat → Prop} : ∀ {n : Nat}, (∀ i, i < n → (p i ↔ q i)) → lastIn p n = lastIn q n
  | 0, _ => rfl
  | n + 1, h => by
    have h1 := h n (by omega)
    have ih := lastIn_congr (p := p) (q := q) (n := n) fun i hi => h i (by omega)
    simp only [lastIn]
    by_cases hp : p n
    · rw [if_pos hp, if_pos (h1.1 hp)]
    · rw [if_neg hp, if_neg (fun hq => hp (h1.2 hq)), ih]
theorem lastIn_none {p : Nat → Prop} : ∀ {n : Nat}, (∀ i, i < n → ¬ p i) → lastIn p n = none
  | 0, _ => rfl
  | n + 1, h => by simp only [lastIn]; rw [if_neg (h n (by omega)), lastIn_none fun i hi => h i (by omega)]
theorem lastIn_is {p : Nat → Prop} {k : Nat} : ∀ {n : Nat}, k < n → p k → (∀ i, k < i → i < n → ¬ p i) → lastIn p n = some k
  | 0, h, _, _ => by omega
  | n + 1, h, hp, hh => by
    simp only [lastIn]
    by_cases e : k = n
    · subst e; rw [if_pos hp]
    · rw [if_neg (hh n (by omega) (by omega)), lastIn_is (by omega) hp fun i h1 h2 => hh i h1 (by omega)]

/-- One place of a region: what it comes to in the text's order. -/
def DStep (P : Program) (G : Nat → Option (List D)) (base : Nat) (d : DOper) (i : Nat) (σ σ1 : St) (v : SV) : Prop :=
  (∃ t want b, d.o.guard = some (t, want) ∧ grd (σ.get t) = some b ∧ b ≠ some want ∧ chkH (base + i) d.prv d.hido = true ∧ v = .und ∧ σ1 = σ.putO d.o.dst .und) ∨
  ((d.o.guard = none ∨ ∃ t want, d.o.guard = some (t, want) ∧ grd (σ.get t) = some (some want)) ∧ chkB G d.prv d.hido (base + i) d.o.op (σ.vis base i d.hid d.hido) = true ∧ ∃ σ', DS P G d.o.op (σ.vis base i d.hid d.hido) σ' v ∧ σ1 = (σ.back base d.hid d.hido σ').putO d.o.dst v)
theorem trace_of {P : Program} {G : Nat → Option (List D)} {base : Nat} {Q : Ex → St → Prop} : ∀ (ds : List DOper) (i : Nat) (σ : St), wDraw P G base i ds Q σ →
    ∃ (tr : Nat → St) (val : Nat → SV), tr i = σ ∧ (∀ (k : Nat) (d : DOper), ds[k]? = some d → DStep P G base d (i + k) (tr (i + k)) (tr (i + k + 1)) (val (i + k))) ∧ Q .normal ⟨(tr (i + ds.length)).slots, (tr (i + ds.length)).objs, base + (i + ds.length)⟩
  | [], i, σ, h => ⟨fun _ => σ, fun _ => .dead, rfl, fun k d hd => by simp at hd, h⟩
  | d :: ds, i, σ, h => by
    have glue : ∀ (σ1 : St) (v : SV), DStep P G base d i σ σ1 v → wDraw P G base (i + 1) ds Q σ1 →
        ∃ (tr : Nat → St) (val : Nat → SV), tr i = σ ∧ (∀ (k : Nat) (d' : DOper), (d :: ds)[k]? = some d' → DStep P G base d' (i + k) (tr (i + k)) (tr (i + k + 1)) (val (i + k))) ∧ Q .normal ⟨(tr (i + (d :: ds).length)).slots, (tr (i + (d :: ds).length)).objs, base + (i + (d :: ds).length)⟩ := by
      intro σ1 v hs hw
      obtain ⟨tr, val, h1, h2, h3⟩ := trace_of ds (i + 1) σ1 hw
      refine ⟨fun k => if k = i then σ else tr k, fun k => if k = i then v else val k, by simp, ?_, ?_⟩
      · intro k d' hd
        cases k with
        | zero => simp at hd; subst hd; simpa [h1] using hs
        | succ k =>
          have := h2 k d' (by simpa using hd)
          have e1 : i + 1 + k = i + (k + 1) := by omega
          rw [e1] at this
          have e2 : ¬ (i + (k + 1) = i) := by omega
          have e3 : ¬ (i + (k + 1) + 1 = i) := by omega
          simpa [e2, e3] using this
      · have e1 : i + (d :: ds).length = i + 1 + ds.length := by simp; omega
        have e2 : ¬ (i + 1 + ds.length = i) := by omega
        rw [e1]
        simp only [e2, if_false]
        exact h3
    simp only [wDraw] at h
    split at h
    · rename_i hg
      obtain ⟨hck, h⟩ := h
      obtain ⟨σ', v, h1, h2⟩ := dOp_DS h
      exact glue _ v (.inr ⟨.inl hg, hck, σ', h1, rfl⟩) h2
    · rename_i t want hg
      obtain ⟨hck0, b, hb, h⟩ := h
      split at h
      · rename_i hbw
        subst hbw
        obtain ⟨hck, h⟩ := h
        obtain ⟨σ', v, h1, h2⟩ := dOp_DS h
        exact glue _ v (.inr ⟨.inr ⟨t, want, hg, hb⟩, hck, σ', h1, rfl⟩) h2
      · rename_i hbw
        exact glue _ .und (.inl ⟨t, want, b, hg, hb, hbw, hck0, rfl, rfl⟩) h

/-- A region: what its places hang on. -/
structure Reg0 (N : Nat) (dir : Nat → List Nat) (ds : Nat → DOper) : Prop where
  pre : ∀ j, j < N → ∀ k ∈ (ds j).pre, k < j ∧ (k ∈ dir j ∨ ∃ m ∈ dir j, k ∈ (ds m).pre)
  dirlt : ∀ j, j < N → ∀ k ∈ dir j, k < j
  conf : ∀ j, j < N → ∀ i, i < j → slotConf (ds i).o (ds j).o = true → i ∈ (ds j).pre
  hid : ∀ j, j < N → ∀ i, i ∈ (ds j).hid ↔ i < j ∧ makes (ds i).o.op = true ∧ i ∉ (ds j).pre
structure Reg (N : Nat) (dir : Nat → List Nat) (ds : Nat → DOper) : Prop extends Reg0 N dir ds where
  mem : ∀ j, j < N → ∀ i, i < j → memConfD (ds i) (ds j) = true → i ∈ (ds j).pre
  prv : ∀ j, j < N → ∀ u, (ds j).prv = some u → clsOf (ds j).o.op = .w ∧ u ∉ (ds j).hido
  gen : ∀ j, j < N → (ds j).prv = none → clsOf (ds j).o.op = .w → (ds j).hido = []

theorem clsOf_strip (op : VOp) : clsOf op.strip = clsOf op := by cases op <;> rfl
theorem makes_strip (op : VOp) : makes op.strip = makes op := by cases op <;> rfl
theorem opSl_strip (op : VOp) : opSl op.strip = opSl op := by cases op <;> rfl
theorem slotConf_strip (a b : VOper) : slotConf a.strip b.strip = slotConf a b := by simp only [slotConf, slOf, VOper.strip, opSl_strip]
theorem Reg0.unstrip {N : Nat} {dir : Nat → List Nat} {ds ds0 : Nat → DOper} (R : Reg0 N dir ds0) (h : ∀ j, j < N → (ds j).strip = ds0 j) : Reg0 N dir ds := by
  have hp : ∀ j, j < N → (ds0 j).pre = (ds j).pre := fun j hj => by rw [← h j hj]; rfl
  have hh : ∀ j, j < N → (ds0 j).hid = (ds j).hid := fun j hj => by rw [← h j hj]; rfl
  have ho : ∀ j, j < N → (ds0 j).o = (ds j).o.strip := fun j hj => by rw [← h j hj]; rfl
  refine ⟨fun j hj k hk => ?_, R.dirlt, fun j hj i hij hc => ?_, fun j hj i => ?_⟩
  · rw [← hp j hj] at hk
    obtain ⟨g1, g2⟩ := R.pre j hj k hk
    exact ⟨g1, g2.imp id fun ⟨m, q1, q2⟩ => ⟨m, q1, by rw [← hp m (by have := R.dirlt j hj m q1; omega)]; exact q2⟩⟩
  · rw [← hp j hj]
    refine R.conf j hj i hij ?_
    rw [ho j hj, ho i (by omega), slotConf_strip]; exact hc
  · rw [← hh j hj, ← hp j hj, R.hid j hj i]
    constructor
    · rintro ⟨a, b, c⟩; rw [ho i (by omega)] at b; exact ⟨a, by rw [← makes_strip]; exact b, c⟩
    · rintro ⟨a, b, c⟩; refine ⟨a, ?_, c⟩; rw [ho i (by omega)]; show makes (ds i).o.op.strip = true; rw [makes_strip]; exact b
theorem Reg.of {dl : List DOper} {dir : Nat → List Nat} (R : Reg0 dl.length dir (fun j => dl.getD j default)) (h : okD dl = true) : Reg dl.length dir (fun j => dl.getD j default) := by
  have hj : ∀ j, j < dl.length → _ := fun j hj => List.all_eq_true.1 h j (List.mem_range.2 hj)
  simp only [Bool.and_eq_true, List.all_eq_true, List.mem_range, Bool.or_eq_true, Bool.not_eq_true', hasB_iff] at hj
  refine { R with mem := fun j hjN i hij hc => ?_, prv := fun j hjN u hu => ?_, gen := fun j hjN hn hw => ?_ }
  · rcases (hj j hjN).2 i hij with h | h
    · rw [hc] at h; cases h
    · exact h
  · have := (hj j hjN).1
    rw [hu] at this
    simp only [Bool.and_eq_true, beq_iff_eq, Bool.not_eq_true', List.contains_eq_mem, decide_eq_false_iff_not] at this
    exact this
  · have := (hj j hjN).1
    rw [hn] at this
    simp only [hw, bne_self_eq_false, Bool.false_or, List.isEmpty_iff] at this
    exact this

section
variable {P : Program} {G : Nat → Option (List D)} {X : Ctx} {n : Nat} {N base : Nat} {dir : Nat → List Nat} {ds : Nat → DOper} {tr : Nat → St} {val : Nat → SV} {S : Nat → Prop}

theorem makes_mem {a : VOper} (h : makes a.op = true) : clsOf a.op ≠ .p := by
  cases ho : a.op <;> rw [ho] at h <;> simp [makes] at h <;> simp [clsOf, clsApp_np]
/-- May a place write an object? -/
def wr (ds : Nat → DOper) (i u : Nat) : Prop := clsOf (ds i).o.op = .w ∧ ((ds i).prv = none ∨ (ds i).prv = some u)
/-- One that writes and one that sees what it writes are ordered. -/
theorem Reg.ordw (R : Reg N dir ds) {i j u : Nat} (hj : j < N) (hij : i < j) (hw : wr ds i u) (hc : clsOf (ds j).o.op ≠ .p) (hu : u ∉ (ds j).hido) (hg : (ds i).prv = none → (ds j).hido = [] ∨ True) : i ∈ (ds j).pre := by
  refine R.mem j hj i hij ?_
  unfold memConfD sepD
  rcases hw.2 with h | h
  · simp [hw.1, h, hc]
  · simp [hw.1, h, hc, hu]
theorem Reg.ordr (R : Reg N dir ds) {i j u : Nat} (hj : j < N) (hij : i < j) (hw : wr ds j u) (hc : clsOf (ds i).o.op ≠ .p) (hu : u ∉ (ds i).hido) : i ∈ (ds j).pre := by
  refine R.mem j hj i hij ?_
  unfold memConfD sepD
  rcases hw.2 with h | h
  · simp [hw.1, h, hc]
  · simp [hw.1, h, hc, hu]
/-- What writes sees what it writes. -/
theorem Reg.wr_sees (R : Reg N dir ds) {j u : Nat} (hj : j < N) (hw : wr ds j u) : u ∉ (ds j).hido := by
  rcases hw.2 with h | h
  · rw [R.gen j hj h hw.1]; simp
  · exact (R.prv j hj u h).2
theorem Reg.hid_is (R : Reg N dir ds) {j : Nat} (hj : j < N) {u : Nat} : isHid base (ds j).hid (ds j).hido u = true ↔ (∃ i, i < j ∧ makes (ds i).o.op = true ∧ i ∉ (ds j).pre ∧ u = base + i) ∨ u ∈ (ds j).hido := by
  unfold isHid
  rw [Bool.or_eq_true, List.any_eq_true]
  refine or_congr ?_ (by simp)
  constructor
  · rintro ⟨i, hi, he⟩
    obtain ⟨h1, h2, h3⟩ := (R.hid j hj i).1 hi
    exact ⟨i, h1, h2, h3, by simpa using (beq_iff_eq.1 he).symm⟩
  · rintro ⟨i, h1, h2, h3, rfl⟩
    exact ⟨i, (R.hid j hj i).2 ⟨h1, h2, h3⟩, by simp⟩
/-- What may write anything sees all that was made. -/
theorem Reg.hid_w (R : Reg N dir ds) {j : Nat} (hj : j < N) (hw : clsOf (ds j).o.op = .w) (hn : (ds j).prv = none) : ∀ u, isHid base (ds j).hid (ds j).hido u = false := by
  intro u
  rw [Bool.eq_false_iff]
  intro h
  rcases (R.hid_is hj).1 h with ⟨i, h1, h2, h3, _⟩ | h
  · refine h3 (R.mem j hj i h1 ?_)
    unfold memConfD sepD
    have := makes_mem h2
    simp [hw, hn, this]
  · rw [R.gen j hj hn hw] at h; simp at h
theorem chkH_ok {own : Nat} {prv : Option Nat} {hido : List Nat} (h : chkH own prv hido = true) : (∀ u ∈ hido, u ≠ own) ∧ ∀ u, prv = some u → u < own := by
  unfold chkH at h
  rw [Bool.and_eq_true, List.all_eq_true] at h
  refine ⟨fun u hu => by simpa using h.1 u hu, fun u hu => ?_⟩
  have := h.2
  rw [hu] at this
  simpa using this
theorem chkB_ok {own : Nat} {σ : St} {op : VOp} {prv : Option Nat} {hido : List Nat} (h : chkB G prv hido own op σ = true) : chkH own prv hido = true ∧ ∀ u, prv = some u → ptrId G σ op = some u := by
  unfold chkB at h
  rw [Bool.and_eq_true] at h
  refine ⟨h.1, fun u hu => ?_⟩
  have := h.2
  rw [hu] at this
  simpa using this
theorem DStep.chk {d : DOper} {i : Nat} {σ σ1 : St} {v : SV} (h : DStep P G base d i σ σ1 v) : (∀ u ∈ d.hido, u ≠ base + i) ∧ ∀ u, d.prv = some u → u < base + i := by
  rcases h with ⟨_, _, _, _, _, _, h, _⟩ | ⟨_, h, _⟩
  · exact chkH_ok h
  · exact chkH_ok (chkB_ok h).1

/-- The slots that a set of places leaves. -/
noncomputable def slotsAt (N : Nat) (ds : Nat → DOper) (val : Nat → SV) (σ : St) (S : Nat → Prop) (u : Nat) : SV :=
  match lastIn (fun i => S i ∧ (ds i).o.dst = some u) N with | some i => val i | none => σ.slots u
def Steps' (P : Program) (G : Nat → Option (List D)) (base N : Nat) (ds : Nat → DOper) (tr : Nat → St) (val : Nat → SV) : Prop := ∀ j, j < N → DStep P G base (ds j) j (tr j) (tr (j + 1)) (val j)
theorem putO_slots (σ : St) (d : Option Nat) (v : SV) (u : Nat) : (σ.putO d v).slots u = if d = some u then v else σ.slots u := by
  cases d with
  | none => simp [St.putO]
  | some t => simp only [St.putO, St.put, Option.some.injEq]; by_cases h : u = t <;> simp [h, eq_comm]
theorem DStep.slots {d : DOper} {i : Nat} {σ σ1 : St} {v : SV} (h : DStep P G base d i σ σ1 v) (u : Nat) : σ1.slots u = if d.o.dst = some u then v else σ.slots u := by
  rcases h with ⟨t, want, b, _, _, _, _, rfl, rfl⟩ | ⟨_, _, σ', h1, rfl⟩
  · exact putO_slots _ _ _ _
  · rw [putO_slots]
    have : (σ.back base d.hid d.hido σ').slots = σ.slots := by show σ'.slots = _; rw [DS_slots h1]; rfl
    rw [this]
theorem slots_tr (hs : Steps' P G base N ds tr val) : ∀ j, j ≤ N → (tr j).slots = slotsAt N ds val (tr 0) (· < j)
  | 0, _ => by funext u; simp only [slotsAt]; rw [lastIn_none (fun i _ h => by have := h.1; omega)]
  | j + 1, hj => by
    funext u
    rw [(hs j (by omega)).slots u, slots_tr hs j (by omega)]
    simp only [slotsAt]
    by_cases h : (ds j).o.dst = some u
    · rw [if_pos h, lastIn_is (p := fun i => i < j + 1 ∧ (ds i).o.dst = some u) (k := j) (by omega) ⟨by omega, h⟩ (fun i h1 _ h2 => by omega)]
    · rw [if_neg h, lastIn_congr (p := fun i => i < j ∧ (ds i).o.dst = some u) (q := fun i => i < j + 1 ∧ (ds i).o.dst = some u)]
      intro i _
      constructor
      · rintro ⟨h1, h2⟩; exact ⟨by omega, h2⟩
      · rintro ⟨h1, h2⟩
        refine ⟨?_, h2⟩
        rcases Nat.lt_or_ge i j with h3 | h3
        · exact h3
        · have : i = j := by omega
          subst this; exact absurd h2 h

theorem putO_objs (σ : St) (d : Option Nat) (v : SV) : (σ.putO d v).objs = σ.objs := by cases d <;> rfl
theorem addO_objs (σ : St) (res : Option VO) (u : Nat) (h : u ≠ σ.next) : (addO σ res).objs u = σ.objs u := by
  cases res with
  | none => rfl
  | some o => simp [addO, St.new, h]
/-- What becomes of the objects at one place. -/
theorem DStep.objs (R : Reg N dir ds) {j : Nat} (hj : j < N) {σ σ1 : St} {v : SV} (h : DStep P G base (ds j) j σ σ1 v) :
    (∀ u, ¬ wr ds j u → u ≠ base + j → σ1.objs u = σ.objs u) ∧ (makes (ds j).o.op = false → ∀ u, ¬ wr ds j u → σ1.objs u = σ.objs u) ∧
      (∀ u, u ≠ base + j → σ.objs u = none → σ1.objs u = none) ∧ (makes (ds j).o.op = false → ∀ u, σ.objs u = none → σ1.objs u = none) := by
  rcases h with ⟨t, want, b, _, _, _, _, rfl, rfl⟩ | ⟨_, hck, σ', h1, rfl⟩
  · rw [putO_objs]; exact ⟨fun _ _ _ => rfl, fun _ _ _ => rfl, fun _ _ h => h, fun _ _ h => h⟩
  · rw [putO_objs]
    cases hc : clsOf (ds j).o.op with
    | w =>
      cases hprv : (ds j).prv with
      | none =>
        have hh := R.hid_w (base := base) hj hc hprv
        obtain ⟨_, _, h3, h4⟩ := DS_w (τ := σ.vis base j (ds j).hid (ds j).hido) hc (fun _ _ => rfl) rfl rfl h1
        have hb : (σ.back base (ds j).hid (ds j).hido σ').objs = σ'.objs := by funext u; simp [St.back, hh]
        have hv : ∀ u, (σ.vis base j (ds j).hid (ds j).hido).objs u = σ.objs u := fun u => by simp [St.vis, hh]
        rw [hb]
        have hwr : ∀ u, wr ds j u := fun u => ⟨hc, .inl hprv⟩
        exact ⟨fun u h => absurd (hwr u) h, fun _ u h => absurd (hwr u) h, fun u h5 h6 => h3 u (by rw [hv]; exact h6) h5, fun h5 u h6 => h4 h5 u (by rw [hv]; exact h6)⟩
      | some u0 =>
        have hp := (chkB_ok hck).2 u0 hprv
        have hu0 : u0 < base + j := (chkH_ok (chkB_ok hck).1).2 u0 hprv
        obtain ⟨o', res, hm, rfl, _, hne⟩ := DS_st (τ := σ.vis base j (ds j).hid (ds j).hido) hp (fun _ _ => rfl) (fun _ _ h => h) rfl h1
        have hvis : isHid base (ds j).hid (ds j).hido u0 = false := by
          rw [Bool.eq_false_iff]; intro h
          exact hne (by simp [St.vis, h])
        have h0 : σ.objs u0 ≠ none := by simpa [St.vis, hvis] using hne
        have hb : ∀ u, u ≠ u0 → u ≠ base + j → (σ.back base (ds j).hid (ds j).hido (addO ((σ.vis base j (ds j).hid (ds j).hido).setO u0 o') res)).objs u = σ.objs u := by
          intro u hu hu2
          simp only [St.back]
          split
          · rfl
          · rename_i hh
            rw [addO_objs _ _ _ hu2]
            simp [St.setO, hu, St.vis, hh]
        have hb2 : makes (ds j).o.op = false → ∀ u, u ≠ u0 → (σ.back base (ds j).hid (ds j).hido (addO ((σ.vis base j (ds j).hid (ds j).hido).setO u0 o') res)).objs u = σ.objs u := by
          intro hmk u hu
          rw [hm hmk]
          simp only [St.back, addO, St.setO, hu, if_false, St.vis]
          split <;> rfl
        have hwu : ∀ u, ¬ wr ds j u → u ≠ u0 := fun u h e => h ⟨hc, .inr (by rw [e]; exact hprv)⟩
        refine ⟨fun u h h2 => hb u (hwu u h) h2, fun hmk u h => hb2 hmk u (hwu u h), fun u h2 h => ?_, fun hmk u h => ?_⟩
        · by_cases e : u = u0
          · subst e; exact absurd h h0
          · rw [hb u e h2]; exact h
        · by_cases e : u = u0
          · subst e; exact absurd h h0
          · rw [hb2 hmk u e]; exact h
    | p =>
      obtain ⟨rfl, _⟩ := DS_p (τ := σ.vis base j (ds j).hid (ds j).hido) hc (fun _ _ => rfl) h1
      have hb : (σ.back base (ds j).hid (ds j).hido (σ.vis base j (ds j).hid (ds j).hido)).objs = σ.objs := by funext u; simp only [St.back, St.vis]; split <;> rfl
      rw [hb]
      exact ⟨fun _ _ _ => rfl, fun _ _ _ => rfl, fun _ _ h => h, fun _ _ h => h⟩
    | m =>
      obtain ⟨res, h2, rfl, _⟩ := DS_m (τ := σ.vis base j (ds j).hid (ds j).hido) hc (fun _ _ => rfl) (fun _ _ h => h) rfl h1
      have hb : ∀ u, u ≠ base + j → (σ.back base (ds j).hid (ds j).hido (addO (σ.vis base j (ds j).hid (ds j).hido) res)).objs u = σ.objs u := by
        intro u hu
        simp only [St.back]
        split
        · rfl
        · rename_i hh
          rw [addO_objs _ _ _ hu]
          simp [St.vis, hh]
      have hb2 : makes (ds j).o.op = false → (σ.back base (ds j).hid (ds j).hido (addO (σ.vis base j (ds j).hid (ds j).hido) res)).objs = σ.objs := by
        intro hm
        rw [h2 hm]
        funext u
        simp only [St.back, addO, St.vis]
        split <;> rfl
      exact ⟨fun u _ hu => hb u hu, fun hm u _ => by rw [hb2 hm], fun u hu h => by rw [hb u hu]; exact h, fun hm u h => by rw [hb2 hm]; exact h⟩
theorem objs_none (R : Reg N dir ds) (hs : Steps' P G base N ds tr val) (h0 : ∀ u, base ≤ u → (tr 0).objs u = none) : ∀ j, j ≤ N → ∀ i, j ≤ i → (tr j).objs (base + i) = none
  | 0, _, i, _ => h0 _ (by omega)
  | j + 1, hj, i, hi => ((hs j (by omega)).objs R (by omega)).2.2.1 _ (by omega) (objs_none R hs h0 j (by omega) i (by omega))
theorem objs_none2 (R : Reg N dir ds) (hs : Steps' P G base N ds tr val) (h0 : ∀ u, base ≤ u → (tr 0).objs u = none) {i : Nat} (hm : makes (ds i).o.op = false) : ∀ j, j ≤ N → (tr j).objs (base + i) = none
  | 0, _ => h0 _ (by omega)
  | j + 1, hj => by
    by_cases e : i = j
    · subst e; exact ((hs i (by omega)).objs R (by omega)).2.2.2 hm _ (objs_none2 R hs h0 hm i (by omega))
    · exact ((hs j (by omega)).objs R (by omega)).2.2.1 _ (by omega) (objs_none2 R hs h0 hm j (by omega))
/-- What is nothing stays so. -/
theorem objs_none3 (R : Reg N dir ds) (hs : Steps' P G base N ds tr val) {j : Nat} (h1 : (tr (j + 1)).objs (base + j) = none) : ∀ d, j + 1 + d ≤ N → (tr (j + 1 + d)).objs (base + j) = none
  | 0, _ => h1
  | d + 1, hd => ((hs (j + 1 + d) (by omega)).objs R (by omega)).2.2.1 _ (by omega) (objs_none3 R hs h1 d (by omega))
/-- Between two places where nothing writes it. -/
theorem objs_between (R : Reg N dir ds) (hs : Steps' P G base N ds tr val) {u : Nat} : ∀ (d j : Nat), j + d ≤ N → (∀ k, j ≤ k → k < j + d → ¬ wr ds k u ∧ (u ≠ base + k ∨ makes (ds k).o.op = false)) → (tr (j + d)).objs u = (tr j).objs u
  | 0, j, _, _ => rfl
  | d + 1, j, hj, h => by
    have ih := objs_between R hs d j (by omega) fun k h1 h2 => h k h1 (by omega)
    obtain ⟨g1, g2⟩ := h (j + d) (by omega) (by omega)
    have st := (hs (j + d) (by omega)).objs R (by omega)
    rw [show j + (d + 1) = j + d + 1 from by omega]
    rcases g2 with g2 | g2
    · rw [st.1 u g1 g2, ih]
    · rw [st.2.1 g2 u g1, ih]
end
/-- The objects that a set of places leaves; m u: the first place that may write u and is not among them. -/
noncomputable def objsAt (N base : Nat) (tr : Nat → St) (S : Nat → Prop) (m : Nat → Nat) (u : Nat) : Option VO :=
  open Classical in if ∃ i, i < N ∧ u = base + i ∧ ¬ S i then none else (tr (m u)).objs u
structure Down (N : Nat) (ds : Nat → DOper) (S : Nat → Prop) (m : Nat → Nat) : Prop where
  down : ∀ j, j < N → S j → ∀ k ∈ (ds j).pre, S k
  le : ∀ u, m u ≤ N
  below : ∀ u i, i < m u → wr ds i u → S i
  at_ : ∀ u, m u < N → wr ds (m u) u ∧ ¬ S (m u)
theorem next_w (N : Nat) (ds : Nat → DOper) (S : Nat → Prop) (u : Nat) : ∀ d s, s + d = N → ∃ m, s ≤ m ∧ m ≤ N ∧ (∀ i, s ≤ i → i < m → wr ds i u → S i) ∧ (m < N → wr ds m u ∧ ¬ S m)
  | 0, s, h => ⟨s, Nat.le_refl _, by omega, fun i h1 h2 => by omega, fun h1 => by omega⟩
  | d + 1, s, h => by
    by_cases hw : wr ds s u ∧ ¬ S s
    · exact ⟨s, Nat.le_refl _, by omega, fun i h1 h2 => by omega, fun _ => hw⟩
    · obtain ⟨m, h1, h2, h3, h4⟩ := next_w N ds S u d (s + 1) (by omega)
      refine ⟨m, by omega, h2, fun i g1 g2 g3 => ?_, h4⟩
      by_cases e : i = s
      · subst e; exact Classical.byContradiction fun hn => hw ⟨g3, hn⟩
      · exact h3 i (by omega) g2 g3

section
variable {P : Program} {G : Nat → Option (List D)} {X : Ctx} {n : Nat} {N base : Nat} {dir : Nat → List Nat} {ds : Nat → DOper} {tr : Nat → St} {val : Nat → SV} {S : Nat → Prop} {m : Nat → Nat} {j : Nat}

theorem slotConf_left {a b : VOper} {d : Nat} (h : a.dst = some d) (hd : d ∈ slOf b ∨ b.dst = some d) : slotConf a b = true := by
  unfold slotConf
  rw [h]
  simp only [Option.any_some, Bool.or_eq_true]
  left
  rcases hd with hd | hd
  · left; simpa using hd
  · right; simp [hd]
theorem slotConf_right {a b : VOper} {d : Nat} (h : b.dst = some d) (hd : d ∈ slOf a) : slotConf a b = true := by
  unfold slotConf
  rw [h]
  simp only [Option.any_some, Bool.or_eq_true]
  right
  simpa using hd
theorem slots_see (R : Reg N dir ds) (hs : Steps' P G base N ds tr val) (dn : Down N ds S m) (hj : j < N) (hnj : ¬ S j) (hp : ∀ k ∈ (ds j).pre, S k) {t : Nat} (ht : t ∈ slOf (ds j).o) : slotsAt N ds val (tr 0) S t = (tr j).slots t := by
  rw [slots_tr hs j (by omega)]
  simp only [slotsAt]
  rw [lastIn_congr (p := fun i => S i ∧ (ds i).o.dst = some t) (q := fun i => i < j ∧ (ds i).o.dst = some t)]
  intro i hi
  constructor
  · rintro ⟨h1, h2⟩
    refine ⟨?_, h2⟩
    rcases Nat.lt_trichotomy i j with h | h | h
    · exact h
    · subst h; exact absurd h1 hnj
    · exact absurd (dn.down i hi h1 j (R.conf i hi j h (by rw [slotConf_right h2 ht]))) hnj
  · rintro ⟨h1, h2⟩
    exact ⟨hp i (R.conf j hj i h1 (by rw [slotConf_left h2 (.inl ht)])), h2⟩
theorem slots_put (R : Reg N dir ds) (dn : Down N ds S m) (hj : j < N) (hnj : ¬ S j) (u : Nat) :
    slotsAt N ds val (tr 0) (fun i => S i ∨ i = j) u = if (ds j).o.dst = some u then val j else slotsAt N ds val (tr 0) S u := by
  simp only [slotsAt]
  by_cases h : (ds j).o.dst = some u
  · rw [if_pos h, lastIn_is (p := fun i => (S i ∨ i = j) ∧ (ds i).o.dst = some u) (k := j) hj ⟨.inr rfl, h⟩]
    rintro i h1 h2 ⟨h3 | h3, h4⟩
    · exact hnj (dn.down i h2 h3 j (R.conf i h2 j h1 (by rw [slotConf_left h (.inr h4)])))
    · omega
  · rw [if_neg h, lastIn_congr (p := fun i => (S i ∨ i = j) ∧ (ds i).o.dst = some u) (q := fun i => S i ∧ (ds i).o.dst = some u)]
    intro i _
    constructor
    · rintro ⟨h1 | h1, h2⟩
      · exact ⟨h1, h2⟩
      · subst h1; exact absurd h2 h
    · rintro ⟨h1, h2⟩; exact ⟨.inl h1, h2⟩

theorem objsAt_none {u : Nat} (h : ∃ i, i < N ∧ u = base + i ∧ ¬ S i) : objsAt N base tr S m u = none := by simp only [objsAt]; rw [if_pos h]
theorem objsAt_tr {u : Nat} (h : ¬ ∃ i, i < N ∧ u = base + i ∧ ¬ S i) : objsAt N base tr S m u = (tr (m u)).objs u := by simp only [objsAt]; rw [if_neg h]
/-- Away from the new place, nothing turns. -/
theorem objsAt_ne {m' : Nat → Nat} {u : Nat} (h : u ≠ base + j) (hm : m' u = m u) : objsAt N base tr (fun i => S i ∨ i = j) m' u = objsAt N base tr S m u := by
  by_cases hc : ∃ i, i < N ∧ u = base + i ∧ ¬ S i
  · rw [objsAt_none hc]
    obtain ⟨i, h1, h2, h3⟩ := hc
    exact objsAt_none ⟨i, h1, h2, fun h4 => h4.elim h3 fun e => h (by rw [h2, e])⟩
  · rw [objsAt_tr hc, ← hm]
    refine objsAt_tr ?_
    rintro ⟨i, h1, h2, h3⟩
    exact hc ⟨i, h1, h2, fun h4 => h3 (.inl h4)⟩
theorem objsAt_new {m' : Nat → Nat} : objsAt N base tr (fun i => S i ∨ i = j) m' (base + j) = (tr (m' (base + j))).objs (base + j) := by
  refine objsAt_tr ?_
  rintro ⟨i, h1, h2, h3⟩
  exact h3 (.inr (by omega))

/-- What a place sees is there. -/
theorem see_objs (R : Reg N dir ds) (hs : Steps' P G base N ds tr val) (h0 : ∀ u, base ≤ u → (tr 0).objs u = none) (dn : Down N ds S m) (hj : j < N) (hnj : ¬ S j) (hp : ∀ k ∈ (ds j).pre, S k) (hcp : clsOf (ds j).o.op ≠ .p) :
    ∀ u o, ((tr j).vis base j (ds j).hid (ds j).hido).objs u = some o → j ≤ m u ∧ objsAt N base tr S m u = some o ∧ (tr (m u)).objs u = some o := by
  intro u o hu
  have hnh : isHid base (ds j).hid (ds j).hido u = false := by
    rw [Bool.eq_false_iff]
    intro h
    simp [St.vis, h] at hu
  have hu' : (tr j).objs u = some o := by simpa [St.vis, hnh] using hu
  have hno : u ∉ (ds j).hido := by
    intro h
    have := (R.hid_is (base := base) hj).2 (.inr h)
    rw [hnh] at this; cases this
  have hjm : j ≤ m u := by
    rcases Nat.lt_or_ge (m u) j with h | h
    · obtain ⟨k1, k2⟩ := dn.at_ u (by omega)
      exact absurd (hp _ (R.ordw hj h k1 hcp hno (fun _ => .inr trivial))) k2
    · exact h
  have nw : ∀ k, j ≤ k → k < m u → ¬ wr ds k u := by
    intro k h1 h2 h3
    have hS := dn.below u k h2 h3
    have hkN : k < N := by have := dn.le u; omega
    rcases Nat.eq_or_lt_of_le h1 with rfl | h4
    · exact hnj hS
    · exact hnj (dn.down k hkN hS j (R.ordr hkN h4 h3 hcp hno))
  have key : (tr (m u)).objs u = some o := by
    have := objs_between R hs (u := u) (m u - j) j (by have := dn.le u; omega) fun k h1 h2 => ⟨nw k h1 (by omega), .inl (by
      rintro rfl
      rw [objs_none R hs h0 j (by omega) k h1] at hu'; cases hu')⟩
    rw [show j + (m u - j) = m u from by omega] at this
    rw [this]; exact hu'
  refine ⟨hjm, ?_, key⟩
  rw [objsAt_tr]
  · exact key
  · rintro ⟨i, h1, rfl, h3⟩
    have hij : i < j := by
      rcases Nat.lt_or_ge i j with h | h
      · exact h
      · rw [objs_none R hs h0 j (by omega) i h] at hu'; cases hu'
    have hmk : makes (ds i).o.op = true := by
      cases hm : makes (ds i).o.op with
      | true => rfl
      | false => rw [objs_none2 R hs h0 hm j (by omega)] at hu'; cases hu'
    refine h3 (hp i (Classical.byContradiction fun hnp => ?_))
    have := (R.hid_is (base := base) hj).2 (.inl ⟨i, hij, hmk, hnp, rfl⟩)
    rw [hnh] at this; cases this

/-- One place more. -/
theorem step_any (R : Reg N dir ds) (hs : Steps' P G base N ds tr val) (h0 : ∀ u, base ≤ u → (tr 0).objs u = none) (dn : Down N ds S m) (hj : j < N) (hnj : ¬ S j) (hp : ∀ k ∈ (ds j).pre, S k) :
    ∃ m', Down N ds (fun i => S i ∨ i = j) m' ∧
      ((∃ t want b, (ds j).o.guard = some (t, want) ∧ grd (slotsAt N ds val (tr 0) S t) = some b ∧ b ≠ some want ∧ val j = .und ∧ objsAt N base tr (fun i => S i ∨ i = j) m' = objsAt N base tr S m) ∨
       (((ds j).o.guard = none ∨ ∃ t want, (ds j).o.guard = some (t, want) ∧ grd (slotsAt N ds val (tr 0) S t) = some (some want)) ∧
        ∃ T', DS P G (ds j).o.op ⟨slotsAt N ds val (tr 0) S, objsAt N base tr S m, base + j⟩ T' (val j) ∧ T'.slots = slotsAt N ds val (tr 0) S ∧ T'.objs = objsAt N base tr (fun i => S i ∨ i = j) m')) := by
  have hg : ∀ {t : Nat} {want : Bool}, (ds j).o.guard = some (t, want) → slotsAt N ds val (tr 0) S t = (tr j).slots t := fun {t want} h => slots_see R hs dn hj hnj hp (by simp [slOf, h])
  have hsl : ∀ t ∈ opSl (ds j).o.op, ((tr j).vis base j (ds j).hid (ds j).hido).slots t = slotsAt N ds val (tr 0) S t := fun t ht => (slots_see R hs dn hj hnj hp (by simp [slOf, ht])).symm
  have dn' : clsOf (ds j).o.op ≠ .w → Down N ds (fun i => S i ∨ i = j) m := by
    intro hc
    refine ⟨?_, dn.le, fun u i h1 h2 => .inl (dn.below u i h1 h2), fun u h => ⟨(dn.at_ u h).1, ?_⟩⟩
    · rintro i hi (h | rfl) k hk
      · exact .inl (dn.down i hi h k hk)
      · exact .inl (hp k hk)
    · rintro (h1 | h1)
      · exact (dn.at_ u h).2 h1
      · exact hc (h1 ▸ (dn.at_ u h).1.1)
  have step := hs j hj
  -- a new place that nothing else writes
  have hnew : ∀ {m' : Nat → Nat}, (∀ u, m' u ≤ N) → j < m' (base + j) → (∀ k, j < k → k < m' (base + j) → ¬ wr ds k (base + j)) → (tr (m' (base + j))).objs (base + j) = (tr (j + 1)).objs (base + j) := by
    intro m' hle hlt nw
    have := objs_between R hs (u := base + j) (m' (base + j) - (j + 1)) (j + 1) (by have := hle (base + j); omega) fun k h1 h2 => ⟨nw k (by omega) (by omega), .inl (by omega)⟩
    rwa [show j + 1 + (m' (base + j) - (j + 1)) = m' (base + j) from by omega] at this
  cases hc : clsOf (ds j).o.op with
  | p =>
    have hmk : makes (ds j).o.op = false := by
      cases hm : makes (ds j).o.op with
      | false => rfl
      | true => exact absurd hc (makes_mem hm)
    have hob : objsAt N base tr (fun i => S i ∨ i = j) m = objsAt N base tr S m := by
      funext u
      by_cases e : u = base + j
      · subst e
        rw [objsAt_new, objsAt_none ⟨j, hj, rfl, hnj⟩]
        exact objs_none2 R hs h0 hmk _ (dn.le _)
      · exact objsAt_ne e rfl
    refine ⟨m, dn' (by rw [hc]; simp), ?_⟩
    rcases step with ⟨t, want, b, g1, g2, g3, _, g4, _⟩ | ⟨g, _, σ', g1, _⟩
    · exact .inl ⟨t, want, b, g1, by rw [hg g1]; exact g2, g3, g4, hob⟩
    · refine .inr ⟨g.imp id fun ⟨t, want, k1, k2⟩ => ⟨t, want, k1, by rw [hg k1]; exact k2⟩, ⟨slotsAt N ds val (tr 0) S, objsAt N base tr S m, base + j⟩, ?_, rfl, hob.symm⟩
      exact (DS_p (τ := ⟨slotsAt N ds val (tr 0) S, objsAt N base tr S m, base + j⟩) hc hsl g1).2
  | m =>
    have hcp : clsOf (ds j).o.op ≠ .p := by rw [hc]; simp
    have hcw : clsOf (ds j).o.op ≠ .w := by rw [hc]; simp
    refine ⟨m, dn' hcw, ?_⟩
    rcases step with ⟨t, want, b, g1, g2, g3, _, g4, g5⟩ | ⟨g, hck, σ', g1, g5⟩
    · refine .inl ⟨t, want, b, g1, by rw [hg g1]; exact g2, g3, g4, ?_⟩
      funext u
      by_cases e : u = base + j
      · subst e
        rw [objsAt_new, objsAt_none ⟨j, hj, rfl, hnj⟩]
        have e1 : (tr (j + 1)).objs (base + j) = none := by
          rw [g5, putO_objs]; exact objs_none R hs h0 j (by omega) j (Nat.le_refl _)
        rcases Nat.lt_or_ge (m (base + j)) (j + 1) with h | h
        · exact objs_none R hs h0 _ (dn.le _) j (by omega)
        · have := objs_none3 R hs e1 (m (base + j) - (j + 1)) (by have := dn.le (base + j); omega)
          rwa [show j + 1 + (m (base + j) - (j + 1)) = m (base + j) from by omega] at this
      · exact objsAt_ne e rfl
    · have hnob : (base + j) ∉ (ds j).hido := fun h => (chkH_ok (chkB_ok hck).1).1 _ h rfl
      have hjm : j < m (base + j) := by
        rcases Nat.lt_or_ge j (m (base + j)) with h | h
        · exact h
        · have hmN : m (base + j) < N := by omega
          obtain ⟨k1, k2⟩ := dn.at_ _ hmN
          have hne : m (base + j) ≠ j := by intro e; rw [e] at k1; exact hcw k1.1
          exact absurd (hp _ (R.ordw hj (by omega) k1 hcp hnob (fun _ => .inr trivial))) k2
      have nw : ∀ k, j < k → k < m (base + j) → ¬ wr ds k (base + j) := by
        intro k h1 h2 h3
        have hkN : k < N := by have := dn.le (base + j); omega
        exact hnj (dn.down k hkN (dn.below _ k h2 h3) j (R.ordr hkN h1 h3 hcp hnob))
      have hle : ObjLe ((tr j).vis base j (ds j).hid (ds j).hido) ⟨slotsAt N ds val (tr 0) S, objsAt N base tr S m, base + j⟩ :=
        fun u o hu => (see_objs R hs h0 dn hj hnj hp hcp u o hu).2.1
      have nhid : isHid base (ds j).hid (ds j).hido (base + j) = false := by
        rw [Bool.eq_false_iff]
        intro h
        rcases (R.hid_is hj).1 h with ⟨i, h1, _, _, h2⟩ | h
        · omega
        · exact hnob h
      obtain ⟨res, _, rfl, hds⟩ := DS_m hc hsl hle rfl g1
      refine .inr ⟨g.imp id fun ⟨t, want, k1, k2⟩ => ⟨t, want, k1, by rw [hg k1]; exact k2⟩, _, hds, by cases res <;> rfl, ?_⟩
      funext u
      by_cases e : u = base + j
      · subst e
        rw [objsAt_new, hnew dn.le hjm nw, g5, putO_objs]
        simp only [St.back, nhid]
        cases res with
        | none =>
          simp only [addO, St.vis, nhid, Bool.false_eq_true, if_false]
          rw [objsAt_none ⟨j, hj, rfl, hnj⟩, objs_none R hs h0 j (by omega) j (Nat.le_refl _)]
        | some o => simp [addO, St.new, St.vis]
      · rw [objsAt_ne e rfl]
        exact addO_objs ⟨slotsAt N ds val (tr 0) S, objsAt N base tr S m, base + j⟩ res u e
  | w =>
    have hcp : clsOf (ds j).o.op ≠ .p := by rw [hc]; simp
    cases hprv : (ds j).prv with
    | none =>
      have hwr : ∀ u, wr ds j u := fun u => ⟨hc, .inl hprv⟩
      have hido : (ds j).hido = [] := R.gen j hj hprv hc
      have ord1 : ∀ i, i < j → clsOf (ds i).o.op ≠ .p → S i := by
        intro i h1 h2
        refine hp i (R.mem j hj i h1 ?_)
        unfold memConfD sepD
        simp [hc, hprv, h2]
      have ord2 : ∀ k, j < k → k < N → clsOf (ds k).o.op ≠ .p → ¬ S k := by
        intro k h1 h2 h3 h4
        refine hnj (dn.down k h2 h4 j (R.mem k h2 j h1 ?_))
        unfold memConfD sepD
        simp [hc, hprv, h3]
      have hmj : ∀ u, m u = j := by
        intro u
        rcases Nat.lt_trichotomy (m u) j with h | h | h
        · obtain ⟨k1, k2⟩ := dn.at_ u (by omega)
          exact absurd (ord1 _ h (by rw [k1.1]; simp)) k2
        · exact h
        · exact absurd (dn.below u j h (hwr u)) hnj
      have hmk : ∀ i, i < j → ¬ S i → makes (ds i).o.op = false := by
        intro i h1 h2
        cases hm : makes (ds i).o.op with
        | false => rfl
        | true => exact absurd (ord1 i h1 (makes_mem hm)) h2
      have hold : objsAt N base tr S m = (tr j).objs := by
        funext u
        by_cases hx : ∃ i, i < N ∧ u = base + i ∧ ¬ S i
        · rw [objsAt_none hx]
          obtain ⟨i, h1, rfl, h3⟩ := hx
          rcases Nat.lt_or_ge i j with h | h
          · exact (objs_none2 R hs h0 (hmk i h h3) j (by omega)).symm
          · exact (objs_none R hs h0 j (by omega) i h).symm
        · rw [objsAt_tr hx, hmj]
      have hex := fun u => next_w N ds (fun i => S i ∨ i = j) u (N - (j + 1)) (j + 1) (by omega)
      let m' : Nat → Nat := fun u => Classical.choose (hex u)
      have hm' : ∀ u, j + 1 ≤ m' u ∧ m' u ≤ N ∧ (∀ i, j + 1 ≤ i → i < m' u → wr ds i u → S i ∨ i = j) ∧ (m' u < N → wr ds (m' u) u ∧ ¬ (S (m' u) ∨ m' u = j)) := fun u => Classical.choose_spec (hex u)
      have hnew' : objsAt N base tr (fun i => S i ∨ i = j) m' = (tr (j + 1)).objs := by
        funext u
        obtain ⟨w1, w2, w3, w4⟩ := hm' u
        by_cases hx : ∃ i, i < N ∧ u = base + i ∧ ¬ (S i ∨ i = j)
        · rw [objsAt_none hx]
          obtain ⟨i, h1, rfl, h3⟩ := hx
          simp only [not_or] at h3
          rcases Nat.lt_or_ge i (j + 1) with h | h
          · exact (objs_none2 R hs h0 (hmk i (by omega) h3.1) (j + 1) (by omega)).symm
          · exact (objs_none R hs h0 (j + 1) (by omega) i h).symm
        · rw [objsAt_tr hx]
          have := objs_between R hs (u := u) (m' u - (j + 1)) (j + 1) (by omega) fun k h1 h2 => by
            have hkN : k < N := by omega
            constructor
            · intro hw
              rcases w3 k h1 (by omega) hw with h | h
              · exact ord2 k (by omega) hkN (by rw [hw.1]; simp) h
              · omega
            · by_cases e : u = base + k
              · right
                subst e
                cases hm : makes (ds k).o.op with
                | false => rfl
                | true =>
                  exfalso
                  refine hx ⟨k, hkN, rfl, ?_⟩
                  rintro (h | h)
                  · exact ord2 k (by omega) hkN (makes_mem hm) h
                  · omega
              · exact .inl e
          rwa [show j + 1 + (m' u - (j + 1)) = m' u from by omega] at this
      refine ⟨m', ⟨?_, fun u => (hm' u).2.1, ?_, fun u => (hm' u).2.2.2⟩, ?_⟩
      · rintro i hi (h | rfl) k hk
        · exact .inl (dn.down i hi h k hk)
        · exact .inl (hp k hk)
      · intro u i h1 h2
        rcases Nat.lt_or_ge i (j + 1) with h | h
        · rcases Nat.lt_or_ge i j with h3 | h3
          · exact .inl (dn.below u i (by rw [hmj]; exact h3) h2)
          · exact .inr (by omega)
        · exact (hm' u).2.2.1 i h h1 h2
      rcases step with ⟨t, want, b, g1, g2, g3, _, g4, g5⟩ | ⟨g, _, σ', g1, g5⟩
      · refine .inl ⟨t, want, b, g1, by rw [hg g1]; exact g2, g3, g4, ?_⟩
        rw [hnew', hold, g5, putO_objs]
      · have hh := R.hid_w (base := base) hj hc hprv
        have hvo : ((tr j).vis base j (ds j).hid (ds j).hido).objs = (tr j).objs := by funext u; simp [St.vis, hh]
        obtain ⟨k1, k2, _, _⟩ := DS_w (τ := ⟨slotsAt N ds val (tr 0) S, objsAt N base tr S m, base + j⟩) hc hsl (by rw [hvo]; exact hold) rfl g1
        refine .inr ⟨g.imp id fun ⟨t, want, k1, k2⟩ => ⟨t, want, k1, by rw [hg k1]; exact k2⟩, _, k1, rfl, ?_⟩
        rw [hnew', g5, putO_objs]
        funext u
        simp [St.back, hh]
    | some u0 =>
      have hw0 : wr ds j u0 := ⟨hc, .inr hprv⟩
      have hwo : ∀ u, wr ds j u → u = u0 := fun u h => by
        rcases h.2 with h | h
        · rw [hprv] at h; cases h
        · rw [hprv] at h; exact (Option.some.inj h).symm
      have hsee : u0 ∉ (ds j).hido := R.wr_sees hj hw0
      have hmj : m u0 = j := by
        rcases Nat.lt_trichotomy (m u0) j with h | h | h
        · obtain ⟨k1, k2⟩ := dn.at_ u0 (by omega)
          exact absurd (hp _ (R.ordw hj h k1 hcp hsee (fun _ => .inr trivial))) k2
        · exact h
        · exact absurd (dn.below u0 j h hw0) hnj
      obtain ⟨m1, w1, w2, w3, w4⟩ := next_w N ds (fun i => S i ∨ i = j) u0 (N - (j + 1)) (j + 1) (by omega)
      let m' : Nat → Nat := fun u => if u = u0 then m1 else m u
      have hm0 : m' u0 = m1 := if_pos rfl
      have hmn : ∀ u, u ≠ u0 → m' u = m u := fun u h => if_neg h
      have hlt0 : u0 < base + j := step.chk.2 u0 hprv
      have hne0 : u0 ≠ base + j := by omega
      have hnob : (base + j) ∉ (ds j).hido := fun h => step.chk.1 _ h rfl
      have dnn : Down N ds (fun i => S i ∨ i = j) m' := by
        refine ⟨?_, fun u => ?_, fun u i h1 h2 => ?_, fun u h => ?_⟩
        · rintro i hi (h | rfl) k hk
          · exact .inl (dn.down i hi h k hk)
          · exact .inl (hp k hk)
        · by_cases e : u = u0
          · subst e; rw [hm0]; exact w2
          · rw [hmn u e]; exact dn.le u
        · by_cases e : u = u0
          · subst e
            rw [hm0] at h1
            rcases Nat.lt_or_ge i (j + 1) with h | h
            · rcases Nat.lt_or_ge i j with h3 | h3
              · exact .inl (dn.below u i (by rw [hmj]; exact h3) h2)
              · exact .inr (by omega)
            · exact w3 i h h1 h2
          · rw [hmn u e] at h1
            exact .inl (dn.below u i h1 h2)
        · by_cases e : u = u0
          · subst e; rw [hm0] at h ⊢; exact w4 h
          · rw [hmn u e] at h ⊢
            refine ⟨(dn.at_ u h).1, ?_⟩
            rintro (h1 | h1)
            · exact (dn.at_ u h).2 h1
            · exact e (hwo u (h1 ▸ (dn.at_ u h).1))
      have nwk : ∀ k, j < k → k < m1 → ¬ wr ds k u0 := by
        intro k h1 h2 h3
        have hkN : k < N := by omega
        rcases w3 k (by omega) h2 h3 with h | h
        · exact hnj (dn.down k hkN h j (R.ordr hkN h1 h3 hcp hsee))
        · omega
      have hxy : (∃ i, i < N ∧ u0 = base + i ∧ ¬ (S i ∨ i = j)) ↔ ∃ i, i < N ∧ u0 = base + i ∧ ¬ S i := by
        constructor
        · rintro ⟨i, q1, q2, q3⟩; exact ⟨i, q1, q2, fun h => q3 (.inl h)⟩
        · rintro ⟨i, q1, q2, q3⟩; exact ⟨i, q1, q2, fun h => h.elim q3 fun e => hne0 (by rw [q2, e])⟩
      have hat0 : ¬ (∃ i, i < N ∧ u0 = base + i ∧ ¬ S i) → objsAt N base tr (fun i => S i ∨ i = j) m' u0 = (tr (j + 1)).objs u0 := by
        intro hx
        rw [objsAt_tr (fun h => hx (hxy.1 h)), hm0]
        have := objs_between R hs (u := u0) (m1 - (j + 1)) (j + 1) (by omega) fun k h1 h2 => ⟨nwk k (by omega) (by omega), .inl (by omega)⟩
        rwa [show j + 1 + (m1 - (j + 1)) = m1 from by omega] at this
      have hold0 : ¬ (∃ i, i < N ∧ u0 = base + i ∧ ¬ S i) → objsAt N base tr S m u0 = (tr j).objs u0 := fun hx => by rw [objsAt_tr hx, hmj]
      have hrest : (tr (j + 1)).objs (base + j) = none → ∀ u, u ≠ u0 → objsAt N base tr (fun i => S i ∨ i = j) m' u = objsAt N base tr S m u := by
        intro e1 u hu
        by_cases e2 : u = base + j
        · subst e2
          rw [objsAt_new, objsAt_none ⟨j, hj, rfl, hnj⟩, hmn _ hu]
          rcases Nat.lt_or_ge (m (base + j)) (j + 1) with h | h
          · exact objs_none R hs h0 _ (dn.le _) j (by omega)
          · have := objs_none3 R hs e1 (m (base + j) - (j + 1)) (by have := dn.le (base + j); omega)
            rwa [show j + 1 + (m (base + j) - (j + 1)) = m (base + j) from by omega] at this
        · exact objsAt_ne e2 (hmn u hu)
      have hnone : (tr j).objs (base + j) = none := objs_none R hs h0 j (by omega) j (Nat.le_refl _)
      refine ⟨m', dnn, ?_⟩
      rcases step with ⟨t, want, b, g1, g2, g3, _, g4, g5⟩ | ⟨g, hck, σ', g1, g5⟩
      · refine .inl ⟨t, want, b, g1, by rw [hg g1]; exact g2, g3, g4, ?_⟩
        have e1 : (tr (j + 1)).objs = (tr j).objs := by rw [g5, putO_objs]
        funext u
        by_cases e : u = u0
        · subst e
          by_cases hx : ∃ i, i < N ∧ u = base + i ∧ ¬ S i
          · rw [objsAt_none hx, objsAt_none (hxy.2 hx)]
          · rw [hat0 hx, hold0 hx, e1]
        · exact hrest (by rw [e1]; exact hnone) u e
      · have hpt := (chkB_ok hck).2 u0 hprv
        have hle : ObjLe ((tr j).vis base j (ds j).hid (ds j).hido) ⟨slotsAt N ds val (tr 0) S, objsAt N base tr S m, base + j⟩ :=
          fun u o hu => (see_objs R hs h0 dn hj hnj hp hcp u o hu).2.1
        obtain ⟨o', res, hmk, rfl, hds, hne⟩ := DS_st hpt hsl hle rfl g1
        obtain ⟨ov, hov⟩ := Option.ne_none_iff_exists'.1 hne
        have hvis : isHid base (ds j).hid (ds j).hido u0 = false := by
          rw [Bool.eq_false_iff]; intro h
          exact hne (by simp [St.vis, h])
        have hx : ¬ ∃ i, i < N ∧ u0 = base + i ∧ ¬ S i := fun hx => by
          have := (see_objs R hs h0 dn hj hnj hp hcp u0 ov hov).2.1
          rw [objsAt_none hx] at this; cases this
        have hjm : j < m (base + j) := by
          rcases Nat.lt_or_ge j (m (base + j)) with h | h
          · exact h
          · have hmN : m (base + j) < N := by omega
            obtain ⟨k1, k2⟩ := dn.at_ _ hmN
            have hne : m (base + j) ≠ j := by intro e; rw [e] at k1; exact hne0 (hwo _ k1).symm
            exact absurd (hp _ (R.ordw hj (by omega) k1 hcp hnob (fun _ => .inr trivial))) k2
        have nw : ∀ k, j < k → k < m (base + j) → ¬ wr ds k (base + j) := by
          intro k h1 h2 h3
          have hkN : k < N := by have := dn.le (base + j); omega
          exact hnj (dn.down k hkN (dn.below _ k h2 h3) j (R.ordr hkN h1 h3 hcp hnob))
        have nhid : isHid base (ds j).hid (ds j).hido (base + j) = false := by
          rw [Bool.eq_false_iff]
          intro h
          rcases (R.hid_is hj).1 h with ⟨i, h1, _, _, h2⟩ | h
          · omega
          · exact hnob h
        have hmj' : m' (base + j) = m (base + j) := hmn _ (Ne.symm hne0)
        refine .inr ⟨g.imp id fun ⟨t, want, k1, k2⟩ => ⟨t, want, k1, by rw [hg k1]; exact k2⟩, _, hds, by cases res <;> rfl, ?_⟩
        funext u
        by_cases e2 : u = base + j
        · subst e2
          rw [objsAt_new, hnew (m' := m') dnn.le (by rw [hmj']; exact hjm) (by rw [hmj']; exact nw), g5, putO_objs]
          simp only [St.back, nhid]
          cases res with
          | none =>
            simp only [addO, St.vis, St.setO, nhid, Bool.false_eq_true, if_false, Ne.symm hne0]
            rw [objsAt_none ⟨j, hj, rfl, hnj⟩, hnone]
          | some o => simp [addO, St.new, St.vis, St.setO]
        · by_cases e : u = u0
          · subst e
            rw [hat0 hx, g5, putO_objs]
            simp only [St.back, hvis, Bool.false_eq_true, if_false]
            rw [addO_objs _ _ _ e2, addO_objs _ _ _ e2]
            simp [St.setO]
          · rw [objsAt_ne e2 (hmn u e), addO_objs _ _ _ e2]
            simp [St.setO, e]
end
section
variable {P : Program} {G : Nat → Option (List D)} {X : Ctx} {n : Nat}

/-- The activation and the world stand to the places that are done. -/
structure AnyInv (G : Nat → Option (List D)) (X : Ctx) (n M N base : Nat) (ds : Nat → DOper) (tr : Nat → St) (val : Nat → SV) (listed : Array Bool) (a : Act) (w : World) : Prop where
  size : listed.size = M
  up : ∀ i, N ≤ i → listed.getD i false = false
  ex : ∃ m O Im, Down N ds (fun i => listed.getD i false = true) m ∧
    SimW G X ⟨slotsAt N ds val (tr 0) (fun i => listed.getD i false = true), objsAt N base tr (fun i => listed.getD i false = true) m, 0⟩ a.tmps w O Im ∧
    (∀ u, base + N ≤ u → O u = .free) ∧ (∀ i, i < N → listed.getD i false = false → O (base + i) = .free)
  defers : a.defers = []
  tmps : a.tmps.size = n

theorem getD_same {listed : Array Bool} {j : Nat} (h : j < listed.size) : listed.getD j true = listed.getD j false := by
  simp [Array.getD_eq_getD_getElem?, h]
theorem set_getD {listed : Array Bool} {j : Nat} (h : j < listed.size) : (fun i => (listed.setIfInBounds j true).getD i false = true) = fun i => listed.getD i false = true ∨ i = j := by
  funext i
  by_cases e : i = j
  · subst e; simp [Array.getD_eq_getD_getElem?, h]
  · have : j ≠ i := fun h => e h.symm
    simp [Array.getD_eq_getD_getElem?, Array.getElem?_setIfInBounds, this, e]

theorem binds_md {md : Region.Mode} {e : Edge} (h : Region.binds .any e = true) : Region.binds md e = true := by
  unfold Region.binds at h ⊢
  split at h
  · simp at h
  · simp at h
  · rfl
/-- Edges that lead back: nothing is stuck. -/
theorem done_back {md : Region.Mode} {ops : Array Oper} {N : Nat} (hN : ops.size = N) (hb : ∀ (j : Nat) (o : Oper), ops[j]? = some o → ∀ e ∈ o.after, Region.binds md e = true → e.on < j) :
    ∀ listed : Array Bool, listed.size = N → Region.ready md ops listed = [] → ∀ i, i < N → listed.getD i false = true := by
  intro listed hsz hr i
  induction i using Nat.strongRecOn with
  | _ i ih =>
    intro hi'
    cases hx : listed.getD i false with
    | true => rfl
    | false =>
      exfalso
      have hlt : i < ops.size := by omega
      have : i ∈ Region.ready md ops listed := by
        rw [mem_ready]
        refine ⟨by rw [getD_same (by rw [hsz]; exact hi'), hx], ops[i], by simp [hlt], fun e he hbi => ?_⟩
        have := hb i ops[i] (by simp [hlt]) e he hbi
        exact ih _ this (by omega)
      rw [hr] at this
      cases this
/-- An order in which all could be done: nothing is stuck. -/
theorem done_ord {md : Region.Mode} {ops : Array Oper} {N : Nat} (hN : ops.size = N) (ord : List Nat) (hall : ∀ i, i < N → i ∈ ord) (hlt : ∀ i ∈ ord, i < N)
    (ho : ∀ (pre post : List Nat) (j : Nat) (o : Oper), ord = pre ++ j :: post → ops[j]? = some o → ∀ e ∈ o.after, Region.binds md e = true → e.on ∈ pre) :
    ∀ listed : Array Bool, listed.size = N → Region.ready md ops listed = [] → ∀ i, i < N → listed.getD i false = true := by
  intro listed hsz hr
  have key : ∀ (l pre : List Nat), ord = pre ++ l → (∀ i ∈ pre, listed.getD i false = true) → ∀ i ∈ l, listed.getD i false = true := by
    intro l
    induction l with
    | nil => intro pre _ _ i hi; cases hi
    | cons j post ih =>
      intro pre hord hpre i hi
      have hj : listed.getD j false = true := by
        cases hx : listed.getD j false with
        | true => rfl
        | false =>
          exfalso
          have hjN : j < N := hlt j (by rw [hord]; simp)
          have hjs : j < ops.size := by omega
          have : j ∈ Region.ready md ops listed := by
            rw [mem_ready]
            refine ⟨by rw [getD_same (by rw [hsz]; exact hjN), hx], ops[j], by simp [hjs], fun e he hbi => ?_⟩
            exact hpre _ (ho pre post j ops[j] hord (by simp [hjs]) e he hbi)
          rw [hr] at this
          cases this
      rcases List.mem_cons.1 hi with rfl | hi
      · exact hj
      · exact ih (pre ++ [j]) (by simp [hord]) (fun k hk => by
          rcases List.mem_append.1 hk with hk | hk
          · exact hpre k hk
          · rw [List.mem_singleton.1 hk]; exact hj) i hi
  intro i hi
  exact key ord [] rfl (fun k hk => by cases hk) i (hall i hi)
def left (N : Nat) (listed : Array Bool) : Nat := ((List.range N).filter fun i => !listed.getD i false).length
theorem left_zero {N : Nat} {listed : Array Bool} (h : left N listed = 0) : ∀ i, i < N → listed.getD i false = true := by
  intro i hi
  cases hb : listed.getD i false with
  | true => rfl
  | false =>
    have : i ∈ (List.range N).filter fun i => !listed.getD i false := List.mem_filter.2 ⟨List.mem_range.2 hi, by rw [hb]; rfl⟩
    rw [List.eq_nil_of_length_eq_zero h] at this
    cases this
theorem left_set {N : Nat} {listed : Array Bool} {j : Nat} (hN : listed.size = N) (hj : j < N) (h : listed.getD j false = false) : left N (listed.setIfInBounds j true) < left N listed := by
  have e : ((List.range N).filter fun i => !(listed.setIfInBounds j true).getD i false) = ((List.range N).filter fun i => !listed.getD i false).filter fun i => i != j := by
    rw [List.filter_filter]
    apply List.filter_congr
    intro i _
    have := congrFun (set_getD (listed := listed) (j := j) (by omega)) i
    by_cases e : i = j
    · subst e
      have h1 : (listed.setIfInBounds i true).getD i false = true := by simpa using this
      simp [h1]
    · have h1 : ((listed.setIfInBounds j true).getD i false = true) = (listed.getD i false = true) := by simpa [e] using this
      have h2 : (listed.setIfInBounds j true).getD i false = listed.getD i false := by
        cases hx : listed.getD i false <;> cases hy : (listed.setIfInBounds j true).getD i false <;> simp [hx, hy] at h1 <;> rfl
      simp [h2, e]
  unfold left
  rw [e]
  refine List.length_filter_lt_length_iff_exists.2 ⟨j, List.mem_filter.2 ⟨List.mem_range.2 hj, by rw [h]; rfl⟩, by simp⟩

theorem left_cnt {M N : Nat} {listed : Array Bool} (h : N ≤ M) (h1 : ∀ i, i < N → listed.getD i false = true) (h2 : ∀ i, N ≤ i → listed.getD i false = false) : left M listed = M - N := by
  unfold left
  have : ∀ d, N + d = M → ((List.range M).filter fun i => !listed.getD i false).length = d := by
    intro d
    induction d generalizing M with
    | zero =>
      intro e
      rw [List.length_eq_zero_iff, List.filter_eq_nil_iff]
      intro i hi
      rw [h1 i (by have := List.mem_range.1 hi; omega)]; simp
    | succ d ih =>
      intro e
      obtain ⟨M', rfl⟩ : ∃ M', M = M' + 1 := ⟨N + d, by omega⟩
      rw [List.range_succ, List.filter_append, List.length_append, ih (by omega) (by omega)]
      rw [List.filter_cons, if_pos (by rw [h2 M' (by omega)]; rfl)]; rfl
  exact this (M - N) (by omega)
variable {M N base : Nat} {dir : Nat → List Nat} {ds : Nat → DOper} {tr : Nat → St} {val : Nat → SV} {ops : Array Oper}

theorem any_loop {md : Region.Mode} (hdone : ∀ listed : Array Bool, listed.size = M → Region.ready md ops listed = [] → ∀ i, i < M → listed.getD i false = true) (R : Reg N dir ds) (R0 : Reg0 M dir ds) (hNM : N ≤ M) (hfull : ∀ j, N ≤ j → j < M → ∀ i, i < j → i ∈ (ds j).pre) (hs : Steps' P G base N ds tr val) (h0 : ∀ u, base ≤ u → (tr 0).objs u = none) (hN : ops.size = M) (hdir : ∀ (j : Nat) (o : Oper), ops[j]? = some o → dir j = directs o)
    (hlow : ∀ (j : Nat) (o : Oper), ops[j]? = some o → lowOper P n ops o = some (ds j).o.strip) {Q : Ex → St → Prop}
    (hfin : ∀ (fuel : Nat) (listed : Array Bool) (a : Act) (w : World), left M listed ≤ fuel → listed.size = M → (∀ i, i < N → listed.getD i false = true) → (∀ i, N ≤ i → listed.getD i false = false) → Inv G X n ⟨(tr N).slots, (tr N).objs, base + N⟩ a w → wpAny P md ops (QRel G X n Q) fuel listed a w) :
    ∀ (fuel : Nat) (listed : Array Bool) (a : Act) (w : World), left M listed ≤ fuel → AnyInv G X n M N base ds tr val listed a w → wpAny P md ops (QRel G X n Q) fuel listed a w := by
  have done : ∀ {listed : Array Bool} {a : Act} {w : World}, (∀ i, i < N → listed.getD i false = true) → AnyInv G X n M N base ds tr val listed a w → Inv G X n ⟨(tr N).slots, (tr N).objs, base + N⟩ a w := by
    intro listed a w all hi
    obtain ⟨m, O, Im, dn, s, hf, _⟩ := hi.ex
    have hm : ∀ u, m u = N := by
      intro u
      rcases Nat.lt_or_ge (m u) N with h | h
      · exact absurd (all _ h) (dn.at_ u h).2
      · have := dn.le u; omega
    have e1 : slotsAt N ds val (tr 0) (fun i => listed.getD i false = true) = (tr N).slots := by
      rw [slots_tr hs N (Nat.le_refl _)]
      funext u
      simp only [slotsAt]
      rw [lastIn_congr]
      intro i hi'
      exact and_congr_left fun _ => ⟨fun _ => hi', fun _ => all i hi'⟩
    have e2 : objsAt N base tr (fun i => listed.getD i false = true) m = (tr N).objs := by
      funext u
      rw [← hm u]
      refine objsAt_tr ?_
      rw [hm u]
      rintro ⟨i, h1, _, h2⟩
      exact h2 (all i h1)
    rw [e1, e2] at s
    exact ⟨O, Im, s.nx _, hf, hi.defers, hi.tmps⟩
  have one : ∀ {fuel : Nat} {listed : Array Bool} {a : Act} {w : World}, (∀ listed a w, left M listed ≤ fuel → AnyInv G X n M N base ds tr val listed a w → wpAny P md ops (QRel G X n Q) fuel listed a w) → left M listed ≤ fuel + 1 → (¬ ∀ i, i < N → listed.getD i false = true) →
      AnyInv G X n M N base ds tr val listed a w → ∀ j ∈ Region.ready md ops listed, wpOp P ops (QRel G X n Q) j (wpAny P md ops (QRel G X n Q) fuel (listed.setIfInBounds j true)) a w := by
    intro fuel listed a w ih hleft hnall hi j hjr
    rw [mem_ready] at hjr
    obtain ⟨hun, o, ho, hall⟩ := hjr
    have hjM : j < M := by have := (Array.getElem?_eq_some_iff.1 ho).1; omega
    have hjl : j < listed.size := by rw [hi.size]; exact hjM
    rw [getD_same hjl] at hun
    obtain ⟨m, O, Im, dn, s, hf1, hf2⟩ := hi.ex
    have hltN : ∀ q, listed.getD q false = true → q < N := fun q hq => Nat.lt_of_not_le fun h => by rw [hi.up q h] at hq; cases hq
    have hdl : ∀ k ∈ dir j, listed.getD k false = true := by
      intro k hk
      rw [hdir j o ho] at hk
      simp only [directs, List.mem_map, List.mem_filter, Array.mem_toList_iff] at hk
      obtain ⟨e, ⟨he, hb⟩, rfl⟩ := hk
      exact hall e he (binds_md hb)
    have hp : ∀ k ∈ (ds j).pre, listed.getD k false = true := by
      intro k hk
      obtain ⟨h1, h2 | ⟨q, h2, h3⟩⟩ := R0.pre j hjM k hk
      · exact hdl k h2
      · exact dn.down q (hltN q (hdl q h2)) (hdl q h2) k h3
    have hj : j < N := Nat.lt_of_not_le fun h => hnall fun i hi' => hp i (hfull j h hjM i (by omega))
    obtain ⟨m', dn', hst⟩ := step_any R hs h0 dn hj (by simp [hun]) hp
    have hset := set_getD hjl
    have hsz : (listed.setIfInBounds j true).size = M := by simp [hi.size]
    have hlt : left M (listed.setIfInBounds j true) ≤ fuel := by have := left_set hi.size hjM hun; omega
    have hup : ∀ i, N ≤ i → (listed.setIfInBounds j true).getD i false = false := fun i hi' => by
      have := congrFun hset i
      cases hb : (listed.setIfInBounds j true).getD i false with
      | false => rfl
      | true =>
        rw [hb] at this
        rcases this.mp rfl with h | h
        · rw [hi.up i hi'] at h; cases h
        · omega
    have next : ∀ {a' : Act} {w' : World} {O' : Nat → LS} {Im' : Nat → Prop} {T : St}, SimW G X T a'.tmps w' O' Im' → T.slots = slotsAt N ds val (tr 0) (fun i => listed.getD i false = true ∨ i = j) → T.objs = objsAt N base tr (fun i => listed.getD i false = true ∨ i = j) m' →
        (∀ u, u ≠ base + j → O u = .free → O' u = .free) → a'.defers = [] → a'.tmps.size = n → wpAny P md ops (QRel G X n Q) fuel (listed.setIfInBounds j true) a' w' := by
      intro a' w' O' Im' T s' e1 e2 hk hd' hs'
      refine ih _ _ _ hlt ⟨hsz, hup, ⟨m', O', Im', ?_, ?_, ?_, ?_⟩, hd', hs'⟩
      · rw [hset]; exact dn'
      · rw [hset, ← e1, ← e2]; exact s'.nx 0
      · intro u hu; exact hk u (by omega) (hf1 u hu)
      · intro i h1 h2
        have hne : i ≠ j := by
          rintro rfl
          have e : (listed.setIfInBounds i true).getD i false = true := (congrFun hset i).mpr (.inr rfl)
          rw [h2] at e; cases e
        have h3 : listed.getD i false = false := by
          cases hb : listed.getD i false with
          | false => rfl
          | true =>
            have e : (listed.setIfInBounds j true).getD i false = true := (congrFun hset i).mpr (.inl hb)
            rw [h2] at e; cases e
        exact hk _ (by omega) (hf2 i h1 h3)
    have hlo := hlow j o ho
    have hput : ∀ u, slotsAt N ds val (tr 0) (fun i => listed.getD i false = true ∨ i = j) u = if (ds j).o.dst = some u then val j else slotsAt N ds val (tr 0) (fun i => listed.getD i false = true) u := slots_put R dn hj (by simp [hun])
    generalize hvo : (ds j).o = vo at *
    unfold lowOper at hlo
    split at hlo
    · rename_i hdst
      simp only [Option.bind_eq_some_iff] at hlo
      obtain ⟨vop, hlop, hgd⟩ := hlo
      have hvd : vo.dst = o.dst ∧ vo.op.strip = vop ∧ ((o.guard = none ∧ vo.guard = none) ∨ ∃ q w' d, o.guard = some (q, w') ∧ vo.guard = some (d, w') ∧ (ops[q]?).bind (·.dst) = some d ∧ d < n) := by
        split at hgd
        · rename_i hg; simp only [Option.some.injEq] at hgd; exact ⟨(congrArg VOper.dst hgd).symm, (congrArg VOper.op hgd).symm, .inl ⟨hg, (congrArg VOper.guard hgd).symm⟩⟩
        · rename_i q w' hg
          simp only [Option.bind_eq_some_iff] at hgd
          obtain ⟨d, ⟨oq, h1, h2⟩, h3⟩ := hgd
          split at h3
          · rename_i hdn
            simp only [Option.some.injEq] at h3
            exact ⟨(congrArg VOper.dst h3).symm, (congrArg VOper.op h3).symm, .inr ⟨q, w', d, hg, (congrArg VOper.guard h3).symm, by simp [h1, h2], hdn⟩⟩
          · cases h3
      obtain ⟨hvd1, hvd2, hvd3⟩ := hvd
      have hyield : ∀ {q d : Nat} {b : Option Bool}, (ops[q]?).bind (·.dst) = some d → d < n → grd (slotsAt N ds val (tr 0) (fun i => listed.getD i false = true) d) = some b → yielded ops a.tmps q = b := by
        intro q d b h1 h2 h3
        rw [yielded_of h1 (by rw [hi.tmps]; exact h2)]
        exact grd_rel (tmAt_in X.gh a.tmps (by rw [hi.tmps]; exact h2) ▸ s.slot d) h3
      unfold wpOp
      rw [ho]
      simp only
      rcases hst with ⟨t, wt, b, g1, g2, g3, g4, g5⟩ | ⟨g, T', g1, g2, g3⟩
      · rcases hvd3 with ⟨_, h⟩ | ⟨q, w', d, k1, k2, k3, k4⟩
        · rw [h] at g1; cases g1
        · rw [k2] at g1; cases g1
          have hy := hyield k3 k4 g2
          have hw : ¬ Region.wanted o (yielded ops a.tmps) = true := by simp [Region.wanted, k1, hy, g3]
          rw [if_neg hw]
          rw [hvd1, g4] at hput
          cases hdd : o.dst with
          | none =>
            rw [hdd] at hput
            refine next (T := ⟨slotsAt N ds val (tr 0) (fun i => listed.getD i false = true), objsAt N base tr (fun i => listed.getD i false = true) m, 0⟩) (a' := a) s ?_ g5.symm (fun _ _ h => h) hi.defers hi.tmps
            funext u; simpa using (hput u).symm
          | some t' =>
            rw [hdd] at hput hdst
            have ht : t' < a.tmps.size := by rw [hi.tmps]; simpa using hdst
            refine next (O' := O) (Im' := Im) (s.put ht .und) ?_ ?_ (fun _ _ h => h) hi.defers (by simpa [Act.put] using hi.tmps)
            · funext u
              rw [hput u]
              show (if u = t' then SV.und else _) = _
              by_cases e : u = t'
              · subst e; simp
              · rw [if_neg e, if_neg (fun h => e (Option.some.inj h).symm)]
            · exact g5.symm
      · have hw : Region.wanted o (yielded ops a.tmps) = true := by
          rcases hvd3 with ⟨h, _⟩ | ⟨q, w', d, k1, k2, k3, k4⟩
          · simp [Region.wanted, h]
          · rcases g with g | ⟨t, wt, g4, g5⟩
            · rw [g] at k2; cases k2
            · rw [k2] at g4; cases g4
              simp [Region.wanted, k1, hyield k3 k4 g5]
        rw [if_pos hw]
        refine .inl (DS_sound (op := vo.op) (O := O) (Im := Im) (by rw [hvd2]; exact hlop) hdst (s.nx (base + j)) (hf2 j hj hun) hi.defers hi.tmps g1 ?_)
        intro a' w' O' Im' s' hk hd' hs'
        refine next s' ?_ ?_ hk hd' hs'
        · funext u
          rw [hput u, putO_slots, hvd1, g2]
        · rw [putO_objs, g3]
    · cases hlo
  intro fuel
  induction fuel with
  | zero =>
    intro listed a w hl hi
    have all : ∀ i, i < N → listed.getD i false = true := fun i hi' => left_zero (N := M) (by omega) i (by omega)
    exact hfin 0 listed a w hl hi.size all hi.up (done all hi)
  | succ fuel ih =>
    intro listed a w hl hi
    by_cases all : ∀ i, i < N → listed.getD i false = true
    · exact hfin (fuel + 1) listed a w hl hi.size all hi.up (done all hi)
    · exact ⟨fun hr => absurd (fun i hi' => hdone listed hi.size hr i (by omega)) all, one ih hl all hi⟩
/-- All is done. -/
theorem fin_all {md : Region.Mode} (hN : ops.size = N) {Q : Ex → St → Prop} {σ : St} (hQ : Q .normal σ) : ∀ (fuel : Nat) (listed : Array Bool) (a : Act) (w : World), left N listed ≤ fuel → listed.size = N → (∀ i, i < N → listed.getD i false = true) → (∀ i, N ≤ i → listed.getD i false = false) → Inv G X n σ a w → wpAny P md ops (QRel G X n Q) fuel listed a w := by
  intro fuel listed a w _ hsz all _ hi
  have hr : Region.ready md ops listed = [] := by
    rw [List.eq_nil_iff_forall_not_mem]
    intro j hj
    rw [mem_ready] at hj
    obtain ⟨h1, o, ho, _⟩ := hj
    have hjN : j < N := by have := (Array.getElem?_eq_some_iff.1 ho).1; omega
    rw [getD_same (by rw [hsz]; exact hjN), all j hjN] at h1
    cases h1
  have hq : QRel G X n Q .normal a w := ⟨.normal, σ, trivial, hQ, hi⟩
  cases fuel with
  | zero => exact ⟨hr, hq⟩
  | succ fuel => exact ⟨fun _ => hq, fun j hj => by rw [hr] at hj; cases hj⟩
/-- The rest, one by one. -/
theorem fin_lin {md : Region.Mode} (hdone : ∀ listed : Array Bool, listed.size = M → Region.ready md ops listed = [] → ∀ i, i < M → listed.getD i false = true) (R0 : Reg0 M dir ds) (hN : ops.size = M) (hdir : ∀ (j : Nat) (o : Oper), ops[j]? = some o → dir j = directs o) {Q : Exit → Act → World → Prop} :
    ∀ (d k fuel : Nat) (listed : Array Bool) (a : Act) (w : World), k + d = M → (∀ j, k ≤ j → j < M → ∀ i, i < j → i ∈ (ds j).pre) → d ≤ fuel → listed.size = M → (∀ i, i < k → listed.getD i false = true) → (∀ i, k ≤ i → listed.getD i false = false) → wpOps P ops Q (List.range' k d) a w → wpAny P md ops Q fuel listed a w
  | 0, k, fuel, listed, a, w, hk, hfull, hf, hsz, h1, h2, h => by
    have hr : Region.ready md ops listed = [] := by
      rw [List.eq_nil_iff_forall_not_mem]
      intro j hj
      rw [mem_ready] at hj
      obtain ⟨g1, o, ho, _⟩ := hj
      have hjN : j < M := by have := (Array.getElem?_eq_some_iff.1 ho).1; omega
      rw [getD_same (by rw [hsz]; exact hjN), h1 j (by omega)] at g1
      cases g1
    cases fuel with
    | zero => exact ⟨hr, h⟩
    | succ fuel => exact ⟨fun _ => h, fun j hj => by rw [hr] at hj; cases hj⟩
  | d + 1, k, 0, listed, a, w, hk, hfull, hf, hsz, h1, h2, h => by omega
  | d + 1, k, fuel + 1, listed, a, w, hk, hfull, hf, hsz, h1, h2, h => by
    refine ⟨fun hr => ?_, fun j hj => ?_⟩
    · have := hdone listed hsz hr k (by omega)
      rw [h2 k (Nat.le_refl _)] at this; cases this
    · rw [mem_ready] at hj
      obtain ⟨g1, o, ho, hall⟩ := hj
      have hjM : j < M := by have := (Array.getElem?_eq_some_iff.1 ho).1; omega
      rw [getD_same (by rw [hsz]; exact hjM)] at g1
      have hkj : k ≤ j := Nat.le_of_not_lt fun hlt => by rw [h1 j hlt] at g1; cases g1
      have hdl : ∀ q ∈ dir j, listed.getD q false = true := by
        intro q hq
        rw [hdir j o ho] at hq
        simp only [directs, List.mem_map, List.mem_filter, Array.mem_toList_iff] at hq
        obtain ⟨e, ⟨he, hb⟩, rfl⟩ := hq
        exact hall e he (binds_md hb)
      have hltk : ∀ q, listed.getD q false = true → q < k := fun q hq => Nat.lt_of_not_le fun h => by rw [h2 q h] at hq; cases hq
      have hj : j = k := by
        rcases Nat.lt_or_ge k j with hlt | hge
        · exfalso
          have hkp := hfull j hkj hjM k hlt
          obtain ⟨_, g | ⟨q, g3, g4⟩⟩ := R0.pre j hjM k hkp
          · have := hltk k (hdl k g); omega
          · have hq := hltk q (hdl q g3)
            have := (R0.pre q (by omega) k g4).1
            omega
        · omega
      subst hj
      have hset := set_getD (listed := listed) (j := j) (by omega)
      rw [List.range'_succ, wpOps_cons] at h
      refine wpOp_mono (fun a' w' h' => fin_lin hdone R0 hN hdir d (j + 1) fuel _ a' w' (by omega) (fun j' h3 h4 => hfull j' (by omega) h4) (by omega) (by simpa using hsz) (fun i hi => ?_) (fun i hi => ?_) h') h
      · exact (congrFun hset i).mpr (by rcases Nat.lt_or_ge i j with q | q; exact .inl (h1 i q); exact .inr (by omega))
      · cases hb : (listed.setIfInBounds j true).getD i false with
        | false => rfl
        | true =>
          have := (congrFun hset i).mp hb
          rcases this with q | q
          · rw [h2 i (by omega)] at q; cases q
          · omega

theorem wp_region_any' {Q : Exit → Act → World → Prop} {id : Nat} {a : Act} {w : World} (hm : (P.follows .mixedOrders || !Region.departs ops) = true)
    (h : wpAny P .any ops Q ops.size (Array.replicate ops.size false) a { w with drawn := w.drawn + 1 }) : (Code.region id ops true).wp P Q a w :=
  wp_region_draw fun t => by
    simp only [Region.schedule, hm, if_true]
    exact wpAny_sound ops.size t _ a _ h
theorem wp_region_all {Q : Exit → Act → World → Prop} {id : Nat} {a : Act} {w : World}
    (h : ∀ md, wpAny P md ops Q ops.size (Array.replicate ops.size false) a { w with drawn := w.drawn + 1 }) : (Code.region id ops true).wp P Q a w :=
  wp_region_draw fun t => by
    simp only [Region.schedule]
    split
    · exact wpAny_sound ops.size t _ a _ (h .any)
    · split
      · exact wpAny_sound ops.size _ _ a _ (h .text)
      · exact wpAny_sound ops.size _ _ a _ (h .gc)
theorem topo_ok {ops : Array Oper} : ∀ (ord pre : List Nat), topoOk ops pre ord = true → (∀ i ∈ ord, i < ops.size) ∧ ∀ (p post : List Nat) (j : Nat) (o : Oper), ord = p ++ j :: post → ops[j]? = some o → ∀ e ∈ o.after, Region.binds .gc e = true → e.on ∈ pre ++ p
  | [], pre, _ => ⟨fun i hi => (by cases hi), fun p post j o h => (by simp at h)⟩
  | k :: ord, pre, h => by
    simp only [topoOk, Bool.and_eq_true] at h
    obtain ⟨h1, h2⟩ := h
    obtain ⟨g1, g2⟩ := topo_ok ord (pre ++ [k]) h2
    cases hk : ops[k]? with
    | none => rw [hk] at h1; cases h1
    | some o0 =>
      rw [hk] at h1
      simp only [Array.all_eq_true_iff_forall_mem, Bool.or_eq_true, Bool.not_eq_true', List.contains_iff_mem] at h1
      refine ⟨fun i hi => ?_, fun p post j o hord ho e he hb => ?_⟩
      · rcases List.mem_cons.1 hi with rfl | hi
        · exact (Array.getElem?_eq_some_iff.1 hk).1
        · exact g1 i hi
      · cases p with
        | nil =>
          simp only [List.nil_append, List.cons.injEq] at hord
          obtain ⟨rfl, rfl⟩ := hord
          rw [hk] at ho; cases ho
          rcases h1 e he with h | h
          · rw [hb] at h; cases h
          · simpa using h
        | cons q p =>
          simp only [List.cons_append, List.cons.injEq] at hord
          obtain ⟨rfl, hord⟩ := hord
          have := g2 p post j o hord ho e he hb
          simpa using this
theorem draw_sound' {loose : Bool} {dl : List DOper} {id N : Nat} (hl : lowDraw loose P n ops = some (dl.map DOper.strip)) (hokd : okD dl = true) (hfu : fullB N dl = true) {Q Q' : Ex → St → Prop} {σ : St} {a : Act} {w : World} (h : wDraw P G σ.next 0 (dl.take N) Q' σ) (hi : Inv G X n σ a w)
    (hrest : ∀ σ' a w, Q' .normal σ' → Inv G X n σ' a w → wpOps P ops (QRel G X n Q) (List.range' N (dl.length - N)) a w) : (Code.region id ops true).wp P (QRel G X n Q) a w := by
  unfold lowDraw at hl
  split at hl
  · rename_i hm0
    simp only [Option.bind_eq_some_iff] at hl
    obtain ⟨vs, hvs, hl⟩ := hl
    split at hl
    · rename_i hok
      simp only [Option.some.injEq] at hl
      generalize hpres : closeM ops.toList [] = pres at *
      obtain ⟨O, Im, s, hf, hd, hs⟩ := hi
      have hvl : ∀ {l : List Oper} {vs : List VOper}, l.mapM (lowOper P n ops) = some vs → vs.length = l.length ∧ ∀ (j : Nat) (o : Oper), l[j]? = some o → ∃ v, vs[j]? = some v ∧ lowOper P n ops o = some v := by
        intro l
        induction l with
        | nil => intro vs h; simp only [List.mapM_nil, Option.pure_def, Option.some.injEq] at h; subst h; exact ⟨rfl, fun j o h => by simp at h⟩
        | cons x l ih =>
          intro vs h
          simp only [List.mapM_cons, Option.bind_eq_bind, Option.bind_eq_some_iff, Option.pure_def, Option.some.injEq] at h
          obtain ⟨y, h1, ys, h2, rfl⟩ := h
          obtain ⟨g1, g2⟩ := ih h2
          refine ⟨by simp [g1], fun j o ho => ?_⟩
          cases j with
          | zero => simp at ho; subst ho; exact ⟨y, by simp, h1⟩
          | succ j => simpa using g2 j o (by simpa using ho)
      obtain ⟨hlen, hat⟩ := hvl hvs
      simp only [Array.length_toList] at hlen
      have hds : ∀ j, j < ops.size → (vs.mapIdx (mkD vs pres)).getD j default = mkD vs pres j (vs.getD j default) := by
        intro j hj
        have : j < vs.length := by omega
        simp [List.getD_eq_getElem?_getD, List.getElem?_mapIdx, this]
      have hokj : ∀ j, j < ops.size → _ := fun j hj => List.all_eq_true.1 hok j (List.mem_range.2 (by simpa using hj))
      simp only [Bool.and_eq_true, List.all_eq_true, decide_eq_true_eq, Bool.or_eq_true, List.any_eq_true, List.contains_iff_mem, Bool.not_eq_true', List.mem_range] at hokj
      have hdl : dl.length = ops.size := by have := congrArg List.length hl; simp at this; omega
      have hstr : ∀ j, j < ops.size → (dl.getD j default).strip = mkD vs pres j (vs.getD j default) := by
        intro j hj
        rw [← hds j hj, hl]
        have : j < dl.length := by omega
        simp [List.getD_eq_getElem?_getD, this]
      have R0 : Reg0 ops.size (fun j => directs (ops.toList.getD j default)) (fun j => (vs.mapIdx (mkD vs pres)).getD j default) := by
        refine ⟨?_, ?_, ?_, ?_⟩
        · intro j hj k hk
          rw [hds j hj] at hk
          have hk1 : hasB (pres.getD j 0) k = true := (hasB_iff _ _).2 hk
          have hk2 : k < 160 := by simp [hasB] at hk1; exact hk1.2
          obtain ⟨g1, g2⟩ := ((hokj j hj).1.1.2 k hk2).resolve_left (by rw [hk1]; decide)
          refine ⟨g1, g2.imp (fun h => h) ?_⟩
          rintro ⟨q, h1, h2⟩
          refine ⟨q, h1, ?_⟩
          have := (hokj j hj).1.1.1 q h1
          rw [hds q (by omega)]
          exact (hasB_iff _ _).1 h2
        · intro j hj k hk
          exact (hokj j hj).1.1.1 k hk
        · intro j hj i hij hc
          rw [hds j hj]
          rw [hds j hj, hds i (by omega)] at hc
          rcases (hokj j hj).2 i hij with h | h
          · simp only [mkD] at hc
            rw [hc] at h; simp at h
          · exact (hasB_iff _ _).1 h
        · intro j hj i
          rw [hds j hj]
          simp only [mkD, List.mem_filter, List.mem_range, Bool.and_eq_true, Bool.not_eq_true']
          have hbb : (hasB (pres.getD j 0) i = false) ↔ ¬ i ∈ bitsOf (pres.getD j 0) := by rw [← hasB_iff]; simp
          constructor
          · rintro ⟨h1, h2, h3⟩
            refine ⟨h1, ?_, hbb.1 h3⟩
            rw [hds i (by omega)]; exact h2
          · rintro ⟨h1, h2, h3⟩
            rw [hds i (by omega)] at h2
            exact ⟨h1, h2, hbb.2 h3⟩
      have R1 : Reg0 ops.size (fun j => directs (ops.toList.getD j default)) (fun j => dl.getD j default) := R0.unstrip fun j hj => by rw [hstr j hj, hds j hj]
      have R : Reg ops.size (fun j => directs (ops.toList.getD j default)) (fun j => dl.getD j default) := by
        rw [← hdl] at R1 ⊢
        exact Reg.of R1 hokd
      simp only [fullB, Bool.and_eq_true, decide_eq_true_eq, List.all_eq_true, List.mem_range, Bool.or_eq_true] at hfu
      obtain ⟨hNl, hfu⟩ := hfu
      have hNs : N ≤ ops.size := by omega
      have hfull : ∀ j, N ≤ j → j < ops.size → ∀ i, i < j → i ∈ ((fun j => dl.getD j default) j).pre := fun j h1 h2 i h3 => by
        rcases hfu j (by omega) with h | h
        · omega
        · exact (hasB_iff _ _).1 (h i h3)
      have RN : Reg N (fun j => directs (ops.toList.getD j default)) (fun j => dl.getD j default) :=
        { pre := fun j hj => R.pre j (by omega), dirlt := fun j hj => R.dirlt j (by omega), conf := fun j hj => R.conf j (by omega), hid := fun j hj => R.hid j (by omega), mem := fun j hj => R.mem j (by omega), prv := fun j hj => R.prv j (by omega), gen := fun j hj => R.gen j (by omega) }
      obtain ⟨tr, val, t1, t2, t3⟩ := trace_of _ _ _ h
      have hlt : (dl.take N).length = N := by rw [List.length_take]; omega
      simp only [Nat.zero_add, hlt] at t2 t3
      have hst : Steps' P G σ.next N (fun j => dl.getD j default) tr val := by
        intro j hj
        refine t2 j _ ?_
        have : j < dl.length := by omega
        simp [List.getD_eq_getElem?_getD, this, hj]
      have h0 : ∀ u, σ.next ≤ u → (tr 0).objs u = none := by
        intro u hu
        rw [t1]
        cases ho : σ.objs u with
        | none => rfl
        | some o =>
          obtain ⟨l, hl', _⟩ := s.obj u o ho
          rw [hf u hu] at hl'; cases hl'
      have back : ∀ (j : Nat) (o : Oper), ops[j]? = some o → ∀ e ∈ o.after, Region.binds .any e = true → e.on < j := by
        intro j o ho e he hb
        have hj := (Array.getElem?_eq_some_iff.1 ho).1
        have hto : ops.toList.getD j default = o := by simp [List.getD_eq_getElem?_getD, ho]
        have := R.dirlt j hj e.on (by
          simp only [hto, directs, List.mem_map, List.mem_filter, Array.mem_toList_iff]
          exact ⟨e, ⟨he, hb⟩, rfl⟩)
        exact this
      have main : ∀ md, (∀ listed : Array Bool, listed.size = ops.size → Region.ready md ops listed = [] → ∀ i, i < ops.size → listed.getD i false = true) → wpAny P md ops (QRel G X n Q) ops.size (Array.replicate ops.size false) a { w with drawn := w.drawn + 1 } := by
       intro md hdone
       have hdir0 : ∀ (j : Nat) (o : Oper), ops[j]? = some o → directs (ops.toList.getD j default) = directs o := by
         intro j o ho
         have hj := (Array.getElem?_eq_some_iff.1 ho).1
         have : ops.toList.getD j default = o := by
           simp [List.getD_eq_getElem?_getD, ho]
         simp only [this]
       refine any_loop (base := σ.next) (tr := tr) (val := val) (N := N) (M := ops.size) hdone RN R.toReg0 hNs hfull hst h0 rfl hdir0 ?_ ?_ _ _ _ _ ?_ ?_
       · intro j o ho
         have hj := (Array.getElem?_eq_some_iff.1 ho).1
         obtain ⟨v, hv, hlo⟩ := hat j o (by simpa using ho)
         have e : (dl.getD j default).o.strip = (dl.getD j default).strip.o := rfl
         rw [hlo, e, hstr j hj]
         simp [mkD, List.getD_eq_getElem?_getD, hv]
       · intro fuel listed a' w' hleft hsz h1 h2 hi'
         refine fin_lin hdone R.toReg0 rfl hdir0 (ops.size - N) N fuel listed a' w' (by omega) hfull (by rw [← left_cnt hNs h1 h2]; exact hleft) hsz h1 h2 ?_
         rw [← hdl]
         exact hrest _ _ _ t3 hi'
       · unfold left
         exact Nat.le_trans (List.length_filter_le _ _) (by simp)
       · have hrep : ∀ i, (Array.replicate ops.size false).getD i false = false := by
           intro i
           simp only [Array.getD_eq_getD_getElem?, Array.getElem?_replicate]
           split <;> rfl
         have hS : (fun i => (Array.replicate ops.size false).getD i false = true) = fun _ => False := by
           funext i; rw [hrep i]; simp
         have hex := fun u => next_w N (fun j => dl.getD j default) (fun _ => False) u N 0 (by omega)
         let m : Nat → Nat := fun u => Classical.choose (hex u)
         have hm' : ∀ u, 0 ≤ m u ∧ m u ≤ N ∧ (∀ i, 0 ≤ i → i < m u → wr (fun j => dl.getD j default) i u → False) ∧ (m u < N → wr (fun j => dl.getD j default) (m u) u ∧ ¬ False) := fun u => Classical.choose_spec (hex u)
         refine ⟨by simp, fun i _ => hrep i, ⟨m, O, Im, ?_, ?_, fun u hu => hf u (by omega), fun i _ _ => hf _ (by omega)⟩, hd, hs⟩
         · rw [hS]
           exact ⟨fun _ _ h => h.elim, fun u => (hm' u).2.1, fun u i h1 h2 => (hm' u).2.2.1 i (by omega) h1 h2, fun u => (hm' u).2.2.2⟩
         · rw [hS]
           have e1 : slotsAt N (fun j => dl.getD j default) val (tr 0) (fun _ => False) = σ.slots := by
             funext u
             simp only [slotsAt]
             rw [lastIn_none (fun i _ h => h.1.elim), t1]
           have e2 : objsAt N σ.next tr (fun _ => False) m = σ.objs := by
             funext u
             by_cases hx : ∃ i, i < N ∧ u = σ.next + i ∧ ¬ False
             · rw [objsAt_none hx]
               obtain ⟨i, h1, rfl, _⟩ := hx
               have hz := h0 (σ.next + i) (by omega)
               rw [t1] at hz
               exact hz.symm
             · rw [objsAt_tr hx]
               have hbt : ∀ k, k ≤ m u → (tr k).objs u = (tr 0).objs u := by
                 intro k
                 induction k with
                 | zero => intro _; rfl
                 | succ k ihk =>
                   intro hk
                   have hkN : k < N := by have := (hm' u).2.1; omega
                   have hw : ¬ wr (fun j => dl.getD j default) k u := fun hw => (hm' u).2.2.1 k (by omega) (by omega) hw
                   rw [((hst k hkN).objs RN hkN).1 u hw (fun e => hx ⟨k, hkN, e, fun h => h⟩), ihk (by omega)]
               rw [hbt (m u) (Nat.le_refl _), t1]
           rw [e1, e2]
           exact (s.nx 0).drawn _
      rw [Bool.or_eq_true] at hm0
      rcases hm0 with hm | hm
      · exact wp_region_any' hm (main .any (done_back rfl back))
      · simp only [Bool.and_eq_true, List.all_eq_true, Array.all_eq_true_iff_forall_mem, Bool.or_eq_true, Bool.not_eq_true', decide_eq_true_eq, List.contains_iff_mem, List.mem_range] at hm
        obtain ⟨⟨hm1, hm2⟩, hm3⟩ := hm
        have hx : ∀ md, md = .text → wpAny P md ops (QRel G X n Q) ops.size (Array.replicate ops.size false) a { w with drawn := w.drawn + 1 } := by
          rintro _ rfl
          refine main .text (done_back rfl fun j o ho e he hb => ?_)
          have hj := (Array.getElem?_eq_some_iff.1 ho).1
          have hto : ops.toList.getD j default = o := by simp [List.getD_eq_getElem?_getD, ho]
          have := hm1 j hj e (by rw [hto]; exact he)
          rcases this with h | h
          · rw [hb] at h; cases h
          · exact h
        refine wp_region_all fun md => ?_
        cases md with
        | any => exact main .any (done_back rfl back)
        | text => exact hx .text rfl
        | gc =>
          obtain ⟨g1, g2⟩ := topo_ok _ _ hm2
          exact main .gc (done_ord rfl (Region.linearise .gc ops 0) (fun i hi => hm3 i hi) g1 (fun p post j o h1 h2 e he hb => by simpa using g2 p post j o h1 h2 e he hb))
    · cases hl
  · cases hl
theorem draw_sound {loose : Bool} {dl : List DOper} {id : Nat} (hl : lowDraw loose P n ops = some (dl.map DOper.strip)) (hokd : okD dl = true) {Q : Ex → St → Prop} {σ : St} {a : Act} {w : World} (h : wDraw P G σ.next 0 dl Q σ) (hi : Inv G X n σ a w) : (Code.region id ops true).wp P (QRel G X n Q) a w :=
  draw_sound' (N := dl.length) hl hokd (by simp [fullB]; intro j hj; omega) (by rw [List.take_length]; exact h) hi fun σ' a' w' hq hi' => by
    rw [Nat.sub_self]; exact ⟨.normal, σ', trivial, hq, hi'⟩
end
section
variable {b : Bool} {l m : List DOper}
theorem drawS_skip : (VCode.skip = if b = true then VCode.draw l else .pre .skip) = False := by cases b <;> simp
theorem drawS_ret : (VCode.ret = if b = true then VCode.draw l else .pre .skip) = False := by cases b <;> simp
theorem drawS_exit (n : Nat) : (VCode.exit n = if b = true then VCode.draw l else .pre .skip) = False := by cases b <;> simp
theorem drawS_reg (x) : (VCode.reg x = if b = true then VCode.draw l else .pre .skip) = False := by cases b <;> simp
theorem drawS_orders (x) : (VCode.orders x = if b = true then VCode.draw l else .pre .skip) = False := by cases b <;> simp
theorem drawS_seq (x y) : (VCode.seq x y = if b = true then VCode.draw l else .pre .skip) = False := by cases b <;> simp
theorem drawS_cond (c x y) : (VCode.cond c x y = if b = true then VCode.draw l else .pre .skip) = False := by cases b <;> simp
theorem drawS_block (i x) : (VCode.block i x = if b = true then VCode.draw l else .pre .skip) = False := by cases b <;> simp
theorem drawS_loop (x) : (VCode.loop x = if b = true then VCode.draw l else .pre .skip) = False := by cases b <;> simp
theorem drawS_draw : (VCode.draw m = if b = true then VCode.draw l else .pre .skip) = (b = true ∧ m = l) := by cases b <;> simp
end

section
variable {P : Program} {G : Nat → Option (List D)} {X : Ctx} {n : Nat}

theorem leastOf {p : Nat → Prop} : (∃ m, p m) → ∃ m, p m ∧ ∀ k, p k → m ≤ k := by
  rintro ⟨m, hm⟩
  induction m using Nat.strongRecOn with
  | _ m ih =>
    by_cases h : ∃ k, k < m ∧ p k
    · obtain ⟨k, hk, hp⟩ := h; exact ih k hk hp
    · exact ⟨m, hm, fun k hp => Nat.le_of_not_lt fun hlt => h ⟨k, hlt, hp⟩⟩
theorem wOps_sound {ops : Array Oper} {Q : Ex → St → Prop} : ∀ (l : List Oper) (i : Nat) (vs : List VOper), (∀ (j : Nat) (o : Oper), l[j]? = some o → ops[i + j]? = some o) → l.mapM (lowOper P n ops) = some (vs.map VOper.strip) →
    ∀ (σ : St) (a : Act) (w : World), wOps P G vs Q σ → Inv G X n σ a w → wpOps P ops (QRel G X n Q) (List.range' i l.length) a w
  | [], i, vs, hl, hm, σ, a, w, h, hi => by
    simp only [List.mapM_nil, Option.pure_def, Option.some.injEq] at hm
    obtain rfl : vs = [] := List.map_eq_nil_iff.1 hm.symm
    exact ⟨.normal, σ, trivial, h, hi⟩
  | o :: l, i, vs, hl, hm, σ, a, w, h, hi => by
    simp only [List.mapM_cons, Option.bind_eq_bind, Option.bind_eq_some_iff, Option.pure_def, Option.some.injEq] at hm
    obtain ⟨vo0, h1, vs0, h2, hm⟩ := hm
    obtain ⟨vo, vs', rfl, rfl, rfl⟩ : ∃ vo vs', vs = vo :: vs' ∧ vo0 = vo.strip ∧ vs0 = vs'.map VOper.strip := by
      cases vs with
      | nil => simp at hm
      | cons vo vs' => simp only [List.map_cons, List.cons.injEq] at hm; exact ⟨vo, vs', rfl, hm.1, hm.2⟩
    have ho : ops[i]? = some o := hl 0 o (by simp)
    have ih := wOps_sound (Q := Q) l (i + 1) vs' (fun j o' hj => by have := hl (j + 1) o' (by simpa using hj); rw [← this]; congr 1; omega) h2
    simp only [List.length_cons, List.range'_succ, wpOps, ho]
    unfold lowOper at h1
    split at h1
    · rename_i hdst
      simp only [Option.bind_eq_some_iff] at h1
      obtain ⟨vop0, hlo, h1⟩ := h1
      obtain ⟨vdst, vop, vgd⟩ := vo
      simp only [VOper.strip] at h1
      have stepped : vop0 = vop.strip → wOp P G vop σ (fun σ' v => wOps P G vs' Q (σ'.putO o.dst v)) → o.wp P a w (wpOps P ops (QRel G X n Q) (List.range' (i + 1) l.length)) (QRel G X n Q) := by
        intro hvo hw
        refine wOp_sound (ops := ops) (vop := vop) (hvo ▸ hlo) hdst hi hw ?_
        intro σ' sv a' w' hk hi'
        exact ih _ _ _ hk hi'
      split at h1
      · rename_i hg
        simp only [Option.some.injEq, VOper.mk.injEq] at h1
        obtain ⟨rfl, hvo, rfl⟩ := h1
        have hwant : Region.wanted o (yielded ops a.tmps) = true := by simp [Region.wanted, hg]
        simp only [wOps] at h
        rw [if_pos hwant]
        exact .inl (stepped hvo h)
      · rename_i j want hg
        simp only [Option.bind_eq_some_iff] at h1
        obtain ⟨d, ⟨oj, hoj, hd⟩, h1⟩ := h1
        split at h1
        · rename_i hdn
          simp only [Option.some.injEq, VOper.mk.injEq] at h1
          obtain ⟨rfl, hvo, rfl⟩ := h1
          simp only [wOps] at h
          obtain ⟨v, hv, h⟩ := h
          obtain ⟨O, Im, s, hf, hdf, hs⟩ := hi
          have hy : yielded ops a.tmps j = v := by
            rw [yielded_of (d := d) (by simp [hoj, hd]) (by rw [hs]; exact hdn)]
            exact grd_rel (tmAt_in X.gh a.tmps (by rw [hs]; exact hdn) ▸ s.slot d) hv
          by_cases hvw : v = some want
          · rw [if_pos hvw] at h
            have hwant : Region.wanted o (yielded ops a.tmps) = true := by simp [Region.wanted, hg, hy, hvw]
            rw [if_pos hwant]
            exact .inl (stepped hvo h)
          · rw [if_neg hvw] at h
            have hwant : ¬ Region.wanted o (yielded ops a.tmps) = true := by simp [Region.wanted, hg, hy, hvw]
            rw [if_neg hwant]
            exact ih _ _ _ h (Inv.und ⟨O, Im, s, hf, hdf, hs⟩ hdst)
        · cases h1
    · cases h1

theorem wOps_sound_k {ops : Array Oper} {Q Q0 : Ex → St → Prop} {rest : List Nat} (hk0 : ∀ σ a w, Q0 .normal σ → Inv G X n σ a w → wpOps P ops (QRel G X n Q) rest a w) : ∀ (l : List Oper) (i : Nat) (vs : List VOper), (∀ (j : Nat) (o : Oper), l[j]? = some o → ops[i + j]? = some o) → l.mapM (lowOper P n ops) = some (vs.map VOper.strip) →
    ∀ (σ : St) (a : Act) (w : World), wOps P G vs Q0 σ → Inv G X n σ a w → wpOps P ops (QRel G X n Q) (List.range' i l.length ++ rest) a w
  | [], i, vs, hl, hm, σ, a, w, h, hi => by
    simp only [List.mapM_nil, Option.pure_def, Option.some.injEq] at hm
    obtain rfl : vs = [] := List.map_eq_nil_iff.1 hm.symm
    exact hk0 _ _ _ h hi
  | o :: l, i, vs, hl, hm, σ, a, w, h, hi => by
    simp only [List.mapM_cons, Option.bind_eq_bind, Option.bind_eq_some_iff, Option.pure_def, Option.some.injEq] at hm
    obtain ⟨vo0, h1, vs0, h2, hm⟩ := hm
    obtain ⟨vo, vs', rfl, rfl, rfl⟩ : ∃ vo vs', vs = vo :: vs' ∧ vo0 = vo.strip ∧ vs0 = vs'.map VOper.strip := by
      cases vs with
      | nil => simp at hm
      | cons vo vs' => simp only [List.map_cons, List.cons.injEq] at hm; exact ⟨vo, vs', rfl, hm.1, hm.2⟩
    have ho : ops[i]? = some o := hl 0 o (by simp)
    have ih := wOps_sound_k (Q := Q) hk0 l (i + 1) vs' (fun j o' hj => by have := hl (j + 1) o' (by simpa using hj); rw [← this]; congr 1; omega) h2
    simp only [List.length_cons, List.range'_succ, List.cons_append, wpOps, ho]
    unfold lowOper at h1
    split at h1
    · rename_i hdst
      simp only [Option.bind_eq_some_iff] at h1
      obtain ⟨vop0, hlo, h1⟩ := h1
      obtain ⟨vdst, vop, vgd⟩ := vo
      simp only [VOper.strip] at h1
      have stepped : vop0 = vop.strip → wOp P G vop σ (fun σ' v => wOps P G vs' Q0 (σ'.putO o.dst v)) → o.wp P a w (wpOps P ops (QRel G X n Q) (List.range' (i + 1) l.length ++ rest)) (QRel G X n Q) := by
        intro hvo hw
        refine wOp_sound (ops := ops) (vop := vop) (hvo ▸ hlo) hdst hi hw ?_
        intro σ' sv a' w' hk hi'
        exact ih _ _ _ hk hi'
      split at h1
      · rename_i hg
        simp only [Option.some.injEq, VOper.mk.injEq] at h1
        obtain ⟨rfl, hvo, rfl⟩ := h1
        have hwant : Region.wanted o (yielded ops a.tmps) = true := by simp [Region.wanted, hg]
        simp only [wOps] at h
        rw [if_pos hwant]
        exact .inl (stepped hvo h)
      · rename_i j want hg
        simp only [Option.bind_eq_some_iff] at h1
        obtain ⟨d, ⟨oj, hoj, hd⟩, h1⟩ := h1
        split at h1
        · rename_i hdn
          simp only [Option.some.injEq, VOper.mk.injEq] at h1
          obtain ⟨rfl, hvo, rfl⟩ := h1
          simp only [wOps] at h
          obtain ⟨v, hv, h⟩ := h
          obtain ⟨O, Im, s, hf, hdf, hs⟩ := hi
          have hy : yielded ops a.tmps j = v := by
            rw [yielded_of (d := d) (by simp [hoj, hd]) (by rw [hs]; exact hdn)]
            exact grd_rel (tmAt_in X.gh a.tmps (by rw [hs]; exact hdn) ▸ s.slot d) hv
          by_cases hvw : v = some want
          · rw [if_pos hvw] at h
            have hwant : Region.wanted o (yielded ops a.tmps) = true := by simp [Region.wanted, hg, hy, hvw]
            rw [if_pos hwant]
            exact .inl (stepped hvo h)
          · rw [if_neg hvw] at h
            have hwant : ¬ Region.wanted o (yielded ops a.tmps) = true := by simp [Region.wanted, hg, hy, hvw]
            rw [if_neg hwant]
            exact ih _ _ _ h (Inv.und ⟨O, Im, s, hf, hdf, hs⟩ hdst)
        · cases h1
    · cases h1

theorem mapM_get {α β : Type} {f : α → Option β} : ∀ {l : List α} {ys : List β}, l.mapM f = some ys → ys.length = l.length ∧ ∀ (i : Nat) (x : α), l[i]? = some x → ∃ y, ys[i]? = some y ∧ f x = some y
  | [], ys, h => by simp only [List.mapM_nil, Option.pure_def, Option.some.injEq] at h; subst h; exact ⟨rfl, fun i x hx => by simp at hx⟩
  | x :: l, ys, h => by
    simp only [List.mapM_cons, Option.bind_eq_bind, Option.bind_eq_some_iff, Option.pure_def, Option.some.injEq] at h
    obtain ⟨y, h1, ys', h2, rfl⟩ := h
    obtain ⟨g1, g2⟩ := mapM_get h2
    refine ⟨by simp [g1], fun i x' hx => ?_⟩
    cases i with
    | zero => simp at hx; subst hx; exact ⟨y, by simp, h1⟩
    | succ i => simpa using g2 i x' (by simpa using hx)
/-- In any one order. -/
theorem wRegs_sound {ops : Array Oper} {Q : Ex → St → Prop} : ∀ (ls : List (List VOper)) (l : List Oper) (i : Nat), (∀ (j : Nat) (o : Oper), l[j]? = some o → ops[i + j]? = some o) → l.mapM (lowOper P n ops) = some (ls.flatten.map VOper.strip) →
    ∀ (σ : St) (a : Act) (w : World), wRegs P G ls Q σ → Inv G X n σ a w → wpOps P ops (QRel G X n Q) (List.range' i l.length) a w
  | [], l, i, hl, hm, σ, a, w, h, hi => wOps_sound l i [] hl hm σ a w h hi
  | [b], l, i, hl, hm, σ, a, w, h, hi => wOps_sound l i b hl (by simpa using hm) σ a w h hi
  | b :: c :: r, l, i, hl, hm, σ, a, w, h, hi => by
    have hlen := (mapM_get hm).1
    simp only [List.flatten_cons, List.length_append, List.length_map] at hlen
    have e : l = l.take b.length ++ l.drop b.length := (List.take_append_drop _ _).symm
    have hm' := hm
    rw [e] at hm'
    simp only [List.mapM_append, Option.bind_eq_bind, Option.bind_eq_some_iff, Option.pure_def, Option.some.injEq] at hm'
    obtain ⟨y1, h1, y2, h2, h3⟩ := hm'
    have hl1 : y1.length = (b.map VOper.strip).length := by rw [(mapM_get h1).1, List.length_take, List.length_map]; omega
    rw [List.flatten_cons, List.map_append] at h3
    obtain ⟨rfl, rfl⟩ := List.append_inj h3 hl1
    clear hl1
    have e2 : List.range' i l.length = List.range' i (l.take b.length).length ++ List.range' (i + b.length) (l.drop b.length).length := by
      rw [List.length_take, Nat.min_eq_left (by omega), List.length_drop, List.range'_append_1]; congr 1; omega
    rw [e2]
    refine wOps_sound_k (Q := Q) (Q0 := fun e σ' => match e with | .normal => ∃ sl ob, Wk σ' sl ob ∧ wRegs P G (c :: r) Q (St.of sl ob) | _ => False) ?_ (l.take b.length) i b (fun j o hj => hl j o (by
      rw [List.getElem?_take] at hj; split at hj
      · exact hj
      · cases hj)) h1 σ a w h hi
    rintro σ' a' w' ⟨sl, ob, hw, hq⟩ hi'
    exact wRegs_sound (c :: r) (l.drop b.length) (i + b.length) (fun j o hj => by
      rw [List.getElem?_drop] at hj
      have := hl _ _ hj
      rw [← this]; congr 1; omega) h2 _ _ _ hq (hi'.wk hw)
theorem wOps_ord {ops : Array Oper} {Q : Ex → St → Prop} {vs : List VOper} (hm : ops.toList.mapM (lowOper P n ops) = some vs) : ∀ (ord : List Nat), (∀ i ∈ ord, i < ops.size) →
    ∀ (σ : St) (a : Act) (w : World), wOps P G (ord.map fun i => vs.getD i default) Q σ → Inv G X n σ a w → wpOps P ops (QRel G X n Q) ord a w
  | [], _, σ, a, w, h, hi => ⟨.normal, σ, trivial, h, hi⟩
  | i :: l, hlt, σ, a, w, h, hi => by
    have ih := wOps_ord (Q := Q) hm l (fun j hj => hlt j (by simp [hj]))
    have hi0 := hlt i (by simp)
    obtain ⟨vo, hv, h1⟩ := (mapM_get hm).2 i ops[i] (by simp [hi0])
    have hvd : vs.getD i default = vo := by simp [List.getD_eq_getElem?_getD, hv]
    have ho : ops[i]? = some ops[i] := by simp [hi0]
    generalize ops[i] = o at *
    rw [List.map_cons, hvd] at h
    generalize (l.map fun i => vs.getD i default) = vs' at *
    simp only [wpOps, ho]
    unfold lowOper at h1
    split at h1
    · rename_i hdst
      simp only [Option.bind_eq_some_iff] at h1
      obtain ⟨vop, hlo, h1⟩ := h1
      have stepped : wOp P G vop σ (fun σ' v => wOps P G vs' Q (σ'.putO o.dst v)) → o.wp P a w (wpOps P ops (QRel G X n Q) l) (QRel G X n Q) := by
        intro hw
        refine wOp_sound (ops := ops) (by rw [lowOpB_strip hlo]; exact hlo) hdst hi hw ?_
        intro σ' sv a' w' hk hi'
        exact ih _ _ _ hk hi'
      split at h1
      · rename_i hg
        simp only [Option.some.injEq] at h1
        subst h1
        have hwant : Region.wanted o (yielded ops a.tmps) = true := by simp [Region.wanted, hg]
        simp only [wOps] at h
        rw [if_pos hwant]
        exact .inl (stepped h)
      · rename_i j want hg
        simp only [Option.bind_eq_some_iff] at h1
        obtain ⟨d, ⟨oj, hoj, hd⟩, h1⟩ := h1
        split at h1
        · rename_i hdn
          simp only [Option.some.injEq] at h1
          subst h1
          simp only [wOps] at h
          obtain ⟨v, hv, h⟩ := h
          obtain ⟨O, Im, s, hf, hdf, hs⟩ := hi
          have hy : yielded ops a.tmps j = v := by
            rw [yielded_of (d := d) (by simp [hoj, hd]) (by rw [hs]; exact hdn)]
            exact grd_rel (tmAt_in X.gh a.tmps (by rw [hs]; exact hdn) ▸ s.slot d) hv
          by_cases hvw : v = some want
          · rw [if_pos hvw] at h
            have hwant : Region.wanted o (yielded ops a.tmps) = true := by simp [Region.wanted, hg, hy, hvw]
            rw [if_pos hwant]
            exact .inl (stepped h)
          · rw [if_neg hvw] at h
            have hwant : ¬ Region.wanted o (yielded ops a.tmps) = true := by simp [Region.wanted, hg, hy, hvw]
            rw [if_neg hwant]
            exact ih _ _ _ h (Inv.und ⟨O, Im, s, hf, hdf, hs⟩ hdst)
        · cases h1
    · cases h1
theorem allGo_mem {md : Region.Mode} {ops : Array Oper} : ∀ (fuel t : Nat) (listed : Array Bool), Region.linearise.go md ops fuel t listed [] ∈ allGo md ops fuel listed ∧ ∀ i ∈ Region.linearise.go md ops fuel t listed [], i < ops.size := by
  intro fuel
  induction fuel with
  | zero => intro t listed; exact ⟨by simp [Region.linearise.go, allGo], fun i hi => by simp [Region.linearise.go] at hi⟩
  | succ fuel ih =>
    intro t listed
    simp only [Region.linearise.go, allGo]
    generalize hrs : ((List.range ops.size).filter fun i => !listed.getD i true && ((ops[i]?).map (·.after.all fun e => !Region.binds md e || listed.getD e.on false)).getD false) = rs
    have hin : ∀ i ∈ rs, i < ops.size := fun i hi => by rw [← hrs] at hi; exact List.mem_range.1 (List.mem_filter.1 hi).1
    cases rs with
    | nil => exact ⟨by simp, fun i hi => by simp at hi⟩
    | cons r rs =>
      have hlt : t % (r :: rs).length < (r :: rs).length := Nat.mod_lt _ (by simp)
      rw [List.getElem?_eq_getElem hlt]
      simp only
      rw [linearise_go_acc, List.reverse_singleton, List.singleton_append]
      have hmem := List.getElem_mem hlt
      obtain ⟨h1, h2⟩ := ih (t / (r :: rs).length) (listed.setIfInBounds (r :: rs)[t % (r :: rs).length] true)
      refine ⟨?_, fun i hi => ?_⟩
      · rw [List.mem_flatMap]
        exact ⟨_, hmem, List.mem_map.2 ⟨_, h1, rfl⟩⟩
      · rcases List.mem_cons.1 hi with rfl | hi
        · exact hin _ hmem
        · exact h2 i hi
theorem wAll_mem {Q : Ex → St → Prop} {σ : St} : ∀ {l : List (List VOper)}, wAll P G l Q σ → ∀ o ∈ l, wOps P G o Q σ
  | [], _, o, ho => by cases ho
  | x :: l, h, o, ho => by
    rcases List.mem_cons.1 ho with rfl | ho
    · exact h.1
    · exact wAll_mem h.2 o ho
theorem orders_sound {id : Nat} {ops : Array Oper} {v : VCode} (hl : lowOrders P n ops = some v) {Q : Ex → St → Prop} {σ : St} {a : Act} {w : World} (h : wpv P G v Q σ) (hi : Inv G X n σ a w) : (Code.region id ops true).wp P (QRel G X n Q) a w := by
  unfold lowOrders at hl
  split at hl
  · simp only [Option.map_eq_some_iff] at hl
    obtain ⟨vs, hm, rfl⟩ := hl
    refine wp_region_draw fun t => ?_
    have hi' : Inv G X n σ a { w with drawn := w.drawn + 1 } := by
      obtain ⟨O, Im, s, hrest⟩ := hi
      exact ⟨O, Im, s.drawn _, hrest⟩
    have fin : ∀ ord, ord ∈ allOrders P ops → (∀ i ∈ ord, i < ops.size) → wpOps P ops (QRel G X n Q) ord a { w with drawn := w.drawn + 1 } := fun ord ho hlt =>
      wOps_ord hm ord hlt σ a _ (wAll_mem h _ (List.mem_map.2 ⟨ord, ho, rfl⟩)) hi'
    simp only [Region.schedule]
    split
    · rename_i hc
      obtain ⟨h1, h2⟩ := allGo_mem (md := .any) (ops := ops) ops.size t (Array.replicate ops.size false)
      exact fin _ (by unfold allOrders; rw [if_pos hc]; exact h1) h2
    · rename_i hc
      split
      · obtain ⟨h1, h2⟩ := allGo_mem (md := .text) (ops := ops) ops.size (t / 2) (Array.replicate ops.size false)
        exact fin _ (by unfold allOrders; rw [if_neg hc]; exact List.mem_append_left _ h1) h2
      · obtain ⟨h1, h2⟩ := allGo_mem (md := .gc) (ops := ops) ops.size (t / 2) (Array.replicate ops.size false)
        exact fin _ (by unfold allOrders; rw [if_neg hc]; exact List.mem_append_right _ h1) h2
  · cases hl
theorem wOps_mono {Q Q' : Ex → St → Prop} (hq : ∀ e σ, Q e σ → Q' e σ) : ∀ (vs : List VOper) (σ : St), wOps P G vs Q σ → wOps P G vs Q' σ := by
  have wop : ∀ (op : VOp) (σ : St) {K K' : St → SV → Prop}, (∀ σ v, K σ v → K' σ v) → wOp P G op σ K → wOp P G op σ K' := by
    intro op σ K K' hk h
    have cv : ∀ {f svs}, CallV P G f svs σ K → CallV P G f svs σ K' := fun h => h.elim
      (fun h => .inl ⟨h.1, fun X tm w O Im vals s hf r => (h.2 X tm w O Im vals s hf r).mono fun e w' ⟨v, σ', sv, O', Im', h1, h2, h3⟩ => ⟨v, σ', sv, O', Im', h1, hk _ _ h2, h3⟩⟩)
      (fun h => .inr fun X tm w O Im vals s hf r => let ⟨v, w', σ', sv, O', Im', h1, h2, h3⟩ := h X tm w O Im vals s hf r; ⟨v, w', σ', sv, O', Im', h1, hk _ _ h2, h3⟩)
    cases op
    case call f args => exact cv h
    case callv f args =>
      simp only [wOp] at h ⊢
      split at h
      · exact cv h
      · exact cv h
      · exact h.elim
    case len x =>
      simp only [wOp] at h ⊢
      obtain ⟨n, e, h⟩ := h
      exact ⟨n, e, fun hn => hk _ _ (h hn)⟩
    case isnil neg x =>
      simp only [wOp] at h ⊢
      obtain ⟨n, e, h⟩ := h
      refine ⟨n, e, ?_⟩
      by_cases h0 : n = 0
      · rw [if_pos h0] at h ⊢; exact fun b => hk _ _ (h b)
      · rw [if_neg h0] at h ⊢; exact hk _ _ h
    case allocb => exact hk _ _ h
    all_goals
      simp only [wOp] at h ⊢
      obtain ⟨r, e, k⟩ := h
      exact ⟨r, e, hk _ _ k⟩
  intro vs
  induction vs with
  | nil => intro σ h; exact hq _ _ h
  | cons o r ih =>
    intro σ h
    simp only [wOps] at h ⊢
    split at h
    · exact wop _ _ (fun σ v h => ih _ h) h
    · obtain ⟨v, hv, h⟩ := h
      refine ⟨v, hv, ?_⟩
      split at h
      · rename_i hvw; rw [if_pos hvw]; exact wop _ _ (fun σ v h => ih _ h) h
      · rename_i hvw; rw [if_neg hvw]; exact ih _ h

/-- The room of a slice of one's own is some number. -/
theorem Inv.room {σ : St} {a : Act} {w : World} (hi : Inv G X n σ a w) {t id off len sz : Nat} {rows : List (List D)} {fz : Bool} (h1 : σ.get t = .one (.r id off len)) (h2 : σ.obj id = some (.arr sz rows fz)) :
    ∃ cp, len ≤ cp ∧ cp ≤ maxLen ∧ Inv G X n (σ.put t (.one (.rc id off len cp))) a w := by
  obtain ⟨O, Im, s, hf, hd, hs⟩ := hi
  obtain ⟨l, hl, hro, _⟩ := s.obj id _ h2
  have ht := s.slot t
  have put : ∀ cp, RelV w.heap Im O (.one (.rc id off len cp)) (tmAt X.gh a.tmps t) → Inv G X n (σ.put t (.one (.rc id off len cp))) a w := by
    intro cp r
    refine ⟨O, Im, ⟨s.ext, s.ownlt, s.imlt, s.im0, s.im1, s.dead, s.obj, s.disj, fun u => ?_, s.glob⟩, hf, hd, hs⟩
    show RelV _ _ _ (if u = t then _ else _) _
    by_cases e : u = t
    · subst e; rw [if_pos rfl]; exact r
    · rw [if_neg e]; exact s.slot u
  rw [show σ.slots t = _ from h1] at ht
  generalize hv : tmAt X.gh a.tmps t = v at ht put
  cases ht.one_inv with
  | rd _ _ _ _ g1 _ => rw [g1] at hl; cases hl
  | rn _ cap sz' a0 g1 => exact ⟨0, Nat.le_refl _, Nat.zero_le _, put 0 (.one _ _ (.rcn id cap sz' a0 g1))⟩
  | r _ _ _ b cap sz' ad c g1 g2 g3 g4 =>
    rw [g1] at hl; cases hl
    cases hro with
    | arr _ _ _ _ _ cur tyc fr k1 k2 k3 k4 k5 k6 k7 k8 => exact ⟨c, g2, by omega, put c (.one _ _ (.rc id off len c b cap sz ad g1 g2 g3 g4))⟩

def VCode.isWk : VCode → Bool
  | .wk _ => true
  | .pre _ => true
  | .room .. => true
  | .gho _ => true
  | _ => false
theorem drawt_sound {loose : Bool} {ops : Array Oper} {dl : List DOper} {id m : Nat} (hl : lowDraw loose P n ops = some (dl.map DOper.strip)) (hok : (okD dl && fullB m dl) = true) {Q : Ex → St → Prop} {σ : St} {a : Act} {w : World} (h : wpv P G (.drawt m dl) Q σ) (hi : Inv G X n σ a w) : (Code.region id ops true).wp P (QRel G X n Q) a w := by
  rw [Bool.and_eq_true] at hok
  have hm : ops.toList.mapM (lowOper P n ops) = some (dl.map fun d => d.o.strip) := by
    unfold lowDraw at hl
    split at hl
    · simp only [Option.bind_eq_some_iff] at hl
      obtain ⟨vs, hvs, hl⟩ := hl
      split at hl
      · simp only [Option.some.injEq] at hl
        rw [hvs]
        congr 1
        have : (vs.mapIdx (mkD vs (closeM ops.toList []))).map DOper.o = vs := by
          refine List.ext_getElem? fun i => ?_
          simp only [List.getElem?_map, List.getElem?_mapIdx]
          cases vs[i]? <;> rfl
        rw [← this, hl, List.map_map]
        rfl
      · cases hl
    · cases hl
  refine draw_sound' (N := m) hl hok.1 hok.2 h hi fun σ' a' w' hq hi' => ?_
  have hlen : dl.length = ops.toList.length := by have := (mapM_get hm).1; simpa using this
  have := wOps_sound (P := P) (G := G) (X := X) (ops := ops) (Q := Q) (ops.toList.drop m) m ((dl.drop m).map DOper.o) (fun j o hj => by
      rw [List.getElem?_drop] at hj; simpa using hj) (by
      have e : ops.toList = ops.toList.take m ++ ops.toList.drop m := (List.take_append_drop _ _).symm
      rw [e, List.mapM_append] at hm
      simp only [Option.bind_eq_bind, Option.bind_eq_some_iff, Option.pure_def, Option.some.injEq] at hm
      obtain ⟨y1, h1, y2, h2, h3⟩ := hm
      rw [h2]
      congr 1
      have hl1 := (mapM_get h1).1
      have e2 : (dl.map fun d => d.o.strip).drop m = y2 := by
        rw [← h3]
        rcases Nat.le_total m ops.toList.length with hle | hle
        · rw [List.drop_append_of_le_length (by rw [hl1, List.length_take]; omega), List.drop_of_length_le (by rw [hl1, List.length_take]; omega), List.nil_append]
        · have : y2 = [] := by
            have := (mapM_get h2).1
            rw [List.length_drop] at this
            exact List.eq_nil_of_length_eq_zero (by omega)
          subst this
          rw [List.drop_of_length_le (by rw [List.append_nil, hl1, List.length_take]; omega)]
      rw [← e2, ← List.map_drop, List.map_map]; rfl) σ' a' w' hq hi'
  rw [List.length_drop, ← hlen] at this
  exact this
/-- What the machine knows nothing of. -/
theorem Inv.frz {σ : St} {a : Act} {w : World} (hi : Inv G X n σ a w) (gs : List GC) : Inv G X n (σ.frz gs) a w := by
  obtain ⟨O, Im, s, hf, hd, hs⟩ := hi
  obtain ⟨O', Im', s', hf', _⟩ := (frz_ok gs s hf).ex
  exact ⟨O', Im', s', hf', hd, hs⟩
/-- Code: what is shown of the trees holds of the machine. -/
theorem wpv_sound : ∀ (c : Code) (v : VCode), lowCode P n c = some v.strip → ∀ (Q : Ex → St → Prop) (σ : St) (a : Act) (w : World), wpv P G v Q σ → Inv G X n σ a w → c.wp P (QRel G X n Q) a w := by
  have wrap : ∀ (c : Code), (∀ (v : VCode), v.isWk = false → lowCode P n c = some v.strip → ∀ (Q : Ex → St → Prop) (σ : St) (a : Act) (w : World), wpv P G v Q σ → Inv G X n σ a w → c.wp P (QRel G X n Q) a w) →
      ∀ (v : VCode), lowCode P n c = some v.strip → ∀ (Q : Ex → St → Prop) (σ : St) (a : Act) (w : World), wpv P G v Q σ → Inv G X n σ a w → c.wp P (QRel G X n Q) a w := by
    intro c hc v
    induction v with
    | wk v ih =>
      intro hl Q σ a w h hi
      refine wp_mono (ih hl _ σ a w h hi) ?_
      rintro e a' w' ⟨x, σ', hr, hq, hi'⟩
      cases x <;> cases e <;> simp only [exRel] at hr
      · obtain ⟨sl, ob, hw, hq⟩ := hq
        exact ⟨.normal, _, trivial, hq, hi'.wk hw⟩
      · subst hr; exact ⟨.exit _, _, rfl, hq, hi'⟩
      · exact ⟨.ret, _, trivial, hq, hi'⟩
    | pre v ih =>
      intro hl Q σ a w h hi
      obtain ⟨sl, ob, hw, h⟩ := h
      exact ih hl Q _ a w h (hi.wk hw)
    | gho v ih =>
      intro hl Q σ a w h hi
      obtain ⟨gs, h⟩ := h
      exact ih hl Q _ a w h (hi.frz gs)
    | room t v ih =>
      intro hl Q σ a w h hi
      obtain ⟨id, off, len, sz, rows, fz, h1, h2, h⟩ := h
      obtain ⟨cp, h3, h4, hi'⟩ := hi.room h1 h2
      exact ih hl Q _ a w (h cp h3 h4) hi'
    | _ => exact hc _ rfl
  intro c
  induction c with
  | skip => refine wrap _ fun v hv hl Q σ a w h hi => ?_; cases v <;> simp only [lowCode, VCode.strip, drawS_skip, drawS_ret, drawS_exit, drawS_reg, drawS_orders, drawS_seq, drawS_cond, drawS_block, drawS_loop, drawS_draw, Option.some.injEq, reduceCtorEq] at hl <;> first | exact wp_skip ⟨.normal, σ, trivial, h, hi⟩ | cases hv
  | label l => refine wrap _ fun v hv hl Q σ a w h hi => ?_; cases v <;> simp only [lowCode, VCode.strip, drawS_skip, drawS_ret, drawS_exit, drawS_reg, drawS_orders, drawS_seq, drawS_cond, drawS_block, drawS_loop, drawS_draw, Option.some.injEq, reduceCtorEq] at hl <;> first | exact wp_label ⟨.normal, σ, trivial, h, hi⟩ | cases hv
  | region id ops draw =>
    refine wrap _ fun v hv hl Q σ a w h hi => ?_
    simp only [lowCode] at hl
    split at hl
    · rename_i hd
      subst hd
      split at hl
      · rename_i dl h1
        replace h1 := lowDrawS_of h1
        simp only [Option.some.injEq] at hl
        cases v <;> simp only [VCode.strip, drawS_skip, drawS_ret, drawS_exit, drawS_reg, drawS_orders, drawS_seq, drawS_cond, drawS_block, drawS_loop, drawS_draw, reduceCtorEq, VCode.draw.injEq] at hl <;> first | exact draw_sound (by rw [h1, hl.2]) hl.1 h hi | exact drawt_sound (by rw [h1, hl.2]) hl.1 h hi | cases hv
      · split at hl
        case h_2 =>
          simp only [Option.map_eq_some_iff] at hl
          obtain ⟨dl, h1, hl⟩ := hl
          cases v <;> simp only [VCode.strip, drawS_skip, drawS_ret, drawS_exit, drawS_reg, drawS_orders, drawS_seq, drawS_cond, drawS_block, drawS_loop, drawS_draw, reduceCtorEq, VCode.draw.injEq] at hl <;> first | exact draw_sound (by rw [h1, hl.2]) hl.1 h hi | exact drawt_sound (by rw [h1, hl.2]) hl.1 h hi | cases hv
        rename_i c0 hl0
        have hl : lowOrders P n ops = some v.strip := by rw [hl0]; exact hl
        have hst : v.strip = v := by
          unfold lowOrders at hl
          split at hl
          · simp only [Option.map_eq_some_iff] at hl
            obtain ⟨vs, _, hl⟩ := hl
            cases v <;> simp only [VCode.strip, drawS_skip, drawS_ret, drawS_exit, drawS_reg, drawS_orders, drawS_seq, drawS_cond, drawS_block, drawS_loop, drawS_draw, reduceCtorEq] at hl <;> first | rfl | cases hv
          · cases hl
        rw [hst] at hl
        exact orders_sound hl h hi
    · rename_i hd
      simp only [Option.map_eq_some_iff] at hl
      obtain ⟨vs, h1, hl⟩ := hl
      obtain rfl : draw = false := by simpa using hd
      cases v <;> simp only [VCode.strip, drawS_skip, drawS_ret, drawS_exit, drawS_reg, drawS_orders, drawS_seq, drawS_cond, drawS_block, drawS_loop, drawS_draw, reduceCtorEq, VCode.reg.injEq] at hl <;> first | cases hv; done | skip
      case regs ls =>
        refine wp_region ?_
        have := wRegs_sound (X := X) ls ops.toList 0 (ops := ops) (Q := Q) (fun j o hj => by simpa using hj) (by rw [h1, hl]) σ a w h hi
        rwa [Array.length_toList, ← List.range_eq_range'] at this
      refine wp_region ?_
      have := wOps_sound (X := X) ops.toList 0 _ (ops := ops) (Q := Q) (fun j o hj => by simpa using hj) (by rw [h1, hl]) σ a w h hi
      rwa [Array.length_toList, ← List.range_eq_range'] at this
  | seq x y ihx ihy =>
    refine wrap _ fun v hv hl Q σ a w h hi => ?_
    simp only [lowCode, Option.map_eq_some_iff, Option.bind_eq_some_iff] at hl
    obtain ⟨vx, h1, vy, h2, hl⟩ := hl
    cases v <;> simp only [VCode.strip, drawS_skip, drawS_ret, drawS_exit, drawS_reg, drawS_orders, drawS_seq, drawS_cond, drawS_block, drawS_loop, drawS_draw, reduceCtorEq, VCode.seq.injEq] at hl <;> first | cases hv; done | skip
    obtain ⟨rfl, rfl⟩ := hl
    refine wp_seq (wp_mono (ihx _ h1 _ σ a w h hi) ?_)
    rintro e a' w' ⟨x, σ', hr, hq, hi'⟩
    cases x <;> cases e <;> simp only [exRel] at hr
    · exact ihy _ h2 _ _ _ _ hq hi'
    · subst hr; exact ⟨.exit _, _, rfl, hq, hi'⟩
    · exact ⟨.ret, _, trivial, hq, hi'⟩
  | cond c x y ihx ihy =>
    refine wrap _ fun v hv hl Q σ a w h hi => ?_
    simp only [lowCode, Option.map_eq_some_iff, Option.bind_eq_some_iff] at hl
    obtain ⟨vc, h0, vx, h1, vy, h2, hl⟩ := hl
    cases v <;> simp only [VCode.strip, drawS_skip, drawS_ret, drawS_exit, drawS_reg, drawS_orders, drawS_seq, drawS_cond, drawS_block, drawS_loop, drawS_draw, reduceCtorEq, VCode.cond.injEq] at hl <;> first | cases hv; done | skip
    obtain ⟨rfl, rfl, rfl⟩ := hl
    simp only [wpv] at h
    obtain ⟨t, ht, h⟩ := h
    obtain ⟨O, Im, s, hrest⟩ := hi
    have hb := bool_inv (ev_rel s h0) ht
    refine wp_cond hb ?_
    cases t with
    | true => exact ihx _ h1 _ _ _ _ (by simpa using h) ⟨O, Im, s, hrest⟩
    | false => exact ihy _ h2 _ _ _ _ (by simpa using h) ⟨O, Im, s, hrest⟩
  | block id c ih =>
    refine wrap _ fun v hv hl Q σ a w h hi => ?_
    simp only [lowCode, Option.map_eq_some_iff] at hl
    obtain ⟨vc, h1, hl⟩ := hl
    cases v <;> simp only [VCode.strip, drawS_skip, drawS_ret, drawS_exit, drawS_reg, drawS_orders, drawS_seq, drawS_cond, drawS_block, drawS_loop, drawS_draw, reduceCtorEq, VCode.block.injEq] at hl <;> first | cases hv; done | skip
    obtain ⟨rfl, rfl⟩ := hl
    refine wp_block (wp_mono (ih _ h1 _ σ a w h hi) ?_)
    rintro e a' w' ⟨x, σ', hr, hq, hi'⟩
    cases x <;> cases e <;> simp only [exRel] at hr
    · exact ⟨.normal, _, trivial, hq, hi'⟩
    · subst hr
      simp only [Exit.inBlock] at hq ⊢
      split
      · rename_i he; rw [if_pos he] at hq; exact ⟨.normal, _, trivial, hq, hi'⟩
      · rename_i he; rw [if_neg he] at hq; exact ⟨.exit _, _, rfl, hq, hi'⟩
    · exact ⟨.ret, _, trivial, hq, hi'⟩
  | loop c ih =>
    refine wrap _ fun v hv hl Q σ a w h hi => ?_
    simp only [lowCode, Option.map_eq_some_iff] at hl
    obtain ⟨vc, h1, hl⟩ := hl
    cases v <;> simp only [VCode.strip, drawS_skip, drawS_ret, drawS_exit, drawS_reg, drawS_orders, drawS_seq, drawS_cond, drawS_block, drawS_loop, drawS_draw, reduceCtorEq, VCode.loop.injEq] at hl <;> first | cases hv; done | skip
    subst hl
    simp only [wpv] at h
    obtain ⟨I, m0, hI0, hstep⟩ := h
    let J : Act → World → Nat → Prop := fun a w m => ∃ σ, I m σ ∧ Inv G X n σ a w
    open Classical in
    let μ : Act → World → Nat := fun a w => if hex : ∃ m, J a w m then (leastOf hex).choose else 0
    have toJ : ∀ {m : Nat} {σ : St} {a : Act} {w : World}, (I m σ ∨ ∃ sl ob, Wk σ sl ob ∧ I m (St.of sl ob)) → Inv G X n σ a w → J a w m := by
      intro m σ a w h hi
      rcases h with h | ⟨sl, ob, hw, h⟩
      · exact ⟨σ, h, hi⟩
      · exact ⟨_, h, hi.wk hw⟩
    refine wp_loop (fun a w => ∃ m, J a w m) μ ⟨m0, toJ hI0 hi⟩ ?_
    intro a w hex
    have hμ : μ a w = (leastOf hex).choose := by simp only [μ]; rw [dif_pos hex]
    obtain ⟨σ', hIm, hi'⟩ := (leastOf hex).choose_spec.1
    refine wp_mono (ih _ h1 _ σ' a w (hstep _ _ hIm) hi') ?_
    rintro e a' w' ⟨x, σ'', hr, hq, hi''⟩
    cases x <;> cases e <;> simp only [exRel] at hr
    · obtain ⟨m', hm', hI'⟩ := hq
      have hex' : ∃ m, J a' w' m := ⟨m', toJ hI' hi''⟩
      refine ⟨hex', ?_⟩
      have : μ a' w' = (leastOf hex').choose := by simp only [μ]; rw [dif_pos hex']
      rw [this, hμ]
      exact Nat.lt_of_le_of_lt ((leastOf hex').choose_spec.2 _ (toJ hI' hi'')) hm'
    · subst hr; exact ⟨.exit _, _, rfl, hq, hi''⟩
    · exact ⟨.ret, _, trivial, hq, hi''⟩
  | exit id => refine wrap _ fun v hv hl Q σ a w h hi => ?_; cases v <;> simp only [lowCode, VCode.strip, drawS_skip, drawS_ret, drawS_exit, drawS_reg, drawS_orders, drawS_seq, drawS_cond, drawS_block, drawS_loop, drawS_draw, Option.some.injEq, reduceCtorEq, VCode.exit.injEq] at hl <;> first | (subst hl; exact wp_exit ⟨.exit _, σ, rfl, h, hi⟩) | cases hv
  | ret => refine wrap _ fun v hv hl Q σ a w h hi => ?_; cases v <;> simp only [lowCode, VCode.strip, drawS_skip, drawS_ret, drawS_exit, drawS_reg, drawS_orders, drawS_seq, drawS_cond, drawS_block, drawS_loop, drawS_draw, Option.some.injEq, reduceCtorEq] at hl <;> first | exact wp_ret ⟨.ret, σ, trivial, h, hi⟩ | cases hv
  | _ => intro v hl; simp [lowCode] at hl
end
end Go.V
