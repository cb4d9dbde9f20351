/- Each operation of the machine does to memory what is said of the trees; no condition. -/
import Derived.Test.YtjklmaihcaelaaaDoorVA
import Derived.Laws.StructEq
import Derived.Lib.AppendStr
import Derived.Lib.AppendZerosOnto
set_option linter.unusedVariables false
set_option linter.unusedSimpArgs false
namespace Go.V
open Go
section consts
variable {h : Array Obj} {Im : Nat → Prop} {O : Nat → LS}
theorem y3d {sz : Nat} {v : Value} {c : SC} (e : w3s sz v = some c) : RelC h Im O c v := by
 unfold w3s at e
 split at e <;> first | (cases e; done) | skip
 all_goals (simp only [Option.some.injEq] at e; subst e)
 ·exact .d _ _ (.i _ _)
 ·exact .d _ _ (.b _)
 ·exact .d _ _ (.s _)
 ·exact .d _ _ .np
 ·exact .d _ _ .nf
 ·exact .d _ _ (.v _ rfl)
 ·exact .nl _ _
theorem zw : ∀ {vs : List Value} {szs : List Nat} {cs : List SC}, u0b szs vs = some cs → RelCl h Im O cs vs
 | [], _, cs, e => by simp only [u0b, Option.some.injEq] at e; subst e; exact .nil
 | v :: vs, szs, cs, e => by
  simp only [u0b, Option.bind_eq_some_iff, Option.map_eq_some_iff] at e
  obtain ⟨c, h1, cs', h2, rfl⟩ := e
  exact .cons _ _ _ _ (y3d h1) (zw h2)
theorem u4c {szs : List Nat} {v : Value} {sv : SV} (e : x3s szs v = some sv) : RelV h Im O sv v := by
 unfold x3s at e
 split at e
 ·simp only [Option.map_eq_some_iff] at e
  obtain ⟨cs, h1, rfl⟩ := e
  exact .agg _ _ (zw h1)
 ·simp only [Option.map_eq_some_iff] at e
  obtain ⟨c, h1, rfl⟩ := e
  exact .one _ _ (y3d h1)
end consts

section
variable {P : Program} {G : Nat → Option (List D)} {X : Ctx} {σ : St} {a : Act} {w : World} {O : Nat → LS} {Im : Nat → Prop}

theorem ud (s : SimW G X σ a.tmps w O Im) {ty : TypeId} {x : Operand} {od : Od} (e : lowOd P ty x = some od) : RelV w.heap Im O (σ.ev G od) (a.eval x) := by
 cases x with
 | tmp t =>
  simp only [lowOd] at e
  split at e
  ·rename_i ht
   simp only [Option.some.injEq] at e; subst e
   have := s.slot t
   rw [y1z _ _ ht] at this
   exact this
  ·cases e
 | const v =>
  simp only [lowOd, Option.map_eq_some_iff] at e
  obtain ⟨sv, h1, rfl⟩ := e
  exact u4c h1
 | global g =>
  simp only [lowOd, Option.some.injEq] at e; subst e
  show RelV _ _ _ (z1j G g) (.pointer (some ⟨g, 0, none⟩))
  unfold z1j
  cases hg : G g with
  | none => exact .dead _
  | some cells => exact .one _ _ (.d _ _ (s.glob g cells hg).1)
 | func f =>
  simp only [lowOd, Option.some.injEq] at e; subst e
  exact .one _ _ (.d _ _ (.f f [] #[] rfl (.nil _)))

theorem RelV.one_inv {h Im O} {c : SC} {v : Value} (r : RelV h Im O (.one c) v) : RelC h Im O c v := by cases r; assumption
theorem RelV.agg_inv {h Im O} {cs : List SC} {v : Value} (r : RelV h Im O (.agg cs) v) : ∃ cv, v = .agg cv ∧ RelCl h Im O cs cv.toList := by cases r; exact ⟨_, rfl, ‹_›⟩
theorem RelC.d_inv {h Im O} {d : D} {v : Value} (r : RelC h Im O (.d d) v) : RelD h Im d v [] := by cases r; assumption

theorem y0l {h Im O} {sv : SV} {v : Value} {p : Ptr} (r : RelV h Im O sv v) (e : asPtr sv = some p) : RelP h Im O p v := by
 unfold asPtr at e
 split at e
 ·cases e; have := r.one_inv; cases this; assumption
 ·rename_i cells
  cases e
  have := r.one_inv.d_inv
  cases this with
  | k _ b c e fr h1 h2 h3 =>
   have := RelP.l (h := h) (Im := Im) (O := O) cells.length [cells] 0 0 b 0 c e fr h1 h2 (by simp) (by simpa using h3)
   simpa using this
 ·cases e
theorem z1p {h Im O} {sv : SV} {v : Value} {cs : List SC} (r : RelV h Im O sv v) (e : sv.cells? = some cs) : RelCl h Im O cs v.cells.toList := by
 unfold SV.cells? at e
 split at e
 ·cases e
  have r1 := r.one_inv
  rw [v2i r1.one]
  exact .cons _ _ _ _ r1 .nil
 ·cases e
  obtain ⟨cv, rfl, h1⟩ := r.agg_inv
  exact h1
 ·cases e

theorem z3j {h : Array Obj} {Im : Nat → Prop} {O : Nat → LS} {sz j n i : Nat} {rows : List (List D)} {cs : List SC} {vs : List Value} (hu : ∀ r ∈ rows, r.length = sz) (hr : RelCs h Im rows.flatten vs [])
 (e : (rows[i]?).bind (ldRow sz j n) = some cs) : RelCl h Im O cs ((vs.drop (i * sz + j)).take n) ∧ cs.length = n := by
 simp only [Option.bind_eq_some_iff] at e
 obtain ⟨r, hi, e⟩ := e
 unfold ldRow at e
 split at e
 ·rename_i hle
  simp only [Option.some.injEq] at e
  subst e
  have hrl : r.length = sz := hu r (List.mem_of_getElem? hi)
  have hget : ∀ k, k < n → ∃ d v, r[j + k]? = some d ∧ vs[i * sz + j + k]? = some v ∧ RelD h Im d v [] := by
   intro k hk
   have hlt : j + k < r.length := by omega
   obtain ⟨v, hv, hd⟩ := hr.at_ (i * sz + (j + k)) r[j + k] (by rw [flatten_getElem? hu i (j + k) (by omega), hi]; simp [hlt])
   exact ⟨r[j + k], v, by simp [hlt], by rw [← hv]; congr 1; omega, hd⟩
  have hlen : ((r.drop j).take n).length = n := by simp; omega
  have hvl : n ≤ (vs.drop (i * sz + j)).length := by
   rcases Nat.eq_zero_or_pos n with h0 | h0
   ·omega
   ·obtain ⟨d, v, _, hv, _⟩ := hget (n - 1) (by omega)
    have := (List.getElem?_eq_some_iff.1 hv).1
    simp; omega
  refine ⟨RelCl.of_at _ _ (by simp only [List.length_map, hlen, List.length_take]; omega) ?_, by simp only [List.length_map, hlen]⟩
  intro k c hc
  simp only [List.getElem?_map, Option.map_eq_some_iff] at hc
  obtain ⟨d, hd, rfl⟩ := hc
  rw [List.getElem?_take] at hd
  split at hd
  ·rename_i hk
   rw [List.getElem?_drop] at hd
   obtain ⟨d', v, h1, h2, h3⟩ := hget k hk
   rw [h1] at hd; cases hd
   exact ⟨v, by rw [List.getElem?_take, if_pos hk, List.getElem?_drop]; exact h2, .d _ _ h3⟩
  ·cases hd
 ·cases e

theorem w4i {h : Array Obj} {Im : Nat → Prop} {O : Nat → LS} {sz j n i : Nat} {rows : List (List D)} {cs : List SC} {vs : List Value} {fp : List Nat} (hu : ∀ r ∈ rows, r.length = sz) (hr : RelCs h Im rows.flatten vs fp)
 (e : ((rows[i]?).bind fun r => if ((r.drop j).take n).all D.flat = true then ldRow sz j n r else none) = some cs) : RelCl h Im O cs ((vs.drop (i * sz + j)).take n) ∧ cs.length = n := by
 simp only [Option.bind_eq_some_iff] at e
 obtain ⟨r, hi, e⟩ := e
 split at e
 case isFalse => cases e
 rename_i hfl
 unfold ldRow at e
 split at e
 ·rename_i hle
  simp only [Option.some.injEq] at e
  subst e
  have hrl : r.length = sz := hu r (List.mem_of_getElem? hi)
  have hget : ∀ k, k < n → ∃ d v, r[j + k]? = some d ∧ vs[i * sz + j + k]? = some v ∧ RelD h Im d v [] := by
   intro k hk
   have hlt : j + k < r.length := by omega
   obtain ⟨v, hv, hd⟩ := hr.at_flat (i * sz + (j + k)) r[j + k] (by rw [flatten_getElem? hu i (j + k) (by omega), hi]; simp [hlt]) (by
    refine List.all_eq_true.1 hfl _ (List.mem_of_getElem? (i := k) ?_)
    rw [List.getElem?_take, if_pos hk, List.getElem?_drop]; simp [hlt])
   exact ⟨r[j + k], v, by simp [hlt], by rw [← hv]; congr 1; omega, hd⟩
  have hlen : ((r.drop j).take n).length = n := by simp; omega
  have hvl : n ≤ (vs.drop (i * sz + j)).length := by
   rcases Nat.eq_zero_or_pos n with h0 | h0
   ·omega
   ·obtain ⟨d, v, _, hv, _⟩ := hget (n - 1) (by omega)
    have := (List.getElem?_eq_some_iff.1 hv).1
    simp; omega
  refine ⟨RelCl.of_at _ _ (by simp only [List.length_map, hlen, List.length_take]; omega) ?_, by simp only [List.length_map, hlen]⟩
  intro k c hc
  simp only [List.getElem?_map, Option.map_eq_some_iff] at hc
  obtain ⟨d, hd, rfl⟩ := hc
  rw [List.getElem?_take] at hd
  split at hd
  ·rename_i hk
   rw [List.getElem?_drop] at hd
   obtain ⟨d', v, h1, h2, h3⟩ := hget k hk
   rw [h1] at hd; cases hd
   exact ⟨v, by rw [List.getElem?_take, if_pos hk, List.getElem?_drop]; exact h2, .d _ _ h3⟩
  ·cases hd
 ·cases e

theorem ws {w : World} {b o n : Nat} {c : Array Value} {e : TypeId} {fr : Nat × Nat} (hb : w.heap[b]? = some (.cells c e fr)) : w.rangeAt b o ((c.toList.drop o).take n) := by
 intro j v hv
 rw [cell_of_row w b (o + j) c e fr hb]
 rw [List.getElem?_take] at hv
 split at hv
 ·rw [List.getElem?_drop] at hv; simpa using hv
 ·cases hv

theorem x4i (s : SimW G X σ a.tmps w O Im) {n : Nat} {p : Ptr} {v : Value} {cs : List SC} (r : RelP w.heap Im O p v) (e : σ.ld n p = some cs) :
 ∃ b o vs, v = .pointer (some ⟨b, o, none⟩) ∧ w.rangeAt b o vs ∧ RelCl w.heap Im O cs vs ∧ cs.length = n := by
 cases r with
 | qd id i j v h1 h2 =>
  simp only [St.ld] at e
  cases ho : σ.obj id with
  | none => rw [ho] at e; simp at e
  | some o => obtain ⟨l, hl, _⟩ := s.obj id o ho; rw [h1] at hl; cases hl
 | q id i j b cap sz h1 =>
  simp only [St.ld] at e
  cases ho : σ.obj id with
  | none => rw [ho] at e; simp at e
  | some o =>
   obtain ⟨l, hl, hr, _⟩ := s.obj id o ho
   rw [h1] at hl; cases hl
   rw [ho] at e
   cases hr with
   | arr sz' rows fz b' cap' c ty fr g1 g2 g3 g4 g5 g6 g7 g8 =>
    obtain ⟨h2, h3⟩ := z3j (O := O) g3 g7 e
    exact ⟨_, _, _, rfl, ws g1, h2, h3⟩
   | tre sz rows foc b' cap' c ty sub g1 g2 g3 g4 g5 g6 g7 g8 g9 =>
    cases foc with
    | none =>
     obtain ⟨h2, h3⟩ := w4i (O := O) g2 g8 e
     exact ⟨_, _, _, rfl, ws g1, h2, h3⟩
    | some p =>
     obtain ⟨k, cells⟩ := p
     obtain ⟨q1, q2⟩ := g9
     simp only at e
     by_cases hc : (i = k ∧ j + n ≤ cells.length) ∧ cells.length = sz
     ·rw [if_pos hc] at e
      obtain ⟨⟨rfl, hj⟩, hz⟩ := hc
      simp only [Option.some.injEq] at e
      subst e
      refine ⟨b, i * sz + j, (c.toList.drop (i * sz + j)).take n, rfl, ws g1, ?_, by simp; omega⟩
      have q3 := (q2.drop j).take n
      have : ((((c.toList.drop (i * sz)).take sz).drop j).take n) = (c.toList.drop (i * sz + j)).take n := by
       rw [List.drop_take, List.take_take, List.drop_drop, Nat.min_eq_left (by omega)]
      rw [this] at q3; exact q3
     ·rw [if_neg hc] at e; cases e
   | box cells b' c ty g1 g2 g3 =>
    by_cases hc : i = 0 ∧ j + n ≤ cells.length
    ·simp only [if_pos hc, Option.some.injEq] at e
     obtain ⟨rfl, hj⟩ := hc
     subst e
     refine ⟨b, 0 * cells.length + j, (c.toList.drop (0 * cells.length + j)).take n, rfl, ws g1, ?_, by simp; omega⟩
     simpa using (g2.drop j).take n
    ·simp only [if_neg hc] at e; cases e
   | bld => cases e
 | l sz rows i j b off c ty fr h1 h2 h3 h4 =>
  simp only [St.ld] at e
  obtain ⟨g1, g2⟩ := z3j (O := O) h3 h4 e
  rw [List.drop_drop] at g1
  exact ⟨_, _, _, rfl, ws h2, g1, g2⟩

theorem x2l {t : TypeId} (h : xn P t = true) : ∃ d, P.underlying t = some d ∧ d.isRow = true := by
 unfold xn at h
 split at h
 ·exact ⟨_, ‹_›, rfl⟩
 ·exact ⟨_, ‹_›, rfl⟩
 ·cases h
theorem u0f {t : TypeId} {d : TypeDesc} (h : P.underlying t = some d) : ∃ i, P.info? t = some i := by
 cases e : P.info? t with
 | none => simp [Program.underlying, e] at h
 | some i => exact ⟨i, rfl⟩
end
def OkV (r : Result Next) (R : Value → World → Prop) : Prop := (∃ v w', r = .ok (.value v) w' ∧ R v w') ∨ (∃ w', r = .ok .skip w' ∧ R undef w')
def Post (G : Nat → Option (List D)) (X : Ctx) (tm : Array Value) (σ : St) (O : Nat → LS) (σ' : St) (sv : SV) (v : Value) (w' : World) : Prop :=
 ∃ O' Im', SimW G X σ' tm w' O' Im' ∧ RelV w'.heap Im' O' sv v ∧ ((σ'.next = σ.next ∧ ∀ u, O u = .free → O' u = .free) ∨ (σ'.next = σ.next + 1 ∧ ∀ u, u ≠ σ.next → O u = .free → O' u = .free))

section
variable {P : Program} {G : Nat → Option (List D)} {X : Ctx} {σ σ' : St} {sv : SV} {a : Act} {w : World} {O : Nat → LS} {Im : Nat → Prop} {o : Oper}

theorem Post.same (s : SimW G X σ a.tmps w O Im) {sv : SV} {v : Value} (r : RelV w.heap Im O sv v) : Post G X a.tmps σ O σ sv v w := ⟨O, Im, s, r, .inl ⟨rfl, fun _ h => h⟩⟩

theorem Post.fresh (s : SimW G X σ a.tmps w O Im) (hf : O σ.next = .free) {vo : VO} {c : Array Value} {e : TypeId} {l : Loc} {sv : SV} {v : Value}
 (hr : RelO (w.alloc (.cells c e)).heap Im (upd O σ.next (.live l)) vo l) (hb : ∀ b, Own vo l b → b = w.heap.size)
 (hv : RelV (w.alloc (.cells c e)).heap Im (upd O σ.next (.live l)) sv v) : Post G X a.tmps σ O (σ.new vo) sv v (w.alloc (.cells c e)) := by
 refine ⟨upd O σ.next (.live l), Im, (s.alloc _).adopt hf hr ?_ rfl ?_, hv, .inr ⟨rfl, fun u hu h => by rw [yf _ _ _ _ hu]; exact h⟩⟩
 ·intro b h
  have e1 := hb b h
  subst e1
  refine ⟨fun h2 => Nat.lt_irrefl _ (s.imlt _ h2), by simp, .inr s.ext.size, ?_⟩
  intro u o l' ho hl h2
  exact Nat.lt_irrefl _ (s.ownblk ho hl h2).2.1
 ·funext u; simp [St.new, upd]

theorem z4q {c : Array Value} {e : TypeId} {cs : List SC} (s : SimW G X σ a.tmps w O Im) (hf : O σ.next = .free) (hr : RelCl w.heap Im O cs c.toList) :
 RelO (w.alloc (.cells c e)).heap Im (upd O σ.next (.live ⟨some w.heap.size, 1, cs.length, []⟩)) (.box cs) ⟨some w.heap.size, 1, cs.length, []⟩ := by
 have m : Moves w.heap (w.alloc (.cells c e)).heap Im Im O (upd O σ.next (.live ⟨some w.heap.size, 1, cs.length, []⟩)) :=
  ⟨fun _ h => h, fun b hb => Go.RowKit.Below.heap_alloc w _ b (s.imlt b hb), fun u hu => .inl (yf _ _ _ _ (fun e => hu (e ▸ hf)))⟩
 exact .box cs w.heap.size c e (heap_alloc_new w _) (hr.moves m) (fun h => Nat.lt_irrefl _ (s.imlt _ h))
theorem v3n {h Im} {O : Nat → LS} {n b cap sz : Nat} : RelV h Im (upd O n (.live ⟨some b, cap, sz, []⟩)) (.one (.p (.q n 0 0))) (.pointer (some ⟨b, 0, none⟩)) := by
 have := RelP.q (h := h) (Im := Im) (O := upd O n (.live ⟨some b, cap, sz, []⟩)) n 0 0 b cap sz (xf _ _ _)
 simp only [Nat.zero_mul, Nat.add_zero] at this
 exact .one _ _ (.p _ _ this)

/-! ### values -/
theorem v5b {x : Operand} {od : Od} (ho : o.op = .move x ∨ o.op = .assign x) {ty : TypeId} (hx : lowOd P ty x = some od) (s : SimW G X σ a.tmps w O Im) :
 OkV ((execOp a.eval o).run P w) fun v w' => Post G X a.tmps σ O σ (σ.ev G od) v w' := by
 refine .inl ⟨a.eval x, w, ?_, Post.same s (ud s hx)⟩
 rcases ho with ho | ho <;> simp [execOp, ho]
theorem z4d {h Im O} {sv : SV} {v : Value} {t : Bool} (r : RelV h Im O sv v) (e : asBool sv = some t) : v = .bool t := by
 unfold asBool at e
 split at e
 ·cases e; have := r.one_inv.d_inv; cases this; rfl
 ·cases e
theorem v0s {h Im O} {sv : SV} {v : Value} {n : Int} (r : RelV h Im O sv v) (e : asInt sv = some n) : ∃ k, v = .int k n ∧ sv = .one (.d (.i k n)) := by
 unfold asInt at e
 split at e
 ·cases e; have := r.one_inv.d_inv; cases this; exact ⟨_, rfl, rfl⟩
 ·cases e
theorem w1z {h Im O} {sv : SV} {v : Value} {n : ByteArray} (r : RelV h Im O sv v) (e : asStr sv = some n) : v = .string n := by
 unfold asStr at e
 split at e
 ·cases e; have := r.one_inv.d_inv; cases this; rfl
 ·cases e
theorem agg_inv {h Im O} {sv : SV} {v : Value} {cs : List SC} (r : RelV h Im O sv v) (e : asAgg sv = some cs) : ∃ cv, v = .agg cv ∧ RelCl h Im O cs cv.toList := by
 unfold asAgg at e
 split at e
 ·cases e; exact r.agg_inv
 ·cases e

theorem w5b {c x y : Operand} {oc ox oy : Od} {tc ty : TypeId} (ho : o.op = .pick c x y) (hc : lowOd P tc c = some oc) (hx : lowOd P ty x = some ox) (hy : lowOd P ty y = some oy) (s : SimW G X σ a.tmps w O Im)
 {t : Bool} (e : asBool (σ.ev G oc) = some t) : OkV ((execOp a.eval o).run P w) fun v w' => Post G X a.tmps σ O σ (if t = true then σ.ev G ox else σ.ev G oy) v w' := by
 have h1 := z4d (ud s hc) e
 refine .inl ⟨if t = true then a.eval x else a.eval y, w, ?_, Post.same s ?_⟩
 ·simp [execOp, ho, h1, Go.asBool]
 ·cases t
  ·simpa using ud s hy
  ·simpa using ud s hx

/-! ### new memory -/
theorem snd_box {ty : TypeId} {x : Operand} {ox : Od} {cs : List SC} (ho : o.op = .box ty x) (hx : lowOd P ty x = some ox) (s : SimW G X σ a.tmps w O Im) (hf : O σ.next = .free)
 (e : (σ.ev G ox).cells? = some cs) : OkV ((execOp a.eval o).run P w) fun v w' => Post G X a.tmps σ O (σ.new (.box cs)) (.one (.p (.q σ.next 0 0))) v w' := by
 refine .inl ⟨.pointer (some ⟨w.heap.size, 0, none⟩), w.alloc (.cells (a.eval x).cells ty), ?_, ?_⟩
 ·simp [execOp, ho, Instr.box, newVar, newRow]
 ·exact Post.fresh s hf (z4q s hf (z1p (ud s hx) e)) (fun b h => by simpa [Own, eq_comm] using h) v3n
theorem v4u {ty : TypeId} {i : TypeInfo} {z : Value} {cs : List SC} {szs : List Nat} (ho : o.op = .alloc ty) (hi : P.info? ty = some i) (hz : i.zero = some z) (hc : u0b szs z.cells.toList = some cs) (s : SimW G X σ a.tmps w O Im) (hf : O σ.next = .free) :
 OkV ((execOp a.eval o).run P w) fun v w' => Post G X a.tmps σ O (σ.new (.box cs)) (.one (.p (.q σ.next 0 0))) v w' := by
 refine .inl ⟨.pointer (some ⟨w.heap.size, 0, none⟩), w.alloc (.cells z.cells ty), ?_, ?_⟩
 ·simp [execOp, ho, Instr.alloc, newVar, newRow, zeroValue, typeInfo, hi, hz]
 ·exact Post.fresh s hf (z4q s hf (zw hc)) (fun b h => by simpa [Own, eq_comm] using h) v3n

/-! ### loads, stores, addresses -/
theorem y2r {h Im O} {agg : Bool} {cs : List SC} {vs : List Value} {sv : SV} (r : RelCl h Im O cs vs) (e : mkV agg cs = some sv) :
 RelV h Im O sv (if agg = true then .agg vs.toArray else vs.headD undef) ∧ (agg = false → vs.length = 1) := by
 cases agg with
 | true => simp only [mkV, Option.some.injEq] at e; subst e; exact ⟨.agg _ _ (by simpa using r), fun h => by cases h⟩
 | false =>
  unfold mkV at e
  simp only at e
  split at e
  ·cases e
   cases r with
   | cons c v _ _ r1 r2 => cases r2; exact ⟨.one _ _ r1, fun _ => rfl⟩
  ·cases e
theorem snd_ld {t : TypeId} {x : Operand} {ox : Od} {tx : TypeId} {agg : Bool} {n : Nat} {p : Ptr} {cs : List SC} (ho : o.op = .load t x) (hagg : xn P t = agg) (hn : P.cellsOf t = n) (hok : agg = true ∨ n = 1) (hx : lowOd P tx x = some ox)
 (s : SimW G X σ a.tmps w O Im) (e1 : asPtr (σ.ev G ox) = some p) (e2 : σ.ld n p = some cs) {sv : SV} (e3 : mkV agg cs = some sv) (hu : ∃ d, P.underlying t = some d) :
 OkV ((execOp a.eval o).run P w) fun v w' => Post G X a.tmps σ O σ sv v w' := by
 obtain ⟨b, of, vs, hv, hra, hr, hl⟩ := x4i s (y0l (ud s hx) e1) e2
 obtain ⟨h1, h2⟩ := y2r hr e3
 have hvl : vs.length = n := by rw [← hr.len, hl]
 obtain ⟨d, hd⟩ := hu
 obtain ⟨i, hi⟩ := u0f hd
 have hsz : i.size = n := by simpa [Program.cellsOf, hi] using hn
 cases agg with
 | true =>
  obtain ⟨d', hd', hrow⟩ := x2l hagg
  refine .inl ⟨.agg vs.toArray, w, ?_, Post.same s (by simpa using h1)⟩
  have := run_loadAt_mid (P := P) w b of t vs d' hra hd' hrow (by simp [hi, hsz, hvl])
  simp [execOp, ho, hv, this]
 | false =>
  have h3 := h2 rfl
  obtain ⟨v, rfl⟩ : ∃ v, vs = [v] := by
   cases vs with
   | nil => simp at h3
   | cons v r => cases r with
    | nil => exact ⟨v, rfl⟩
    | cons _ _ => simp at h3
  refine .inl ⟨v, w, ?_, Post.same s (by simpa using h1)⟩
  have hc := hra 0 v (by simp)
  have hagg' : (isAgg t).run P w = .ok false w := by
   unfold isAgg
   rw [Sem.run_bind, run_underlying hd w]
   unfold xn at hagg
   rw [hd] at hagg
   cases d <;> simp_all
  simp only [Nat.add_zero] at hc
  simp [execOp, ho, hv, Instr.loadAt, Instr.sureAddr, loadVar, hagg', hc]

theorem u2f (s : SimW G X σ a.tmps w O Im) {id off len sz : Nat} {rows : List (List D)} {fz : Bool} {v : Value} (r : RelC w.heap Im O (.r id off len) v) (ho : σ.objs id = some (.arr sz rows fz)) (hle : off + len ≤ rows.length) :
 (len = 0 ∧ ∃ ad c, v = .slice ad 0 c) ∨ ∃ b cap c ty fr cp, v = .slice (some ⟨b, off * sz, none⟩) len cp ∧ O id = .live ⟨some b, cap, sz, []⟩ ∧ w.heap[b]? = some (.cells c ty fr) ∧ (fz = true ↔ Im b) ∧ len ≤ cp ∧ off + cp ≤ cap ∧ c.size = cap * sz ∧ cap ≤ maxLen ∧
   (fz = false → fr = (0, 0)) ∧ (∀ r ∈ rows, r.length = sz) ∧ rows.length ≤ cap ∧ RelCs w.heap Im rows.flatten c.toList [] ∧ RelCs w.heap Im ((rows.drop off).take len).flatten (c.toList.drop (off * sz)) [] := by
 obtain ⟨l, hl, hro, _⟩ := s.obj id _ ho
 cases r with
 | rd _ _ _ _ h1 _ => rw [h1] at hl; cases hl
 | rn _ cap sz' a0 h1 => exact .inl ⟨rfl, a0, 0, rfl⟩
 | r _ _ _ b cap sz' ad c h1 h2 h3 h4 =>
  rw [h1] at hl; cases hl
  cases hro with
  | arr sz rows fz b cap cc ty fr g1 g2 g3 g4 g5 g6 g7 g8 =>
   rcases h4 with h4 | h4
   ·subst h4
    refine .inr ⟨b, cap, cc, ty, fr, c, rfl, h1, g1, g8, h2, h3, g6, g5, g2, g3, g4, g7, ?_⟩
    have hu : ∀ r ∈ rows.drop off, r.length = sz := fun r hr => g3 r (List.mem_of_mem_drop hr)
    rw [← xp hu len, ← xx g3 off]
    exact (g7.drop _).take _
   ·subst h4
    obtain rfl : len = 0 := by omega
    exact .inl ⟨rfl, _, _, rfl⟩
theorem v3l (s : SimW G X σ a.tmps w O Im) {c : SC} {d : D} {v : Value} (r : RelC w.heap Im O c v) (e : σ.toD c = some d) : RelD w.heap Im d v [] := by
 unfold St.toD at e
 split at e
 ·cases e; exact r.d_inv
 ·cases e; cases r; exact .l0 _ _ _
 ·rename_i id off len
  split at e
  ·rename_i sz rows ho
   split at e
   ·rename_i hle
    simp only [Option.some.injEq] at e; subst e
    rcases u2f s r ho hle with ⟨rfl, ad, c, rfl⟩ | ⟨b, cap, c, ty, fr, cp, rfl, h1, h2, h3, h4, h5, h6, h7, h8, h9, h10, h11, h12⟩
    ·simpa using RelD.l0 (h := w.heap) (Im := Im) sz ad c
    ·have hlen : ((rows.drop off).take len).length = len := by simp; omega
     have := RelD.l (h := w.heap) (Im := Im) sz ((rows.drop off).take len) b (off * sz) cp c ty fr (h3.1 rfl) h2 (fun r hr => h9 r (List.mem_of_mem_drop (List.mem_of_mem_take hr))) (by omega) h12
     rw [hlen] at this
     exact this
   ·cases e
  ·cases e
 ·cases e
theorem z0u (s : SimW G X σ a.tmps w O Im) : ∀ {cs : List SC} {ds : List D} {vs : List Value}, RelCl w.heap Im O cs vs → σ.toDs cs = some ds → RelCs w.heap Im ds vs [] ∧ ds.length = cs.length
 | [], ds, vs, r, e => by simp only [St.toDs, Option.some.injEq] at e; subst e; exact ⟨.nil _, rfl⟩
 | c :: cs, ds, vs, r, e => by
  cases r with
  | cons _ v _ vs' r1 r2 =>
   simp only [St.toDs] at e
   cases h1 : σ.toD c with
   | none => rw [h1] at e; simp at e
   | some d =>
    cases h2 : σ.toDs cs with
    | none => rw [h1, h2] at e; simp at e
    | some ds' =>
     rw [h1, h2] at e; simp at e; subst e
     obtain ⟨h3, h4⟩ := z0u s r2 h2
     exact ⟨.cons d v [] ds' vs' [] (v3l s r1 h1) h3, by simp [h4]⟩

theorem RelCs.holes {h : Array Obj} {Im : Nat → Prop} : ∀ {ds : List D} {vs vs' : List Value} {fp : List Nat}, RelCs h Im ds vs fp → (∀ (j : Nat) (d : D), ds[j]? = some d → vs'[j]? = vs[j]? ∨ (d = .w ∧ ∃ v, vs'[j]? = some v ∧ v.oneCell' = true)) → RelCs h Im ds vs' fp
 | _, _, vs', _, .nil _, _ => .nil vs'
 | _, _, [], _, .cons d v f ds vs fs r rs, hh => by
  rcases hh 0 d (by simp) with h | ⟨_, v, h, _⟩
  ·simp at h
  ·simp at h
 | _, _, v' :: vs', _, .cons d v f ds vs fs r rs, hh => by
  have hr : RelD h Im d v' f := by
   rcases hh 0 d (by simp) with h | ⟨rfl, v0, h, ho⟩
   ·simp at h; subst h; exact r
   ·simp at h; subst h; cases r; exact .w _ ho
  exact .cons d v' f ds vs' fs hr (RelCs.holes rs fun j d' hd => by simpa using hh (j + 1) d' (by simpa using hd))
theorem y4g {α : Type} (vs us : List α) (o j sz : Nat) (hj : j + us.length ≤ sz) (ho : o + sz ≤ vs.length) :
 ((vs.take (o + j) ++ us ++ vs.drop (o + j + us.length)).drop o).take sz = ((vs.drop o).take sz).take j ++ us ++ ((vs.drop o).take sz).drop (j + us.length) := by
 have h1 : (vs.take (o + j)).length = o + j := by simp; omega
 have h2 : (((vs.drop o).take sz).take j).length = j := by simp; omega
 apply List.ext_getElem?
 intro i
 rw [List.getElem?_take, List.getElem?_drop]
 by_cases c1 : i < j
 ·rw [if_pos (by omega), List.append_assoc, List.getElem?_append_left (by omega), List.getElem?_take, if_pos (by omega), List.append_assoc, List.getElem?_append_left (by omega), List.getElem?_take, if_pos c1, List.getElem?_take, if_pos (by omega), List.getElem?_drop]
 ·by_cases c2 : i < j + us.length
  ·rw [if_pos (by omega), List.getElem?_append_left (by rw [List.length_append, h1]; omega), List.getElem?_append_right (by omega), h1, List.getElem?_append_left (by rw [List.length_append, h2]; omega), List.getElem?_append_right (by omega), h2]
   congr 1; omega
  ·by_cases c3 : i < sz
   ·rw [if_pos c3, List.getElem?_append_right (by rw [List.length_append, h1]; omega), List.length_append, h1, List.getElem?_drop, List.getElem?_append_right (by rw [List.length_append, h2]; omega), List.length_append, h2, List.getElem?_drop, List.getElem?_take, if_pos (by omega), List.getElem?_drop]
    congr 1; omega
   ·rw [if_neg c3, List.getElem?_append_right (by rw [List.length_append, h2]; omega), List.length_append, h2, List.getElem?_drop, List.getElem?_take, if_neg (by omega)]
theorem w5e {h : Array Obj} {Im : Nat → Prop} {sz i j : Nat} {rows : List (List D)} {r ds : List D} {vs us : List Value} (hu : ∀ r ∈ rows, r.length = sz) (hr : RelCs h Im rows.flatten vs [])
 (hi : rows[i]? = some r) (hd : RelCs h Im ds us []) (hle : j + ds.length ≤ sz) (hul : us.length = ds.length) (hvl : rows.length * sz ≤ vs.length) :
 (∀ q ∈ rows.set i (r.take j ++ ds ++ r.drop (j + ds.length)), q.length = sz) ∧
 RelCs h Im (rows.set i (r.take j ++ ds ++ r.drop (j + ds.length))).flatten (vs.take (i * sz + j) ++ us ++ vs.drop (i * sz + j + us.length)) [] := by
 have hrl : r.length = sz := hu r (List.mem_of_getElem? hi)
 have hil : i < rows.length := (List.getElem?_eq_some_iff.1 hi).1
 have hu' : ∀ q ∈ rows.set i (r.take j ++ ds ++ r.drop (j + ds.length)), q.length = sz := by
  intro q hq
  rcases List.mem_or_eq_of_mem_set hq with hq | rfl
  ·exact hu q hq
  ·simp; omega
 refine ⟨hu', RelCs.of_at _ _ ?_⟩
 intro k d hk
 have hklt : k < (rows.set i (r.take j ++ ds ++ r.drop (j + ds.length))).flatten.length := (List.getElem?_eq_some_iff.1 hk).1
 rw [wa hu', List.length_set] at hklt
 have hsz : 0 < sz := by
  rcases Nat.eq_zero_or_pos sz with h0 | h0
  ·subst h0; simp at hklt
  ·exact h0
 have hki : i * sz + sz ≤ rows.length * sz := by
  have := Nat.mul_le_mul_right sz (show i + 1 ≤ rows.length from hil)
  rw [Nat.add_mul] at this; omega
 have hdm : k = (k / sz) * sz + k % sz := by rw [Nat.mul_comm]; exact (Nat.div_add_mod k sz).symm
 have hml : k % sz < sz := Nat.mod_lt k hsz
 have hold : ∀ d', (rows[k / sz]?).bind (·[k % sz]?) = some d' → ∃ v, vs[k]? = some v ∧ RelD h Im d' v [] := by
  intro d' hd'
  exact hr.at_ k d' (by rw [hdm, flatten_getElem? hu _ _ hml]; exact hd')
 rw [hdm, flatten_getElem? hu' _ _ hml] at hk
 have hcell : ∀ v, (vs.take (i * sz + j) ++ us ++ vs.drop (i * sz + j + us.length))[k]? = some v ↔ (if k < i * sz + j then vs[k]? else if k < i * sz + j + ds.length then us[k - (i * sz + j)]? else vs[k]?) = some v := by
  intro v
  have h1 : (vs.take (i * sz + j)).length = i * sz + j := by simp; omega
  by_cases c1 : k < i * sz + j
  ·rw [if_pos c1, List.append_assoc, List.getElem?_append_left (by omega), List.getElem?_take, if_pos c1]
  ·rw [if_neg c1]
   by_cases c2 : k < i * sz + j + ds.length
   ·rw [if_pos c2, List.getElem?_append_left (by rw [List.length_append, h1]; omega), List.getElem?_append_right (by omega), h1]
   ·rw [if_neg c2, List.getElem?_append_right (by rw [List.length_append, h1]; omega), List.getElem?_drop, List.length_append, h1]
    rw [show i * sz + j + us.length + (k - (i * sz + j + us.length)) = k from by omega]
 by_cases hq : k / sz = i
 ·rw [hq, List.getElem?_set_self hil] at hk
  simp only [Option.bind_some] at hk
  have hk2 : k = i * sz + k % sz := by rw [← hq]; exact hdm
  generalize k % sz = m at *
  have h1 : (r.take j).length = j := by simp; omega
  by_cases c1 : m < j
  ·rw [List.append_assoc, List.getElem?_append_left (by omega), List.getElem?_take, if_pos c1] at hk
   obtain ⟨v, hv, hrd⟩ := hold d (by rw [hq, hi]; simpa using hk)
   exact ⟨v, (hcell v).2 (by rw [if_pos (by omega)]; exact hv), hrd⟩
  ·by_cases c2 : m < j + ds.length
   ·rw [List.getElem?_append_left (by rw [List.length_append, h1]; omega), List.getElem?_append_right (by omega), h1] at hk
    obtain ⟨v, hv, hrd⟩ := hd.at_ _ _ hk
    exact ⟨v, (hcell v).2 (by rw [if_neg (by omega), if_pos (by omega), ← hv]; congr 1; omega), hrd⟩
   ·rw [List.getElem?_append_right (by rw [List.length_append, h1]; omega), List.getElem?_drop, List.length_append, h1] at hk
    rw [show j + ds.length + (m - (j + ds.length)) = m from by omega] at hk
    obtain ⟨v, hv, hrd⟩ := hold d (by rw [hq, hi]; simpa using hk)
    exact ⟨v, (hcell v).2 (by rw [if_neg (by omega), if_neg (by omega)]; exact hv), hrd⟩
 ·rw [List.getElem?_set_ne (Ne.symm hq)] at hk
  obtain ⟨v, hv, hrd⟩ := hold d hk
  refine ⟨v, (hcell v).2 ?_, hrd⟩
  have hlo : k / sz < i → k < i * sz := fun h => by
   have := Nat.mul_le_mul_right sz (show k / sz + 1 ≤ i from h)
   rw [Nat.add_mul] at this; omega
  have hhi : i < k / sz → i * sz + sz ≤ k := fun h => by
   have := Nat.mul_le_mul_right sz (show i + 1 ≤ k / sz from h)
   rw [Nat.add_mul] at this; omega
  rcases Nat.lt_or_gt_of_ne hq with h | h
  ·rw [if_pos (by have := hlo h; omega)]; exact hv
  ·rw [if_neg (by have := hhi h; omega), if_neg (by have := hhi h; omega)]; exact hv
end
section
variable {P : Program} {G : Nat → Option (List D)} {X : Ctx} {σ σ' : St} {sv : SV} {a : Act} {w : World} {O : Nat → LS} {Im : Nat → Prop} {o : Oper}

theorem z0o {t ty : TypeId} {i : TypeInfo} {b of : Nat} {cur : Array Value} {v : Value} (hi : P.info? t = some i) (hs : i.size = v.cells.size) (hb : w.heap[b]? = some (.cells cur ty (0, 0))) (hle : of + v.cells.size ≤ cur.size)
 (h1 : ∀ x ∈ v.cells.toList, x.oneCell' = true) : (storeVar t ⟨b, of, none⟩ v).run P w = .ok () (w.setRow b (cur.toList.take of ++ v.cells.toList ++ cur.toList.drop (of + v.cells.toList.length)).toArray) := by
 have := run_storeCells_at P b of ty v.cells.toList 0 cur w hb (by simpa using hle) h1
 simp only [Nat.add_zero] at this
 simp [storeVar, sizeOf, typeInfo, hi, hs, this]

theorem snd_st {t : TypeId} {x y : Operand} {ox oy : Od} {tx : TypeId} {n : Nat} {p : Ptr} {cs : List SC} (ho : o.op = .store t x y) (hn : P.cellsOf t = n) (hu : ∃ i, P.info? t = some i) (hx : lowOd P tx x = some ox) (hy : lowOd P t y = some oy)
 (s : SimW G X σ a.tmps w O Im) (e1 : asPtr (σ.ev G ox) = some p) (e2 : (σ.ev G oy).cells? = some cs) (e3 : cs.length = n) (e4 : σ.stO cs p = some σ') :
 OkV ((execOp a.eval o).run P w) fun v w' => Post G X a.tmps σ O σ' .dead v w' := by
 have rp := y0l (ud s hx) e1
 have rc := z1p (ud s hy) e2
 obtain ⟨i, hi⟩ := hu
 have hsz : i.size = (a.eval y).cells.size := by
  have : i.size = n := by simpa [Program.cellsOf, hi] using hn
  rw [this, ← e3, rc.len]; simp
 have hone := rc.one
 generalize hav : a.eval x = av at rp
 cases rp with
 | l => simp [St.stO] at e4
 | qd id i j v h1 h2 =>
  simp only [St.stO] at e4
  cases hob : σ.obj id with
  | none => rw [hob] at e4; simp at e4
  | some ob => obtain ⟨l, hl, _⟩ := s.obj id ob hob; rw [h1] at hl; cases hl
 | @q id k j b cap sz sub0 h1 =>
  simp only [St.stO] at e4
  cases hob : σ.obj id with
  | none => rw [hob] at e4; simp at e4
  | some ob =>
   obtain ⟨l, hl, hro, hown⟩ := s.obj id ob hob
   rw [h1] at hl; cases hl
   rw [hob] at e4
   cases hro with
   | bld => first | (cases e; done) | (simp at e; done) | (simp at e4; done) | (simp at e2; done) | (simp at h; done) | (simp_all; done)
   | arr sz rows fz b cap c ty fr g1 g2 g3 g4 g5 g6 g7 g8 =>
    cases fz with
    | true => simp at e4
    | false =>
     simp only at e4
     cases hr : rows[k]? with
     | none => rw [hr] at e4; simp at e4
     | some r =>
      cases hd : σ.toDs cs with
      | none => rw [hr, hd] at e4; simp at e4
      | some ds =>
       rw [hr, hd] at e4
       simp only at e4
       split at e4
       ·rename_i hle
        simp only [Option.some.injEq] at e4
        subst e4
        obtain ⟨rds, hdl⟩ := z0u s rc hd
        obtain rfl := g2 rfl
        have hul : (a.eval y).cells.toList.length = ds.length := by rw [← rc.len, hdl]
        have hkl : k < rows.length := (List.getElem?_eq_some_iff.1 hr).1
        have hks : k * sz + sz ≤ rows.length * sz := by
         have := Nat.mul_le_mul_right sz (show k + 1 ≤ rows.length from hkl)
         rw [Nat.add_mul] at this; omega
        have hcs : rows.length * sz ≤ c.size := by rw [g6]; exact Nat.mul_le_mul_right _ g4
        obtain ⟨hu', hr'⟩ := w5e g3 g7 hr rds hle hul (by simpa using hcs)
        have hrun := z0o (P := P) (w := w) (of := k * sz + j) hi hsz g1 (by rw [← Array.length_toList, hul]; omega) hone
        have hbim := (hown b (.inl rfl)).1
        generalize hc' : (c.toList.take (k * sz + j) ++ (a.eval y).cells.toList ++ c.toList.drop (k * sz + j + (a.eval y).cells.toList.length)) = c' at *
        have hcl : c'.length = c.size := by rw [← hc']; simp only [List.length_append, List.length_take, List.length_drop, Array.length_toList] at *; omega
        have hk : ∀ q, q ≠ b → (w.setRow b c'.toArray).heap[q]? = w.heap[q]? := fun q hq => setRow_other w b q _ hq
        have m : Moves w.heap (w.setRow b c'.toArray).heap Im Im O O := ⟨fun _ h => h, fun q hq => hk q (fun e => hbim (e ▸ hq)), fun _ _ => .inl rfl⟩
        refine .inr ⟨w.setRow b c'.toArray, ?_, O, Im, s.write (w' := w.setRow b c'.toArray) (o := .arr sz rows false) (b := b) hob h1 (.inl rfl) (by exact fun _ => Iff.rfl) rfl rfl rfl (by simp) hk ?_, .dead _, .inl ⟨rfl, fun _ h => h⟩⟩
        ·simp [execOp, ho, hav, Instr.storeAt, Instr.sureAddr, hrun]
        ·exact .arr sz _ false b cap c'.toArray ty (0, 0) (setRow_heap w b c _ ty (0, 0) g1) (fun _ => rfl) hu' (by simpa using g4) g5 (by simp [hcl, g6]) (by simpa using hr'.moves m) g8
       ·cases e4
   | tre sz rows foc b cap c ty sub g1 g2 g3 g4 g5 g6 g7 g8 g9 =>
    cases foc with
    | none => simp at e4
    | some p =>
     obtain ⟨k0, cells⟩ := p
     simp only at e4
     split at e4
     ·rename_i hc
      simp only [Option.some.injEq] at e4
      obtain ⟨⟨rfl, hj⟩, hz⟩ := hc
      subst e4
      obtain ⟨q1, q2⟩ := g9
      have hul : (a.eval y).cells.toList.length = cs.length := rc.len.symm
      have hks : k * sz + sz ≤ rows.length * sz := by
       have := Nat.mul_le_mul_right sz (show k + 1 ≤ rows.length from q1)
       rw [Nat.add_mul] at this; omega
      have hcs : rows.length * sz ≤ c.size := by rw [g5]; exact Nat.mul_le_mul_right _ g3
      have hrun := z0o (P := P) (w := w) (of := k * sz + j) hi hsz g1 (by rw [← Array.length_toList, hul]; omega) hone
      have hbim := (hown b (.inl rfl)).1
      have hspl := y4g c.toList (a.eval y).cells.toList (k * sz) j sz (by omega) (by rw [Array.length_toList]; omega)
      have hcl : (c.toList.take (k * sz + j) ++ (a.eval y).cells.toList ++ c.toList.drop (k * sz + j + (a.eval y).cells.toList.length)).length = c.size := by simp only [List.length_append, List.length_take, List.length_drop, Array.length_toList] at *; omega
      have hhole : RelCs w.heap Im (holeR sz rows (some (k, cells))).flatten (c.toList.take (k * sz + j) ++ (a.eval y).cells.toList ++ c.toList.drop (k * sz + j + (a.eval y).cells.toList.length)) sub0 := by
       refine g8.holes fun p d hd => ?_
       have hu' : ∀ q ∈ rows.set k (List.replicate sz D.w), q.length = sz := by
        intro q hq
        rcases List.mem_or_eq_of_mem_set hq with hq | rfl
        ·exact g2 q hq
        ·simp
       have hplt : p < (rows.set k (List.replicate sz D.w)).flatten.length := (List.getElem?_eq_some_iff.1 hd).1
       rw [wa hu', List.length_set] at hplt
       have hsz0 : 0 < sz := by
        rcases Nat.eq_zero_or_pos sz with h0 | h0
        ·rw [h0] at hplt; simp at hplt
        ·exact h0
       have hdm : p = (p / sz) * sz + p % sz := by rw [Nat.mul_comm]; exact (Nat.div_add_mod p sz).symm
       have hml : p % sz < sz := Nat.mod_lt p hsz0
       have h1l : (c.toList.take (k * sz + j)).length = k * sz + j := by simp; omega
       by_cases hq : p / sz = k
       ·right
        simp only [holeR] at hd
        rw [hdm, flatten_getElem? hu' _ _ hml, hq, List.getElem?_set_self q1] at hd
        simp only [Option.bind_some, List.getElem?_replicate, if_pos hml, Option.some.injEq] at hd
        refine ⟨hd.symm, ?_⟩
        have hall : ∀ v ∈ (c.toList.take (k * sz + j) ++ (a.eval y).cells.toList ++ c.toList.drop (k * sz + j + (a.eval y).cells.toList.length)).drop (k * sz) |>.take sz, v.oneCell' = true := by
         rw [hspl]
         intro v hv
         rcases List.mem_append.1 hv with hv | hv
         ·rcases List.mem_append.1 hv with hv | hv
          ·exact q2.one v (List.mem_of_mem_take hv)
          ·exact hone v hv
         ·exact q2.one v (List.mem_of_mem_drop hv)
        generalize (c.toList.take (k * sz + j) ++ (a.eval y).cells.toList ++ c.toList.drop (k * sz + j + (a.eval y).cells.toList.length)) = V at *
        have hpV : p < V.length := by rw [hcl]; omega
        refine ⟨V[p], by simp [hpV], hall _ (List.mem_of_getElem? (i := p % sz) ?_)⟩
        rw [List.getElem?_take, if_pos hml, List.getElem?_drop, ← hq, ← hdm]
        simp [hpV]
       ·left
        have hlo : p / sz < k → p < k * sz := fun h => by
         have := Nat.mul_le_mul_right sz (show p / sz + 1 ≤ k from h)
         rw [Nat.add_mul] at this; omega
        have hhi : k < p / sz → k * sz + sz ≤ p := fun h => by
         have := Nat.mul_le_mul_right sz (show k + 1 ≤ p / sz from h)
         rw [Nat.add_mul] at this; omega
        rcases Nat.lt_or_gt_of_ne hq with h | h
        ·have := hlo h
         rw [List.append_assoc, List.getElem?_append_left (by omega), List.getElem?_take, if_pos (by omega)]
        ·have := hhi h
         rw [List.getElem?_append_right (by rw [List.length_append, h1l]; omega), List.getElem?_drop, List.length_append, h1l]
         congr 1; omega
      generalize hc' : (c.toList.take (k * sz + j) ++ (a.eval y).cells.toList ++ c.toList.drop (k * sz + j + (a.eval y).cells.toList.length)) = c' at *
      have hk : ∀ q, q ≠ b → (w.setRow b c'.toArray).heap[q]? = w.heap[q]? := fun q hq => setRow_other w b q _ hq
      have m : Moves w.heap (w.setRow b c'.toArray).heap Im Im O O := ⟨fun _ h => h, fun q hq => hk q (fun e => hbim (e ▸ hq)), fun _ _ => .inl rfl⟩
      refine .inr ⟨w.setRow b c'.toArray, ?_, O, Im, s.write (w' := w.setRow b c'.toArray) (o := .tre sz rows (some (k, cells))) (b := b) hob h1 (.inl rfl) (by exact fun _ => Iff.rfl) rfl rfl rfl (by simp) hk ?_, .dead _, .inl ⟨rfl, fun _ h => h⟩⟩
      ·simp [execOp, ho, hav, Instr.storeAt, Instr.sureAddr, hrun]
      ·refine .tre sz rows _ b cap c'.toArray ty sub0 (setRow_heap w b c _ ty (0, 0) g1) g2 g3 g4 (by simp [hcl, g5]) g6 g7 ?_ ?_
       ·exact hhole.keep (fun _ h => h) (fun q hq => hk q (fun e => by
         subst e
         rcases hq with hq | hq
         ·exact (List.nodup_cons.1 g7).1 hq
         ·exact hbim hq))
       ·refine ⟨q1, ?_⟩
        have r3 := ((q2.take j).append rc).append (q2.drop (j + cs.length))
        simp only
        rw [hspl, hul]
        exact r3.moves m
     ·cases e4
   | box cells b c ty g1 g2 g3 =>
    simp only at e4
    split at e4
    ·rename_i hc
     simp only [Option.some.injEq] at e4
     obtain ⟨rfl, hj⟩ := hc
     subst e4
     have hul : (a.eval y).cells.toList.length = cs.length := rc.len.symm
     have hcsz : c.toList.length = cells.length := g2.len.symm
     have hrun := z0o (P := P) (w := w) (of := 0 * cells.length + j) hi hsz g1 (by rw [← Array.length_toList, hul, ← Array.length_toList (xs := c), hcsz]; omega) hone
     simp only [Nat.zero_mul, Nat.zero_add] at hrun
     have hbim := (hown b (.inl rfl)).1
     have hk : ∀ (c' : Array Value) q, q ≠ b → (w.setRow b c').heap[q]? = w.heap[q]? := fun c' q hq => setRow_other w b q _ hq
     have m : ∀ c', Moves w.heap (w.setRow b c').heap Im Im O O := fun c' => ⟨fun _ h => h, fun q hq => hk c' q (fun e => hbim (e ▸ hq)), fun _ _ => .inl rfl⟩
     have hlen : (cells.take j ++ cs ++ cells.drop (j + cs.length)).length = cells.length := by simp only [List.length_append, List.length_take, List.length_drop]; omega
     refine .inr ⟨w.setRow b (c.toList.take j ++ (a.eval y).cells.toList ++ c.toList.drop (j + (a.eval y).cells.toList.length)).toArray, ?_, O, Im, s.write (w' := w.setRow b (c.toList.take j ++ (a.eval y).cells.toList ++ c.toList.drop (j + (a.eval y).cells.toList.length)).toArray) (o := .box cells) (b := b) hob h1 (.inl rfl) (by exact fun _ => Iff.rfl) rfl rfl rfl (by simp) (hk _) ?_, .dead _, .inl ⟨rfl, fun _ h => h⟩⟩
     ·simp [execOp, ho, hav, Instr.storeAt, Instr.sureAddr, hrun]
     ·have := RelO.box (h := (w.setRow b (c.toList.take j ++ (a.eval y).cells.toList ++ c.toList.drop (j + (a.eval y).cells.toList.length)).toArray).heap) (Im := Im) (O := O) (cells.take j ++ cs ++ cells.drop (j + cs.length)) b _ ty
       (setRow_heap w b c _ ty (0, 0) g1) (by
         have r3 := ((g2.take j).append rc).append (g2.drop (j + cs.length))
         rw [hul]
         simpa using r3.moves (m _)) g3
      rw [hlen] at this
      exact this
    ·cases e4
end
section
variable {P : Program} {G : Nat → Option (List D)} {X : Ctx} {σ σ' : St} {sv : SV} {a : Act} {w : World} {O : Nat → LS} {Im : Nat → Prop} {o : Oper}

theorem OkV.val (s : SimW G X σ a.tmps w O Im) {sv : SV} {v : Value} (h : (execOp a.eval o).run P w = .ok (.value v) w) (r : RelV w.heap Im O sv v) :
 OkV ((execOp a.eval o).run P w) fun v w' => Post G X a.tmps σ O σ sv v w' := .inl ⟨v, w, h, Post.same s r⟩

theorem w4l {h Im O} {p : Ptr} {v : Value} (r : RelP h Im O p v) (n : Nat) : (∃ b of, v = .pointer (some ⟨b, of, none⟩) ∧ RelP h Im O (z0x n p) (.pointer (some ⟨b, of + n, none⟩))) ∨ (∃ id i j, p = .q id i j ∧ O id = .gone) := by
 cases r with
 | qd id i j v h1 h2 => exact .inr ⟨id, i, j, rfl, h1⟩
 | q id i j b cap sz h1 => exact .inl ⟨_, _, rfl, by rw [Nat.add_assoc]; exact .q id i (j + n) b cap sz h1⟩
 | l sz rows i j b off c e fr h1 h2 h3 h4 => exact .inl ⟨_, _, rfl, by rw [Nat.add_assoc, Nat.add_assoc]; exact .l sz rows i (j + n) b off c e fr h1 h2 h3 h4⟩
theorem x2j (s : SimW G X σ a.tmps w O Im) {p : Ptr} {v : Value} (r : RelP w.heap Im O p v) (h : σ.alive p = true) (n : Nat) :
 ∃ b of, v = .pointer (some ⟨b, of, none⟩) ∧ RelP w.heap Im O (z0x n p) (.pointer (some ⟨b, of + n, none⟩)) := by
 rcases w4l r n with h1 | ⟨id, i, j, rfl, h2⟩
 ·exact h1
 ·obtain ⟨o, ho⟩ := Option.isSome_iff_exists.1 h
  obtain ⟨l, hl, _⟩ := s.obj id o ho
  rw [h2] at hl; cases hl
theorem w4d (p : Ptr) : z0x 0 p = p := by cases p <;> rfl
theorem snd_fa {ty : TypeId} {fs : Array Field} {k : Nat} {f : Field} {x : Operand} {ox : Od} {tx : TypeId} {p : Ptr} (ho : o.op = .fieldAddr ty x k) (hu : P.underlying ty = some (.struct fs)) (hf : fs[k]? = some f) (hz : P.cellsOf f.type ≠ 0)
 (hx : lowOd P tx x = some ox) (s : SimW G X σ a.tmps w O Im) (e : asPtr (σ.ev G ox) = some p) (hal : σ.alive p = true) :
 OkV ((execOp a.eval o).run P w) fun v w' => Post G X a.tmps σ O σ (.one (.p (z0x f.offset p))) v w' := by
 obtain ⟨b, of, hv, hr⟩ := x2j s (y0l (ud s hx) e) hal f.offset
 obtain ⟨i, hi⟩ : ∃ i, P.info? f.type = some i := by
  cases h : P.info? f.type with
  | none => simp [Program.cellsOf, h] at hz
  | some i => exact ⟨i, rfl⟩
 have hz' : i.size ≠ 0 := by simpa [Program.cellsOf, hi] using hz
 refine OkV.val s ?_ (.one _ _ (.p _ _ hr))
 simp [execOp, ho, hv, Instr.fieldAt, Instr.sureAddr, run_underlying hu, hf, fieldPlace, sizeOf, typeInfo, hi, hz', Addr.add_lit]
theorem x4g {x : Operand} {ox : Od} {tx : TypeId} {p : Ptr} (ho : o.op = .nilCheck x) (hx : lowOd P tx x = some ox) (s : SimW G X σ a.tmps w O Im) (e : asPtr (σ.ev G ox) = some p) (hal : σ.alive p = true) :
 OkV ((execOp a.eval o).run P w) fun v w' => Post G X a.tmps σ O σ (.one (.p p)) v w' := by
 obtain ⟨b, of, hv, hr⟩ := x2j s (y0l (ud s hx) e) hal 0
 rw [w4d] at hr
 refine OkV.val s (v := .pointer (some ⟨b, of, none⟩)) ?_ (.one _ _ (.p _ _ (by simpa using hr)))
 simp [execOp, ho, hv]
theorem snd_fl {ty : TypeId} {fs : Array Field} {k : Nat} {f : Field} {x : Operand} {ox : Od} {agg : Bool} {n : Nat} {cs : List SC} {sv : SV} (ho : o.op = .field ty x k) (hu : P.underlying ty = some (.struct fs)) (hf : fs[k]? = some f)
 (hagg : xn P f.type = agg) (hn : P.cellsOf f.type = n) (hok : agg = true ∨ n = 1) (hx : lowOd P ty x = some ox) (s : SimW G X σ a.tmps w O Im) (e1 : asAgg (σ.ev G ox) = some cs) (hle : f.offset + n ≤ cs.length)
 (e2 : mkV agg ((cs.drop f.offset).take n) = some sv) (hd : ∃ d, P.underlying f.type = some d) :
 OkV ((execOp a.eval o).run P w) fun v w' => Post G X a.tmps σ O σ sv v w' := by
 obtain ⟨cv, hv, hr⟩ := agg_inv (ud s hx) e1
 obtain ⟨d, hd⟩ := hd
 obtain ⟨i, hi⟩ := u0f hd
 have hsz : i.size = n := by simpa [Program.cellsOf, hi] using hn
 obtain ⟨h1, h2⟩ := y2r ((hr.drop f.offset).take n) e2
 have hcl : cs.length = cv.size := by simpa using hr.len
 cases agg with
 | true =>
  have hagg' : (isAgg f.type).run P w = .ok true w := by
   unfold isAgg
   rw [Sem.run_bind, run_underlying hd w]
   unfold xn at hagg
   rw [hd] at hagg
   cases d <;> simp_all
  refine OkV.val s (v := .agg ((cv.toList.drop f.offset).take n).toArray) ?_ (by simpa using h1)
  have hex : cv.extract f.offset (f.offset + n) = ((cv.toList.drop f.offset).take n).toArray := by
   apply Array.toList_inj.1
   simp [Array.toList_extract, List.extract_eq_take_drop]
  simp [execOp, ho, hv, Instr.field, run_underlying hu, hf, part, hagg', Go.asAgg, sizeOf, typeInfo, hi, hsz, hex]
 | false =>
  obtain rfl : n = 1 := by rcases hok with h | h; cases h; exact h
  have hagg' : (isAgg f.type).run P w = .ok false w := by
   unfold isAgg
   rw [Sem.run_bind, run_underlying hd w]
   unfold xn at hagg
   rw [hd] at hagg
   cases d <;> simp_all
  have hlt : f.offset < cv.size := by omega
  have hget : cv[f.offset]? = some cv[f.offset] := by simp [hlt]
  refine OkV.val s (v := cv[f.offset]) ?_ ?_
  ·simp [execOp, ho, hv, Instr.field, run_underlying hu, hf, part, hagg', Go.asAgg, hget]
  ·have : ((cv.toList.drop f.offset).take 1) = [cv[f.offset]] := by
    rw [List.drop_eq_getElem_cons (by simpa using hlt)]
    simp
   simpa [this] using h1

theorem x2g {sz : Nat} : ∀ (m : Nat) (ds : List D), ds.length = m * sz → (rowsN sz m ds).flatten = ds ∧ ∀ r ∈ rowsN sz m ds, r.length = sz
 | 0, ds, h => by
  have : ds = [] := List.length_eq_zero_iff.1 (by simpa using h)
  subst this; simp [rowsN]
 | m + 1, ds, h => by
  have h' : ds.length = m * sz + sz := by rw [h, Nat.add_mul, Nat.one_mul]
  obtain ⟨h1, h2⟩ := x2g (sz := sz) m (ds.drop sz) (by simp; omega)
  simp only [rowsN, List.flatten_cons, h1, List.take_append_drop, List.mem_cons, true_and]
  intro r hr
  rcases hr with rfl | hr
  ·simp; omega
  ·exact h2 r hr
theorem snd_iaa {ty el : TypeId} {m : Nat} {x y : Operand} {ox oy : Od} {tx ty' : TypeId} {sz : Nat} {n : Int} {sv : SV} (ho : o.op = .indexAddr ty x y) (hu : P.underlying ty = some (.array m el)) (hsz : P.cellsOf el = sz) (hi : ∃ i, P.info? el = some i)
 (hx : lowOd P tx x = some ox) (hy : lowOd P ty' y = some oy) (s : SimW G X σ a.tmps w O Im) (e1 : asInt (σ.ev G oy) = some n) (e2 : σ.iaa m sz n (σ.ev G ox) = some sv) :
 OkV ((execOp a.eval o).run P w) fun v w' => Post G X a.tmps σ O σ sv v w' := by
 obtain ⟨k, hk, _⟩ := v0s (ud s hy) e1
 obtain ⟨i, hi⟩ := hi
 have hisz : i.size = sz := by simpa [Program.cellsOf, hi] using hsz
 have hr := ud s hx
 generalize hsv : σ.ev G ox = svx at hr e2
 generalize hav : a.eval x = av at hr
 unfold St.iaa at e2
 split at e2
 ·rename_i cells
  split at e2
  ·rename_i hc
   cases e2
   have := hr.one_inv.d_inv
   cases this with
   | k _ b c e fr him hb hcs =>
    refine OkV.val s (v := .pointer (some ⟨b, n.toNat * sz, none⟩)) ?_ ?_
    ·simp [execOp, ho, hav, hk, Instr.indexAt, Instr.sureAddr, asIntOf, run_underlying hu, hc.1.1, hc.1.2, sizeOf, typeInfo, hi, hisz, Addr.add_lit]
    ·obtain ⟨g1, g2⟩ := x2g m cells hc.2
     have := RelP.l (h := w.heap) (Im := Im) (O := O) sz (rowsT sz m cells) n.toNat 0 b 0 c e fr him hb g2 (by rw [rowsT, g1]; exact hcs)
     simp only [Nat.add_zero, Nat.zero_add] at this
     exact .one _ _ (.p _ _ this)
  ·cases e2
 ·rename_i p
  split at e2
  ·rename_i hc
   cases e2
   have hrp : RelP w.heap Im O p av := by
    cases hr with
    | one _ _ r => cases r with | p _ _ r => exact r
   obtain ⟨b, of, hv, hr'⟩ := x2j s hrp hc.2 (n.toNat * sz)
   refine OkV.val s ?_ (.one _ _ (.p _ _ hr'))
   simp [execOp, ho, hav, hv, hk, Instr.indexAt, Instr.sureAddr, asIntOf, run_underlying hu, hc.1.1, hc.1.2, sizeOf, typeInfo, hi, hisz, Addr.add_lit]
  ·cases e2
 ·cases e2
theorem snd_ia {ty el : TypeId} {x y : Operand} {ox oy : Od} {ty' : TypeId} {sz : Nat} {n : Int} {sv : SV} (ho : o.op = .indexAddr ty x y) (hu : P.underlying ty = some (.slice el)) (hsz : P.cellsOf el = sz) (hi : ∃ i, P.info? el = some i)
 (hx : lowOd P ty x = some ox) (hy : lowOd P ty' y = some oy) (s : SimW G X σ a.tmps w O Im) (e1 : asInt (σ.ev G oy) = some n) (e2 : σ.ia sz n (σ.ev G ox) = some sv) :
 OkV ((execOp a.eval o).run P w) fun v w' => Post G X a.tmps σ O σ sv v w' := by
 obtain ⟨k, hk, _⟩ := v0s (ud s hy) e1
 obtain ⟨i, hi⟩ := hi
 have hisz : i.size = sz := by simpa [Program.cellsOf, hi] using hsz
 have hr := ud s hx
 generalize hsv : σ.ev G ox = svx at hr e2
 generalize hav : a.eval x = av at hr
 unfold St.ia at e2
 split at e2
 ·rename_i sz' rows
  split at e2
  ·rename_i hc
   obtain ⟨rfl, h0, h1⟩ := hc
   cases e2
   have := hr.one_inv.d_inv
   cases this with
   | l0 => simp at h1; omega
   | l _ _ b off cap c e fr g1 g2 g3 g4 g5 =>
    refine OkV.val s (v := .pointer (some ⟨b, off + n.toNat * sz', none⟩)) ?_ ?_
    ·simp [execOp, ho, hav, hk, Instr.indexAt, asIntOf, run_underlying hu, h0, h1, sizeOf, typeInfo, hi, hisz, Addr.add_lit]
    ·have := RelP.l (h := w.heap) (Im := Im) (O := O) sz' rows n.toNat 0 b off c e fr g1 g2 g3 g5
     simp only [Nat.add_zero] at this
     exact .one _ _ (.p _ _ this)
  ·cases e2
 ·rename_i id off len
  split at e2
  ·rename_i s' rows fz hob
   split at e2
   ·rename_i hc
    obtain ⟨rfl, h0, h1⟩ := hc
    cases e2
    obtain ⟨l, hl, hro, _⟩ := s.obj id _ hob
    have hrr := hr.one_inv
    cases hrr with
    | rd _ _ _ _ h2 _ => rw [h2] at hl; cases hl
    | rn => simp at h1; omega
    | r _ _ _ b cap sz' ad c h2 h3 h4 h5 =>
     rw [h2] at hl; cases hl
     have h5' : ad = ⟨b, off * s', none⟩ := by
      rcases h5 with h | h
      ·cases hro; exact h
      ·omega
     subst h5'
     have hss : s' = sz' := by cases hro; rfl
     subst hss
     refine OkV.val s (v := .pointer (some ⟨b, off * s' + n.toNat * s', none⟩)) ?_ ?_
     ·simp [execOp, ho, hav, hk, Instr.indexAt, asIntOf, run_underlying hu, h0, h1, sizeOf, typeInfo, hi, hisz, Addr.add_lit]
     ·have := RelP.q (h := w.heap) (Im := Im) (O := O) id (off + n.toNat) 0 b cap s' h2
      simp only [Nat.add_zero, Nat.add_mul] at this
      exact .one _ _ (.p _ _ this)
   ·cases e2
  ·rename_i s' rows foc hob
   split at e2
   ·rename_i hc
    obtain ⟨rfl, h0, h1⟩ := hc
    cases e2
    obtain ⟨l, hl, hro, _⟩ := s.obj id _ hob
    have hrr := hr.one_inv
    cases hrr with
    | rd _ _ _ _ h2 _ => rw [h2] at hl; cases hl
    | rn => simp at h1; omega
    | r _ _ _ b cap sz' ad c h2 h3 h4 h5 =>
     rw [h2] at hl; cases hl
     have h5' : ad = ⟨b, off * s', none⟩ := by
      rcases h5 with h | h
      ·cases hro; exact h
      ·omega
     subst h5'
     have hss : s' = sz' := by cases hro; rfl
     subst hss
     refine OkV.val s (v := .pointer (some ⟨b, off * s' + n.toNat * s', none⟩)) ?_ ?_
     ·simp [execOp, ho, hav, hk, Instr.indexAt, asIntOf, run_underlying hu, h0, h1, sizeOf, typeInfo, hi, hisz, Addr.add_lit]
     ·have := RelP.q (h := w.heap) (Im := Im) (O := O) id (off + n.toNat) 0 b cap s' h2
      simp only [Nat.add_zero, Nat.add_mul] at this
      exact .one _ _ (.p _ _ this)
   ·cases e2
  ·cases e2
 ·cases e2
end
section
variable {P : Program} {G : Nat → Option (List D)} {X : Ctx} {σ σ' : St} {sv : SV} {a : Act} {w : World} {O : Nat → LS} {Im : Nat → Prop} {o : Oper}

theorem v0u {t el : TypeId} {i : TypeInfo} {ad : Option Addr} {len cap : Nat} {lo hi : Option Value} {l h : Int} (hu : P.underlying t = some (.slice el)) (hi' : P.info? el = some i)
 (hlo : (lo = none ∧ l = 0) ∨ ∃ k, lo = some (.int k l)) (hhi : (hi = none ∧ h = len) ∨ ∃ k, hi = some (.int k h)) (h0 : 0 ≤ l) (h1 : l ≤ h) (h2 : h ≤ cap) (h3 : len ≤ cap) :
 (Instr.sliceAt t (.slice ad len cap) lo hi none).run P w = .ok (.slice (if cap = l.toNat then ad else ad.map (·.add (l.toNat * i.size))) (h.toNat - l.toNat) (cap - l.toNat)) w := by
 have g1 : ∀ k, (Instr.sliceBound (.int k h) cap .sliceAcap).run P w = .ok h.toNat w := fun k => by
  exact run_sliceBound (P := P) w k h cap .sliceAcap (by omega) (by omega)
 have g2 : ∀ k, (Instr.sliceBound (.int k l) h.toNat .sliceB).run P w = .ok l.toNat w := fun k => by
  exact run_sliceBound (P := P) w k l h.toNat .sliceB (by omega) (by omega)
 have g3 : ∀ k, h = len → (Instr.sliceBound (.int k l) len .sliceB).run P w = .ok l.toNat w := fun k e => by
  exact run_sliceBound (P := P) w k l len .sliceB (by omega) (by omega)
 rcases hlo with ⟨rfl, rfl⟩ | ⟨kl, rfl⟩
 ·rcases hhi with ⟨rfl, rfl⟩ | ⟨kh, rfl⟩
  ·simp [Instr.sliceAt, Instr.slice, run_underlying hu, Instr.sliceBounds, sizeOf, typeInfo, hi']
  ·simp [Instr.sliceAt, Instr.slice, run_underlying hu, Instr.sliceBounds, sizeOf, typeInfo, hi', g1]
 ·rcases hhi with ⟨rfl, rfl⟩ | ⟨kh, rfl⟩
  ·simp [Instr.sliceAt, Instr.slice, run_underlying hu, Instr.sliceBounds, sizeOf, typeInfo, hi', g3 kl rfl]
  ·simp [Instr.sliceAt, Instr.slice, run_underlying hu, Instr.sliceBounds, sizeOf, typeInfo, hi', g1, g2]

theorem v0h {t el : TypeId} {i : TypeInfo} {ad : Option Addr} {len cap : Nat} {lo hi : Option Value} {l h : Int} (hu : P.underlying t = some (.slice el)) (hi' : P.info? el = some i)
 (hlo : (lo = none ∧ l = 0) ∨ ∃ k, lo = some (.int k l)) (hhi : (hi = none ∧ h = len) ∨ ∃ k, hi = some (.int k h)) (h0 : 0 ≤ l) (h1 : l ≤ h) (h2 : h ≤ len) (h3 : len ≤ cap) :
 (Instr.sliceAt t (.slice ad len cap) lo hi none).run P w = .ok (.slice (if cap = l.toNat then ad else ad.map (·.add (l.toNat * i.size))) (h.toNat - l.toNat) (cap - l.toNat)) w := v0u hu hi' hlo hhi h0 h1 (by omega) h3

theorem x0e (s : SimW G X σ a.tmps w O Im) {lo : Option Operand} {ol : Option Od} {r : Option Int} (h : u0h P lo = some ol) (e : optI G σ ol = some r) (d : Int) :
 (lo.map a.eval = none ∧ r.getD d = d) ∨ ∃ k, lo.map a.eval = some (.int k (r.getD d)) := by
 cases lo with
 | none => simp only [u0h, Option.some.injEq] at h; subst h; simp only [optI, Option.some.injEq] at e; subst e; exact .inl ⟨rfl, rfl⟩
 | some x =>
  simp only [u0h, Option.map_eq_some_iff] at h
  obtain ⟨od, h1, rfl⟩ := h
  simp only [optI] at e
  split at e
  ·rename_i k n he
   simp only [Option.some.injEq] at e; subst e
   have := ud s h1
   rw [he] at this
   have := this.one_inv.d_inv
   right
   refine ⟨k, ?_⟩
   simp only [Option.map_some, Option.getD_some]
   generalize a.eval x = v at this
   cases this; rfl
  ·cases e

theorem snd_sl {ty el : TypeId} {x : Operand} {lo hi : Option Operand} {ox : Od} {ol oh : Option Od} {rl rh : Option Int} {sz : Nat} {sv : SV} (ho : o.op = .slice ty x lo hi none) (hu : P.underlying ty = some (.slice el)) (hsz : P.cellsOf el = sz) (hi' : ∃ i, P.info? el = some i)
 (hx : lowOd P ty x = some ox) (hl : u0h P lo = some ol) (hh : u0h P hi = some oh) (s : SimW G X σ a.tmps w O Im) (e1 : optI G σ ol = some rl) (e2 : optI G σ oh = some rh) (e3 : σ.slV sz (σ.ev G ox) rl rh = some sv) :
 OkV ((execOp a.eval o).run P w) fun v w' => Post G X a.tmps σ O σ sv v w' := by
 obtain ⟨i, hi'⟩ := hi'
 have hisz : i.size = sz := by simpa [Program.cellsOf, hi'] using hsz
 have hr := ud s hx
 generalize hsv : σ.ev G ox = svx at hr e3
 generalize hav : a.eval x = av at hr
 unfold St.slV at e3
 split at e3
 ·rename_i s' rows
  split at e3
  ·rename_i hc
   obtain ⟨rfl, h0, h1, h2⟩ := hc
   cases e3
   have := hr.one_inv.d_inv
   generalize hL : rl.getD 0 = L at *
   have hlo := x0e s hl e1 0
   rw [hL] at hlo
   cases this with
   | l0 _ ad cap =>
    have hhi := x0e s hh e2 (0 : Int)
    simp only [List.length_nil, Int.natCast_zero] at h1 h2
    generalize hH : rh.getD 0 = H at *
    have hrun := v0h (P := P) (w := w) (ad := ad) (len := 0) (cap := cap) hu hi' hlo hhi h0 h1 (by omega) (by omega)
    refine OkV.val s (v := _) (by simp [execOp, ho, hav, hrun]; rfl) ?_
    rw [show H.toNat - L.toNat = 0 from by omega]
    simpa using RelV.one (h := w.heap) (Im := Im) (O := O) _ _ (.d _ _ (.l0 s' _ _))
   | l _ _ b off cap c e fr g1 g2 g3 g4 g5 =>
    have hhi := x0e s hh e2 (rows.length : Int)
    generalize hH : rh.getD (rows.length : Int) = H at *
    have hrun := v0h (P := P) (w := w) (ad := some ⟨b, off, none⟩) (len := rows.length) (cap := cap) hu hi' hlo hhi h0 h1 h2 g4.2
    refine OkV.val s (v := _) (by simp only [execOp, ho, hav, Option.map_none, Sem.run_bind, hrun, Result.andThen_ok, Sem.run_pure]; rfl) ?_
    refine .one _ _ (.d _ _ ?_)
    have hlen : ((rows.drop L.toNat).take (H - L).toNat).length = H.toNat - L.toNat := by simp; omega
    by_cases hz : H.toNat - L.toNat = 0
    ·have : (rows.drop L.toNat).take (H - L).toNat = [] := List.eq_nil_of_length_eq_zero (by omega)
     rw [this, hz]
     exact .l0 _ _ _
    ·have hcl : cap ≠ L.toNat := by omega
     rw [if_neg hcl, ← hlen]
     simp only [Option.map_some, Addr.add_lit, hisz]
     refine .l _ _ b _ _ c e fr g1 g2 (fun r hr => g3 r (List.mem_of_mem_drop (List.mem_of_mem_take hr))) ⟨by omega, by omega⟩ ?_
     have hu' : ∀ r ∈ rows.drop L.toNat, r.length = s' := fun r hr => g3 r (List.mem_of_mem_drop hr)
     rw [← xp hu' _, ← xx g3 _, ← List.drop_drop]
     exact (g5.drop _).take _
  ·cases e3
 ·rename_i id off len
  split at e3
  ·rename_i s' rows fz hob
   split at e3
   ·rename_i hc
    obtain ⟨rfl, h0, h1, h2⟩ := hc
    cases e3
    have hlo := x0e s hl e1 0
    have hhi := x0e s hh e2 (len : Int)
    generalize hL : rl.getD 0 = L at *
    generalize hH : rh.getD (len : Int) = H at *
    obtain ⟨l, hl', hro, _⟩ := s.obj id _ hob
    have hrr := hr.one_inv
    cases hrr with
    | rd _ _ _ _ g1 _ => rw [g1] at hl'; cases hl'
    | rn _ cap sz' a0 g1 =>
     have hrun := v0h (P := P) (w := w) (ad := a0) (len := 0) (cap := 0) hu hi' hlo hhi h0 h1 h2 (by omega)
     refine OkV.val s (v := _) (by simp only [execOp, ho, hav, Option.map_none, Sem.run_bind, hrun, Result.andThen_ok, Sem.run_pure]; rfl) ?_
     obtain rfl : L = 0 := by omega
     obtain rfl : H = 0 := by omega
     simpa using RelV.one (h := w.heap) (Im := Im) (O := O) _ _ (.rn id cap sz' a0 g1)
    | r _ _ _ b cap sz' ad c g1 g2 g3 g4 =>
     have hrun := v0h (P := P) (w := w) (ad := some ad) (len := len) (cap := c) hu hi' hlo hhi h0 h1 h2 g2
     refine OkV.val s (v := _) (by simp only [execOp, ho, hav, Option.map_none, Sem.run_bind, hrun, Result.andThen_ok, Sem.run_pure]; rfl) ?_
     rw [g1] at hl'; cases hl'
     have hss : s' = sz' := by cases hro; rfl
     subst hss
     by_cases hcl : c = L.toNat
     ·rw [if_pos hcl]
      refine .one _ _ ?_
      rw [show (H - L).toNat = H.toNat - L.toNat from by omega]
      exact .r _ _ _ b cap s' _ _ g1 (by omega) (by omega) (.inr (by omega))
     ·rw [if_neg hcl]
      simp only [Option.map_some]
      have : ad = ⟨b, off * s', none⟩ := by rcases g4 with h | h; exact h; omega
      subst this
      refine .one _ _ ?_
      rw [show (H - L).toNat = H.toNat - L.toNat from by omega]
      exact .r _ _ _ b cap s' _ _ g1 (by omega) (by omega) (.inl (by rw [Addr.add_lit, hisz, Nat.add_mul]))
   ·cases e3
  ·cases e3
 ·rename_i s'
  split at e3
  ·rename_i hc
   obtain ⟨rfl, h0, h1⟩ := hc
   cases e3
   cases hr.one_inv with
   | nl _ a0 =>
    have hlo := x0e s hl e1 0
    have hhi := x0e s hh e2 (0 : Int)
    rw [h0] at hlo; rw [h1] at hhi
    have hrun := v0h (P := P) (w := w) (ad := a0) (len := 0) (cap := 0) hu hi' hlo hhi (by omega) (by omega) (by omega) (by omega)
    refine OkV.val s (v := _) (by simp [execOp, ho, hav, hrun]; rfl) ?_
    simpa using RelV.one (h := w.heap) (Im := Im) (O := O) _ _ (.nl s' _)
  ·cases e3
 ·rename_i id off len cp
  split at e3
  ·rename_i s' rows fz hob
   split at e3
   ·rename_i hc
    obtain ⟨rfl, h0, h1, h2⟩ := hc
    cases e3
    have hlo := x0e s hl e1 0
    have hhi := x0e s hh e2 (len : Int)
    generalize hL : rl.getD 0 = L at *
    generalize hH : rh.getD (len : Int) = H at *
    obtain ⟨l, hl', hro, _⟩ := s.obj id _ hob
    have hrr := hr.one_inv
    cases hrr with
    | rcd _ _ _ _ _ g1 _ => rw [g1] at hl'; cases hl'
    | rcn _ cap sz' a0 g1 =>
     have hrun := v0u (P := P) (w := w) (ad := a0) (len := 0) (cap := 0) hu hi' hlo hhi h0 h1 h2 (by omega)
     refine OkV.val s (v := _) (by simp only [execOp, ho, hav, Option.map_none, Sem.run_bind, hrun, Result.andThen_ok, Sem.run_pure]; rfl) ?_
     obtain rfl : L = 0 := by omega
     obtain rfl : H = 0 := by omega
     simpa using RelV.one (h := w.heap) (Im := Im) (O := O) _ _ (.rcn id cap sz' a0 g1)
    | rc _ _ _ _ b cap sz' ad g1 g2 g3 g4 =>
     have hrun := v0u (P := P) (w := w) (ad := some ad) (len := len) (cap := cp) hu hi' hlo hhi h0 h1 h2 g2
     refine OkV.val s (v := _) (by simp only [execOp, ho, hav, Option.map_none, Sem.run_bind, hrun, Result.andThen_ok, Sem.run_pure]; rfl) ?_
     rw [g1] at hl'; cases hl'
     have hss : s' = sz' := by cases hro; rfl
     subst hss
     by_cases hcl : cp = L.toNat
     ·rw [if_pos hcl]
      refine .one _ _ ?_
      rw [show (H - L).toNat = H.toNat - L.toNat from by omega]
      exact .rc _ _ _ _ b cap s' _ g1 (by omega) (by omega) (.inr (by omega))
     ·rw [if_neg hcl]
      simp only [Option.map_some]
      have : ad = ⟨b, off * s', none⟩ := by rcases g4 with h | h; exact h; omega
      subst this
      refine .one _ _ ?_
      rw [show (H - L).toNat = H.toNat - L.toNat from by omega]
      exact .rc _ _ _ _ b cap s' _ g1 (by omega) (by omega) (.inl (by rw [Addr.add_lit, hisz, Nat.add_mul]))
   ·cases e3
  ·cases e3
 ·cases e3
end
section
variable {P : Program} {G : Nat → Option (List D)} {X : Ctx} {σ σ' : St} {sv : SV} {a : Act} {w : World} {O : Nat → LS} {Im : Nat → Prop} {o : Oper}
theorem w2n {t el : TypeId} {i : TypeInfo} {b m : Nat} {lo hi : Option Value} {l h : Int} (hu : P.underlying t = some (.array m el)) (hi' : P.info? el = some i)
 (hlo : (lo = none ∧ l = 0) ∨ ∃ k, lo = some (.int k l)) (hhi : (hi = none ∧ h = m) ∨ ∃ k, hi = some (.int k h)) (h0 : 0 ≤ l) (h1 : l ≤ h) (h2 : h ≤ m) :
 (Instr.sliceAt t (.pointer (some ⟨b, 0, none⟩)) lo hi none).run P w = .ok (.slice (some (if m = l.toNat then ⟨b, 0, none⟩ else (Addr.mk b 0 none).add (l.toNat * i.size))) (h.toNat - l.toNat) (m - l.toNat)) w := by
 have g1 : ∀ k, (Instr.sliceBound (.int k h) m .sliceAlen).run P w = .ok h.toNat w := fun k => run_sliceBound (P := P) w k h m .sliceAlen (by omega) (by omega)
 have g2 : ∀ k, (Instr.sliceBound (.int k l) h.toNat .sliceB).run P w = .ok l.toNat w := fun k => run_sliceBound (P := P) w k l h.toNat .sliceB (by omega) (by omega)
 have g3 : ∀ k, h = m → (Instr.sliceBound (.int k l) m .sliceB).run P w = .ok l.toNat w := fun k e => run_sliceBound (P := P) w k l m .sliceB (by omega) (by omega)
 rcases hlo with ⟨rfl, rfl⟩ | ⟨kl, rfl⟩
 ·rcases hhi with ⟨rfl, rfl⟩ | ⟨kh, rfl⟩
  ·simp [Instr.sliceAt, Instr.sureAddr, run_underlying hu, Instr.sliceBounds, sizeOf, typeInfo, hi']
  ·simp [Instr.sliceAt, Instr.sureAddr, run_underlying hu, Instr.sliceBounds, sizeOf, typeInfo, hi', g1]
 ·rcases hhi with ⟨rfl, rfl⟩ | ⟨kh, rfl⟩
  ·simp [Instr.sliceAt, Instr.sureAddr, run_underlying hu, Instr.sliceBounds, sizeOf, typeInfo, hi', g3 kl rfl]
  ·simp [Instr.sliceAt, Instr.sureAddr, run_underlying hu, Instr.sliceBounds, sizeOf, typeInfo, hi', g1, g2]
theorem snd_sla {ty el tx : TypeId} {m : Nat} {x : Operand} {lo hi : Option Operand} {ox : Od} {ol oh : Option Od} {rl rh : Option Int} {sz : Nat} {sv : SV} (ho : o.op = .slice ty x lo hi none) (hu : P.underlying ty = some (.array m el)) (hsz : P.cellsOf el = sz) (hi' : ∃ i, P.info? el = some i)
 (hx : lowOd P tx x = some ox) (hl : u0h P lo = some ol) (hh : u0h P hi = some oh) (s : SimW G X σ a.tmps w O Im) (e1 : optI G σ ol = some rl) (e2 : optI G σ oh = some rh) (e3 : slaV m sz rl rh (σ.ev G ox) = some sv) :
 OkV ((execOp a.eval o).run P w) fun v w' => Post G X a.tmps σ O σ sv v w' := by
 obtain ⟨i, hi'⟩ := hi'
 have hisz : i.size = sz := by simpa [Program.cellsOf, hi'] using hsz
 have hr := ud s hx
 generalize hsv : σ.ev G ox = svx at hr e3
 generalize hav : a.eval x = av at hr
 unfold slaV at e3
 split at e3
 ·rename_i cells
  split at e3
  ·rename_i hc
   obtain ⟨⟨h0, h1, h2⟩, hlen, hm⟩ := hc
   cases e3
   have := hr.one_inv.d_inv
   cases this with
   | k _ b c e fr him hb hcs =>
    have hlo := x0e s hl e1 0
    have hhi := x0e s hh e2 (m : Int)
    generalize rl.getD 0 = L at *
    generalize rh.getD (m : Int) = H at *
    have hrun := w2n (P := P) (w := w) (b := b) hu hi' hlo hhi h0 h1 h2
    refine OkV.val s (v := _) (by simp only [execOp, ho, hav, Option.map_none, Sem.run_bind, hrun, Result.andThen_ok, Sem.run_pure]; rfl) ?_
    refine .one _ _ (.d _ _ ?_)
    obtain ⟨g1, g2⟩ := x2g m cells hlen
    have hrl : (rowsT sz m cells).length = m := by
     have : ∀ (n : Nat) (ds : List D), (rowsN sz n ds).length = n := by
      intro n
      induction n with
      | zero => intro ds; rfl
      | succ n ih => intro ds; simp [rowsN, ih]
     exact this m cells
    have hlen2 : (((rowsT sz m cells).drop L.toNat).take (H - L).toNat).length = H.toNat - L.toNat := by simp [hrl]; omega
    by_cases hz : H.toNat - L.toNat = 0
    ·have : ((rowsT sz m cells).drop L.toNat).take (H - L).toNat = [] := List.eq_nil_of_length_eq_zero (by omega)
     rw [this, hz]
     exact .l0 _ _ _
    ·have hcl : m ≠ L.toNat := by omega
     rw [if_neg hcl, ← hlen2]
     simp only [Addr.add_lit, hisz]
     have g3 : ∀ r ∈ rowsT sz m cells, r.length = sz := g2
     refine .l _ _ b _ _ c e fr him hb (fun r hr => g3 r (List.mem_of_mem_drop (List.mem_of_mem_take hr))) ⟨by omega, by omega⟩ ?_
     have hu' : ∀ r ∈ (rowsT sz m cells).drop L.toNat, r.length = sz := fun r hr => g3 r (List.mem_of_mem_drop hr)
     rw [← xp hu' _, ← xx g3 _, Nat.zero_add]
     have hcs' : RelCs w.heap Im (rowsT sz m cells).flatten c.toList [] := by rw [rowsT, g1]; exact hcs
     exact (hcs'.drop _).take _
  ·cases e3
 ·cases e3
end
section
variable {P : Program} {G : Nat → Option (List D)} {X : Ctx} {σ σ' : St} {sv : SV} {a : Act} {w : World} {O : Nat → LS} {Im : Nat → Prop} {o : Oper}

theorem RelV.dd {h Im} {O : Nat → LS} {d : D} {v : Value} (r : RelD h Im d v []) : RelV h Im O (.one (.d d)) v := .one _ _ (.d _ _ r)

theorem snd_ix {ty ty' : TypeId} {x y : Operand} {ox oy : Od} {n : Int} {b : ByteArray} (ho : o.op = .index ty x y) (hu : P.underlying ty = some .string) (hx : lowOd P ty x = some ox) (hy : lowOd P ty' y = some oy)
 (s : SimW G X σ a.tmps w O Im) (e1 : asInt (σ.ev G oy) = some n) (e2 : asStr (σ.ev G ox) = some b) (h0 : 0 ≤ n) (h1 : n < b.size) :
 OkV ((execOp a.eval o).run P w) fun v w' => Post G X a.tmps σ O σ (.one (.d (.i .u8 (b.data.toList.getD n.toNat 0).toNat))) v w' := by
 obtain ⟨k, hk, _⟩ := v0s (ud s hy) e1
 have hb := w1z (ud s hx) e2
 have hlt : n.toNat < b.size := by omega
 refine OkV.val s (v := .int .u8 (b[n.toNat]'hlt).toNat) ?_ ?_
 ·simp [execOp, ho, hb, hk, Instr.index, asIntOf, run_underlying hu, h0, hlt]
 ·have : (b.data.toList.getD n.toNat 0) = b[n.toNat]'hlt := by
   rw [List.getD_eq_getElem?_getD, List.getElem?_eq_getElem (by simpa using hlt)]
   rfl
  rw [this]
  exact .dd (.i _ _)

theorem snd_cvi {src dst : TypeId} {k k0 : IntKind} {x : Operand} {ox : Od} {n : Int} (ho : o.op = .convert src dst x) (hs : P.underlying src = some (.int k0)) (hd : P.underlying dst = some (.int k)) (hx : lowOd P src x = some ox)
 (s : SimW G X σ a.tmps w O Im) (e : asInt (σ.ev G ox) = some n) : OkV ((execOp a.eval o).run P w) fun v w' => Post G X a.tmps σ O σ (.one (.d (.i k (k.wrap n)))) v w' := by
 obtain ⟨k', hk, _⟩ := v0s (ud s hx) e
 refine OkV.val s (v := .int k (k.wrap n)) ?_ (.dd (.i _ _))
 simp [execOp, ho, hk, convert, run_underlying hs, run_underlying hd, Conv.intToInt]
theorem snd_cid {src dst : TypeId} {x : Operand} {ox : Od} {b : ByteArray} (ho : o.op = .convert src dst x) (hs : P.underlying src = some .string) (hd : P.underlying dst = some .string) (hx : lowOd P src x = some ox)
 (s : SimW G X σ a.tmps w O Im) (e : asStr (σ.ev G ox) = some b) : OkV ((execOp a.eval o).run P w) fun v w' => Post G X a.tmps σ O σ (.one (.d (.s b))) v w' := by
 have hk := w1z (ud s hx) e
 refine OkV.val s (v := .string b) ?_ (.dd (.s _))
 simp [execOp, ho, hk, convert, run_underlying hs, run_underlying hd]

theorem unV_rel {h Im O} {op : UnOp} {sv sv' : SV} {v : Value} (r : RelV h Im O sv v) (e : unV op sv = some sv') : ∃ v', (∀ w, (Op.unary op v).run P w = .ok v' w) ∧ RelV h Im O sv' v' := by
 unfold unV at e
 split at e
 ·have := r.one_inv.d_inv
  cases this
  split at e
  ·cases e; exact ⟨_, fun w => rfl, .dd (.b _)⟩
  ·cases e
 ·have := r.one_inv.d_inv
  cases this
  split at e
  ·cases e; exact ⟨_, fun w => rfl, .dd (.i _ _)⟩
  ·cases e
 ·cases e
theorem snd_un {op : UnOp} {ty : TypeId} {x : Operand} {ox : Od} {sv' : SV} (ho : o.op = .unOp op ty x) (hx : lowOd P ty x = some ox) (s : SimW G X σ a.tmps w O Im) (e : unV op (σ.ev G ox) = some sv') :
 OkV ((execOp a.eval o).run P w) fun v w' => Post G X a.tmps σ O σ sv' v w' := by
 obtain ⟨v', h1, h2⟩ := unV_rel (P := P) (ud s hx) e
 exact OkV.val s (by simp [execOp, ho, h1]) h2

theorem w5m {h Im} {op : BinOp} {t : TypeId} {k : IntKind} {x y : Int} {d : D} (hs : isSh op = false) (e : binI op k x y = some d) :
 ∃ v, (∀ w, (binOp op t (.int k x) (.int k y)).run P w = .ok v w) ∧ RelD h Im d v [] := by
 cases op <;> simp only [binI, isSh, Option.some.injEq, reduceCtorEq, Bool.true_eq_false] at e hs
 case quo =>
  split at e
  ·cases e
  ·simp only [Option.some.injEq] at e; subst e; refine ⟨_, fun w => ?_, .i _ _⟩; simp [binOp, Op.intDiv, *]
 case rem =>
  split at e
  ·cases e
  ·simp only [Option.some.injEq] at e; subst e; refine ⟨_, fun w => ?_, .i _ _⟩; simp [binOp, Op.intDiv, *]
 all_goals
  subst e
  first
   | exact ⟨_, fun w => rfl, .i _ _⟩
   | exact ⟨_, fun w => rfl, .b _⟩
   | (refine ⟨_, fun w => ?_, .i _ _⟩; simp [binOp, Op.intArith, Op.intBits, bitOp]; done)
   | (refine ⟨_, fun w => ?_, .b _⟩; simp [binOp, Op.intCmp]; done)
theorem shI_rel {h Im} {op : BinOp} {t : TypeId} {k k' : IntKind} {x y : Int} {d : D} (hs : isSh op = true) (e : shI op k x y = some d) :
 ∃ v, (∀ w, (binOp op t (.int k x) (.int k' y)).run P w = .ok v w) ∧ RelD h Im d v [] := by
 unfold shI at e
 split at e
 ·cases e
 ·cases op <;> simp only [isSh, Bool.false_eq_true, Option.some.injEq] at e hs
  all_goals
   subst e
   refine ⟨_, fun w => ?_, .i _ _⟩
   simp [binOp, Op.shift, *]
theorem x5m {h Im} {op : BinOp} {t : TypeId} {x y : ByteArray} {d : D} (e : binS op x y = some d) :
 ∃ v, (∀ w, (binOp op t (.string x) (.string y)).run P w = .ok v w) ∧ RelD h Im d v [] := by
 cases op <;> simp only [binS, Option.some.injEq, reduceCtorEq] at e
 case add =>
  split at e
  ·rename_i hle
   simp only [Option.some.injEq] at e; subst e
   refine ⟨_, fun w => ?_, .s _⟩
   have : ¬ ((x.size + y.size : Nat) : Int) > IntKind.i64.max := by
    have : (IntKind.i64.max : Int) = 9223372036854775807 := by decide
    rw [this]; simp only [maxLen] at hle; omega
   simp only [binOp, Op.stringOp, this, if_false]
   rfl
  ·cases e
 all_goals
  subst e
  exact ⟨_, fun w => rfl, .b _⟩
theorem snd_bin {q : EqK} {op : BinOp} {t u : TypeId} {x y : Operand} {ox oy : Od} {sv' : SV} (ho : o.op = .binOp op t x y u) (hx : lowOd P t x = some ox) (hy : lowOd P u y = some oy)
 (ht : match q with | .b => P.underlying t = some .bool | _ => True) (s : SimW G X σ a.tmps w O Im) (e : binV q op (σ.ev G ox) (σ.ev G oy) = some sv') :
 OkV ((execOp a.eval o).run P w) fun v w' => Post G X a.tmps σ O σ sv' v w' := by
 have rx := ud s hx
 have ry := ud s hy
 generalize σ.ev G ox = sx at *
 generalize σ.ev G oy = sy at *
 generalize hvx : a.eval x = vx at *
 generalize hvy : a.eval y = vy at *
 cases q with
 | i =>
  unfold binV at e
  simp only at e
  split at e
  ·rename_i k n k' n'
   have r1 := rx.one_inv.d_inv
   have r2 := ry.one_inv.d_inv
   cases r1; cases r2
   cases hsh : isSh op with
   | true =>
    rw [hsh] at e
    simp only [Option.map_eq_some_iff] at e
    obtain ⟨d, hd, rfl⟩ := e
    obtain ⟨v, h1, h2⟩ := shI_rel (P := P) (h := w.heap) (Im := Im) (t := t) (k' := k') hsh hd
    exact OkV.val s (by cases op <;> simp [isSh] at hsh <;> simp [execOp, ho, hvx, hvy, eqGuard, h1]) (.dd h2)
   | false =>
    rw [hsh] at e
    simp only at e
    split at e
    ·rename_i hkk
     subst hkk
     simp only [Option.map_eq_some_iff] at e
     obtain ⟨d, hd, rfl⟩ := e
     obtain ⟨v, h1, h2⟩ := w5m (P := P) (h := w.heap) (Im := Im) (t := t) hsh hd
     exact OkV.val s (by cases op <;> simp [isSh] at hsh <;> simp [execOp, ho, hvx, hvy, eqGuard, h1]) (.dd h2)
    ·cases e
  ·cases e
 | s =>
  unfold binV at e
  simp only at e
  split at e
  ·have r1 := rx.one_inv.d_inv
   have r2 := ry.one_inv.d_inv
   cases r1; cases r2
   simp only [Option.map_eq_some_iff] at e
   obtain ⟨d, hd, rfl⟩ := e
   obtain ⟨v, h1, h2⟩ := x5m (P := P) (h := w.heap) (Im := Im) (t := t) hd
   exact OkV.val s (by cases op <;> simp [binS] at hd <;> simp [execOp, ho, hvx, hvy, eqGuard, h1]) (.dd h2)
  ·cases e
 | b =>
  unfold binV at e
  simp only at e
  split at e
  ·rename_i b b'
   have r1 := rx.one_inv.d_inv
   have r2 := ry.one_inv.d_inv
   cases r1; cases r2
   have hb : ∀ w, (Op.equal t (.bool b) (.bool b')).run P w = .ok (b == b') w := fun w => run_equalIn_bool w 9999 t b b' ht
   split at e
   ·cases e
    exact OkV.val s (by simp [execOp, ho, hvx, hvy, eqGuard, binOp, hb]) (.dd (.b _))
   ·cases e
    exact OkV.val s (v := .bool (!(b == b'))) (by simp [execOp, ho, hvx, hvy, eqGuard, binOp, hb]) (.dd (.b _))
   ·cases e
  ·cases e

/-! ### lengths, functions, parts of several results -/
theorem z5c {ty : TypeId} {x : Operand} {ox : Od} {b : ByteArray} (ho : o.op = .call { callee := .builtin .len, args := #[x], argTypes := #[ty] }) (hu : P.underlying ty = some .string) (hx : lowOd P ty x = some ox)
 (s : SimW G X σ a.tmps w O Im) (e : asStr (σ.ev G ox) = some b) : OkV ((execOp a.eval o).run P w) fun v w' => Post G X a.tmps σ O σ (.one (.d (.i .i64 b.size))) v w' := by
 have hk := w1z (ud s hx) e
 refine OkV.val s (v := .int .i64 b.size) ?_ (.dd (.i _ _))
 simp [execOp, ho, resolve, invoke, builtin, Builtin.len_, hk, run_underlying hu, goInt]
theorem w2y {t : TypeId} {ms} (d : Nat) (hu : P.underlying t = some (.interface ms)) (y : Value) {b : Bool} (e : nilB y = some b) (w : World) : (Op.equalIn (d + 1) t y .nilIface).run P w = .ok b w := by
 cases y <;> simp only [nilB, Option.some.injEq, reduceCtorEq] at e <;> subst e <;> simp [Op.equalIn, run_underlying hu]
theorem u3x {ty u : TypeId} {x : Operand} {ox : Od} {b neg : Bool} {ms} (ho : o.op = .binOp (if neg = true then .neq else .eql) ty x (.const .nilIface) u) (hu : P.underlying ty = some (.interface ms)) (hx : lowOd P ty x = some ox)
 (s : SimW G X σ a.tmps w O Im) (e : nilV (σ.ev G ox) = some b) : OkV ((execOp a.eval o).run P w) fun v w' => Post G X a.tmps σ O σ (.one (.d (.b (if neg = true then !b else b)))) v w' := by
 have hr := ud s hx
 generalize σ.ev G ox = sv at e hr
 match sv, e with
 | .one (.d (.v y)), e =>
  have hd := hr.one_inv.d_inv
  cases hd with
  | v _ h1 =>
   refine OkV.val s (v := .bool (if neg = true then !b else b)) ?_ (.dd (.b _))
   have hc : a.eval (.const .nilIface) = .nilIface := rfl
   have he : (Op.equal ty (a.eval x) .nilIface).run P w = .ok b w := w2y 9999 hu _ e w
   have hg : ∀ (op : BinOp), (eqGuard op ty x (.const .nilIface) (a.eval x) .nilIface).run P w = .ok () w := by
    intro op
    generalize a.eval x = y at e
    cases y <;> simp only [nilV, nilB, Option.some.injEq, reduceCtorEq] at e <;> cases op <;> simp [eqGuard]
   cases neg
   ·simp [execOp, ho, hc, hg, binOp, he]
   ·simp [execOp, ho, hc, hg, binOp, he]
theorem z4a (s : SimW G X σ a.tmps w O Im) {sv : SV} {v : Value} {n : Nat} (r : RelV w.heap Im O sv v) (e : σ.lenV sv = some n) : ∃ ad c, v = .slice ad n c := by
 unfold St.lenV at e
 split at e
 ·cases e
  have := r.one_inv.d_inv
  cases this <;> exact ⟨_, _, rfl⟩
 ·cases e
  have := r.one_inv
  cases this; exact ⟨_, _, rfl⟩
 ·split at e
  ·rename_i id off len hal
   cases e
   obtain ⟨ob, hob⟩ := Option.isSome_iff_exists.1 hal
   obtain ⟨l, hl, _⟩ := s.obj id ob hob
   have := r.one_inv
   cases this with
   | rd _ _ _ _ h1 _ => rw [h1] at hl; cases hl
   | r => exact ⟨_, _, rfl⟩
   | rn => exact ⟨_, _, rfl⟩
  ·cases e
 ·cases e
theorem snd_len {ty el : TypeId} {x : Operand} {ox : Od} {n : Nat} (ho : o.op = .call { callee := .builtin .len, args := #[x], argTypes := #[ty] }) (hu : P.underlying ty = some (.slice el)) (hx : lowOd P ty x = some ox)
 (s : SimW G X σ a.tmps w O Im) (e : σ.lenV (σ.ev G ox).ur = some n) : OkV ((execOp a.eval o).run P w) fun v w' => Post G X a.tmps σ O σ (.one (.d (.i .i64 n))) v w' := by
 obtain ⟨ad, c, hk⟩ := z4a s (ud s hx).ur e
 refine OkV.val s (v := .int .i64 n) ?_ (.dd (.i _ _))
 simp [execOp, ho, resolve, invoke, builtin, Builtin.len_, hk, run_underlying hu, goInt]
theorem x4p {h Im O} : ∀ {vs : List SV} {tv : List Value} {i : Nat} {sv : SV}, RelVs h Im O vs tv → vs[i]? = some sv → ∃ v, tv[i]? = some v ∧ RelV h Im O sv v
 | _, _, i, _, .nil, e => by simp at e
 | _, _, 0, _, .cons x v xs vs r rs, e => by simp at e; subst e; exact ⟨v, by simp, r⟩
 | _, _, i + 1, _, .cons x v xs vs r rs, e => by simp at e ⊢; exact x4p rs e
theorem snd_ext {ty : TypeId} {x : Operand} {ox : Od} {i : Nat} {sv' : SV} (ho : o.op = .extract x i) (hx : lowOd P ty x = some ox) (s : SimW G X σ a.tmps w O Im) (e : svExt i (σ.ev G ox) = some sv') :
 OkV ((execOp a.eval o).run P w) fun v w' => Post G X a.tmps σ O σ sv' v w' := by
 have rx := ud s hx
 generalize hvx : a.eval x = vx at rx
 unfold svExt at e
 split at e
 ·rename_i vs heq
  rw [heq] at rx
  cases rx with
  | tup _ tv r =>
   obtain ⟨v, h1, h2⟩ := x4p r e
   refine OkV.val s (v := v) ?_ h2
   have : tv[i]? = some v := by simpa using h1
   simp [execOp, ho, hvx, Instr.extract, this]
 ·cases e
theorem w3y (s : SimW G X σ a.tmps w O Im) : ∀ {xs : List Operand} {ods : List Od} {ts : List TypeId} {ps : List Ptr}, v0e P xs ts = some ods → psOf G σ ods = some ps →
 ps.length = xs.length ∧ ∀ (j : Nat) (p : Ptr), ps[j]? = some p → ∃ v, (xs.map a.eval)[j]? = some v ∧ RelP w.heap Im O p v
 | [], ods, ts, ps, h, e => by
  simp only [v0e, Option.some.injEq] at h; subst h
  simp only [psOf, Option.some.injEq] at e; subst e
  exact ⟨rfl, fun j p hp => by simp at hp⟩
 | x :: xs, ods, ts, ps, h, e => by
  simp only [v0e, Option.bind_eq_some_iff, Option.map_eq_some_iff] at h
  obtain ⟨od, h1, ods', h2, rfl⟩ := h
  simp only [psOf, Option.bind_eq_some_iff, Option.map_eq_some_iff] at e
  obtain ⟨p, h3, ps', h4, rfl⟩ := e
  obtain ⟨h5, h6⟩ := w3y s h2 h4
  refine ⟨by simp [h5], ?_⟩
  intro j q hq
  cases j with
  | zero => simp at hq; subst hq; exact ⟨a.eval x, by simp, y0l (ud s h1) h3⟩
  | succ j => simp at hq ⊢; simpa using h6 j q hq
theorem snd_mkf {f : Nat} {caps : Array Operand} {first : Array Operand} {ods : List Od} {ts : List TypeId} {ps : List Ptr} (ho : o.op = .makeFunc (.func f) first caps) (hf : first = #[]) (hx : v0e P caps.toList ts = some ods) (s : SimW G X σ a.tmps w O Im)
 (e : psOf G σ ods = some ps) : OkV ((execOp a.eval o).run P w) fun v w' => Post G X a.tmps σ O σ (.one (.c f ps)) v w' := by
 obtain ⟨h1, h2⟩ := w3y s hx e
 subst hf
 refine OkV.val s (v := .func (.func f) #[] (caps.map a.eval)) (by simp [execOp, ho, Instr.makeFunc]) (.one _ _ (.c _ _ _ (by simpa using h1.symm) ?_))
 intro j p hp
 obtain ⟨v, hv, hr⟩ := h2 j p hp
 exact ⟨v, by simpa using hv, hr⟩
end
section
variable {P : Program} {G : Nat → Option (List D)} {X : Ctx} {σ σ' : St} {sv : SV} {a : Act} {w : World} {O : Nat → LS} {Im : Nat → Prop} {o : Oper}

theorem RelCs.one {h : Array Obj} {Im : Nat → Prop} {ds : List D} {vs : List Value} (r : RelCs h Im ds vs []) (hl : vs.length = ds.length) : ∀ v ∈ vs, v.oneCell' = true := by
 intro v hv
 obtain ⟨j, hj, rfl⟩ := List.mem_iff_getElem.1 hv
 obtain ⟨v', h1, h2⟩ := r.at_ j (ds[j]'(by omega)) (by simp)
 rw [List.getElem?_eq_getElem hj] at h1
 cases h1
 exact h2.one.2

theorem v1s (s : SimW G X σ a.tmps w O Im) {sz : Nat} {sv : SV} {v : Value} {news : List (List D)} (r : RelV w.heap Im O sv v) (e : σ.rowsOf sz sv = some news) :
 (∀ r ∈ news, r.length = sz) ∧ ∃ ad c nv, v = .slice ad news.length c ∧ RelCs w.heap Im news.flatten nv [] ∧ nv.length = news.length * sz ∧
   (news = [] ∨ ∃ b, ad = some b ∧ ∀ j u, nv[j]? = some u → w.cell? (b.add j) = some u) := by
 unfold St.rowsOf at e
 split at e
 ·cases e
  have := r.one_inv
  cases this with | nl _ a0 =>
  exact ⟨fun r hr => by simp at hr, a0, 0, [], rfl, .nil _, by simp, .inl rfl⟩
 ·split at e
  ·rename_i s' rows hs
   cases e
   subst hs
   have := r.one_inv.d_inv
   cases this with
   | l0 _ ad cap => exact ⟨fun r hr => by simp at hr, ad, cap, [], rfl, .nil _, by simp, .inl rfl⟩
   | l _ _ b off cap c e fr g1 g2 g3 g4 g5 =>
    refine ⟨g3, _, _, (c.toList.drop off).take (news.length * s'), rfl, ?_, ?_, .inr ⟨_, rfl, ?_⟩⟩
    ·exact g5.take2 _ (by rw [wa g3]; exact Nat.le_refl _)
    ·have := g5.len
     rw [wa g3] at this
     rw [List.length_take]; omega
    ·intro j u hu
     rw [Addr.add_lit]
     exact ws g2 j u hu
  ·cases e
 ·rename_i id off len
  split at e
  ·rename_i s' rows fz hob
   split at e
   ·rename_i hc
    obtain ⟨rfl, hle⟩ := hc
    cases e
    have hlen : ((rows.drop off).take len).length = len := by simp; omega
    rcases u2f s r.one_inv hob hle with ⟨rfl, ad, c, rfl⟩ | ⟨b, cap, c, ty, fr, cp, rfl, h1, h2, h3, h4, h5, h6, h7, h8, h9, h10, h11, h12⟩
    ·exact ⟨fun r hr => by simp at hr, ad, c, [], by simp, by simpa using RelCs.nil (h := w.heap) (Im := Im) [], by simp, .inl (by simp)⟩
    ·have hu : ∀ r ∈ (rows.drop off).take len, r.length = s' := fun r hr => h9 r (List.mem_of_mem_drop (List.mem_of_mem_take hr))
     refine ⟨hu, _, _, (c.toList.drop (off * s')).take (len * s'), by rw [hlen], ?_, ?_, .inr ⟨_, rfl, ?_⟩⟩
     ·exact h12.take2 _ (by rw [wa hu, hlen]; exact Nat.le_refl _)
     ·have := h12.len
      rw [wa hu, hlen] at this
      rw [List.length_take, hlen]; omega
     ·intro j u hu
      rw [Addr.add_lit]
      exact ws h2 j u hu
   ·cases e
  ·cases e
 ·cases e

theorem wx {h : Array Obj} {Im : Nat → Prop} {ds es : List D} {vs us rest : List Value} (r1 : RelCs h Im ds vs []) (hl : vs.length = ds.length) (r2 : RelCs h Im es us []) : RelCs h Im (ds ++ es) (vs ++ (us ++ rest)) [] :=
 RelCs.of_at _ _ fun j d hd => by
  by_cases hj : j < ds.length
  ·rw [List.getElem?_append_left hj] at hd
   rw [List.getElem?_append_left (by omega)]
   exact r1.at_ j d hd
  ·rw [List.getElem?_append_right (by omega)] at hd
   rw [List.getElem?_append_right (by omega), hl]
   obtain ⟨v, hv, hr⟩ := r2.at_ _ d hd
   have := (List.getElem?_eq_some_iff.1 hv).1
   exact ⟨v, by rw [List.getElem?_append_left this]; exact hv, hr⟩

theorem Post.fresh_arr (s : SimW G X σ a.tmps w O Im) {n : Nat} (hn : O n = .free) {sz cap len : Nat} {rows : List (List D)} {c : Array Value} {e : TypeId} (hu : ∀ r ∈ rows, r.length = sz) (hl : rows.length ≤ cap) (hm : cap ≤ maxLen) (hs : c.size = cap * sz)
 (hr : RelCs w.heap Im rows.flatten c.toList []) {w1 : World} (hw1 : w1.heap = w.heap) (h1 : SimW G X σ a.tmps w1 O Im) {σ' : St} (hσ1 : σ'.slots = σ.slots) (hσ2 : σ'.objs = upd σ.objs n (some (.arr sz rows false))) :
 SimW G X σ' a.tmps (w1.alloc (.cells c e)) (upd O n (.live ⟨some w.heap.size, cap, sz, []⟩)) Im ∧
  (len = rows.length → RelV (w1.alloc (.cells c e)).heap Im (upd O n (.live ⟨some w.heap.size, cap, sz, []⟩)) (.one (.r n 0 len)) (.slice (some ⟨w.heap.size, 0, none⟩) len cap)) := by
 have hsz : w1.heap.size = w.heap.size := by rw [hw1]
 have hh : (w1.alloc (.cells c e)).heap[w.heap.size]? = some (.cells c e (0, 0)) := by rw [← hsz]; exact heap_alloc_new w1 _
 refine ⟨(h1.alloc _).adopt (l := ⟨some w.heap.size, cap, sz, []⟩) hn (vo := .arr sz rows false) ?_ ?_ hσ1 hσ2, ?_⟩
 ·have hk : RelCs (w1.alloc (.cells c e)).heap Im rows.flatten c.toList [] := hr.keep (fun _ h => h) (fun b hb => by
   have := s.imlt b (hb.resolve_left (by simp))
   rw [Go.RowKit.Below.heap_alloc w1 _ b (by omega), hw1])
  exact .arr sz rows false _ cap c e (0, 0) hh (fun _ => rfl) hu hl hm hs hk ⟨fun h => (by cases h), fun h => absurd (s.imlt _ h) (Nat.lt_irrefl _)⟩
 ·intro b hb
  simp only [Own, Option.some.injEq, List.not_mem_nil, or_false] at hb
  subst hb
  refine ⟨fun h => Nat.lt_irrefl _ (s.imlt _ h), by simp [hsz], .inr s.ext.size, ?_⟩
  intro u ob l' hob hl' h2
  exact Nat.lt_irrefl _ (s.ownblk hob hl' h2).2.1
 ·rintro rfl
  exact .one _ _ (.r _ _ _ w.heap.size cap sz _ _ (xf _ _ _) hl (by omega) (.inl (by simp)))

theorem snd_mks {ty el : TypeId} {i : TypeInfo} {z : Value} {zc : List SC} {szs : List Nat} {x y : Operand} {ox oy : Od} {tx ty' : TypeId} {l : Int} {ds : List D} (ho : o.op = .makeSlice ty x y) (hu : P.underlying ty = some (.slice el)) (hi : P.info? el = some i) (hz : i.zero = some z)
 (hc : u0b szs z.cells.toList = some zc) (hx : lowOd P tx x = some ox) (hy : lowOd P ty' y = some oy) (s : SimW G X σ a.tmps w O Im) (hf : O σ.next = .free) (e1 : asInt (σ.ev G ox) = some l) (e2 : asInt (σ.ev G oy) = some l) (e3 : σ.toDs zc = some ds)
 (h0 : 0 ≤ l) (h1 : l * i.bytes ≤ 2 ^ 47) (h2 : l ≤ maxLen) (h3 : ds.length = i.size) :
 OkV ((execOp a.eval o).run P w) fun v w' => Post G X a.tmps σ O (σ.new (.arr i.size (List.replicate l.toNat ds) false)) (.one (.r σ.next 0 l.toNat)) v w' := by
 obtain ⟨k, hk, _⟩ := v0s (ud s hx) e1
 obtain ⟨k', hk', _⟩ := v0s (ud s hy) e2
 have hm : (l : Int) ≤ 9223372036854775807 := by simp only [maxLen] at h2; omega
 have hrun := run_make (P := P) w ty el i z hu hi hz k k' l l h0 (Int.le_refl _) (by rw [Int.mul_comm]; omega) hm
 obtain ⟨hds, hdl⟩ := z0u s (zw hc) e3
 have hzs : z.cells.size = i.size := by
  have := (zw (h := w.heap) (Im := Im) (O := O) hc).len
  simp at this; omega
 have hrows : ∀ r ∈ List.replicate l.toNat ds, r.length = i.size := fun r hr => by rw [List.eq_of_mem_replicate hr]; exact h3
 obtain ⟨g1, g2⟩ := Post.fresh_arr (len := l.toNat) (e := el) s hf hrows (by simp : (List.replicate l.toNat ds).length ≤ l.toNat) (by simp only [maxLen] at h2 ⊢; omega) (size_madeCells z.cells (l.toNat * i.size))
  (RelCs.of_at _ _ (by
    intro j d hd
    have hj := (List.getElem?_eq_some_iff.1 hd).1
    rw [wa hrows, List.length_replicate] at hj
    have hp : 0 < i.size := by
     rcases Nat.eq_zero_or_pos i.size with h | h
     ·rw [h] at hj; simp at hj
     ·exact h
    have hdm : j = (j / i.size) * i.size + j % i.size := by rw [Nat.mul_comm]; exact (Nat.div_add_mod j i.size).symm
    have hml := Nat.mod_lt j hp
    have hdl2 : j / i.size < l.toNat := (Nat.div_lt_iff_lt_mul hp).2 hj
    rw [hdm, flatten_getElem? hrows _ _ hml, List.getElem?_replicate, if_pos hdl2] at hd
    obtain ⟨v, hv, hr⟩ := hds.at_ _ _ (by simpa using hd)
    refine ⟨v, ?_, hr⟩
    have hv' : z.cells[j % i.size]? = some v := by simpa using hv
    have : j % i.size < z.cells.size := by omega
    simp only [madeCells, Array.getElem?_toList, Array.getElem?_map, Array.getElem?_range, hj, if_true, Option.map_some, hzs]
    rw [getElem!_pos z.cells _ this]
    rw [Array.getElem?_eq_getElem this] at hv'
    exact hv')) rfl s (σ' := σ.new (.arr i.size (List.replicate l.toNat ds) false)) rfl (by funext u; simp [St.new, upd])
 refine .inl ⟨.slice (some ⟨w.heap.size, 0, none⟩) l.toNat l.toNat, w.alloc (.cells (madeCells z.cells (l.toNat * i.size)) el), ?_, _, Im, g1, g2 (by simp), .inr ⟨rfl, fun u hu h => by rw [yf _ _ _ _ hu]; exact h⟩⟩
 simp [execOp, ho, hk, hk', hrun]

theorem w0j {t ty e : TypeId} {i : TypeInfo} (ht : P.underlying t = some (.slice e)) (hi : P.info? e = some i) {ad : Option Addr} {m c : Nat} {nv : List Value} (hf : (Builtin.firstCells i.size m (.slice ad m c)).run P w = .ok nv.toArray w)
 {base : Option Addr} {sLen sCap : Nat} (hle : sLen + m ≤ sCap) {w' : World} (hst : ∀ b, base = some b → (storeCells (b.add (sLen * i.size)) nv).run P w = .ok () w') (hn : base = none → w' = w) :
 (Builtin.append_ #[t, t] ty #[.slice base sLen sCap, .slice ad m c]).run P w = .ok (.slice base (sLen + m) sCap) w' := by
 cases base with
 | none => have := hn rfl; subst this; simp [Builtin.append_, run_underlying ht, sizeOf, typeInfo, hi, Builtin.lenOf, hle, hf]
 | some b => simp [Builtin.append_, run_underlying ht, sizeOf, typeInfo, hi, Builtin.lenOf, hle, hf, hst b rfl]
theorem y0o {sz m c : Nat} {ad : Option Addr} {nv : List Value} (hl : nv.length = m * sz) (h : m = 0 ∨ ∃ b, ad = some b ∧ ∀ (j : Nat) (u : Value), nv[j]? = some u → w.cell? (b.add j) = some u) :
 (Builtin.firstCells sz m (.slice ad m c)).run P w = .ok nv.toArray w := by
 cases ad with
 | none =>
  have h0 : m = 0 := by rcases h with h | ⟨b, hb, _⟩; exact h; cases hb
  subst h0
  obtain rfl : nv = [] := List.eq_nil_of_length_eq_zero (by simpa using hl)
  simp [Builtin.firstCells]
 | some b =>
  have : ∀ (j : Nat) (u : Value), nv[j]? = some u → w.cell? (b.add j) = some u := by
   rcases h with rfl | ⟨b', hb, h⟩
   ·obtain rfl : nv = [] := List.eq_nil_of_length_eq_zero (by simpa using hl)
    intro j u hu; simp at hu
   ·cases hb; exact h
  exact run_firstCells_some (P := P) w sz m b m c nv hl this

theorem y3k (s : SimW G X σ a.tmps w O Im) {n : Nat} (hn : O n = .free) {σ' : St} (hσ1 : σ'.slots = σ.slots) {e : TypeId} {i : TypeInfo} {z : Value} (hzs : z.cells.size = i.size)
 {rows news : List (List D)} (hur : ∀ r ∈ rows, r.length = i.size) (hun : ∀ r ∈ news, r.length = i.size) {m : Nat} {nv : List Value} (hm : news.length = m) (hrn : RelCs w.heap Im news.flatten nv []) (hnl : nv.length = m * i.size)
 {F : Value → Sem Value} (Hin : ∀ {base : Option Addr} {sLen sCap : Nat} {w' : World}, sLen + m ≤ sCap → (∀ b, base = some b → (storeCells (b.add (sLen * i.size)) nv).run P w = .ok () w') → (base = none → w' = w) → (F (.slice base sLen sCap)).run P w = .ok (.slice base (sLen + m) sCap) w')
 (Hgr : ∀ {base : Option Addr} {sLen sCap : Nat} {olds : List Value}, m ≠ 0 → olds.length = sLen * i.size → ((base = none ∧ sLen = 0 ∧ sCap = 0) ∨ ∃ b, base = some b ∧ ∀ (j : Nat) (v : Value), olds[j]? = some v → w.cell? (b.add j) = some v) → sCap < sLen + m → ((sLen + m : Nat) : Int) ≤ 9223372036854775807 → (sLen + m) * i.bytes ≤ 2 ^ 47 →
   (F (.slice base sLen sCap)).run P w = .ok (.slice (some ⟨w.heap.size, 0, none⟩) (sLen + m) (grownCap w (sLen + m) sCap e)) (w.drew.alloc (.cells (olds.toArray ++ nv.toArray ++ Builtin.zeroCells z.cells (grownCap w (sLen + m) sCap e - (sLen + m))) e))) (hb : (rows.length + m) * i.bytes ≤ 2 ^ 47) (hmx : rows.length + m ≤ maxLen)
 (hσ2 : σ'.objs = upd σ.objs n (some (.arr i.size (rows ++ news) false)))
 {base : Option Addr} {cp : Nat} (hx : (cp = 0 ∧ rows = []) ∨ ∃ b bk cap cur tyc, base = some b ∧ rows.length ≤ cp ∧ cp ≤ cap ∧ cap ≤ maxLen ∧ (b = ⟨bk, 0, none⟩ ∨ cp = 0) ∧ w.heap[bk]? = some (.cells cur tyc (0, 0)) ∧ cur.size = cap * i.size ∧ ¬ Im bk ∧ bk < w.heap.size ∧ (X.own bk ∨ X.w0.heap.size ≤ bk) ∧
  (∀ u o l', σ.objs u = some o → O u = .live l' → ¬ Own o l' bk) ∧ RelCs w.heap Im rows.flatten cur.toList []) :
 ∃ v w' l, (F (.slice base rows.length cp)).run P w = .ok v w' ∧ SimW G X σ' a.tmps w' (upd O n (.live l)) Im ∧ RelV w'.heap Im (upd O n (.live l)) (.one (.r n 0 (rows.length + m))) v := by
 have hua : ∀ r ∈ rows ++ news, r.length = i.size := fun r hr => (List.mem_append.1 hr).elim (hur r) (hun r)
 have hnf : nv.length = news.flatten.length := by rw [hnl, wa hun, hm]
 have h1 : ∀ u ∈ nv, u.oneCell' = true := hrn.one hnf
 have hm63 : ((rows.length + m : Nat) : Int) ≤ 9223372036854775807 := by simp only [maxLen] at hmx; omega
 -- new memory
 have grown : ∀ (old : Nat) (olds : List Value), olds.length = rows.length * i.size → RelCs w.heap Im rows.flatten olds [] → old < rows.length + m →
  SimW G X σ' a.tmps (w.drew.alloc (.cells (olds.toArray ++ nv.toArray ++ Builtin.zeroCells z.cells (grownCap w (rows.length + m) old e - (rows.length + m))) e)) (upd O n (.live ⟨some w.heap.size, grownCap w (rows.length + m) old e, i.size, []⟩)) Im ∧
  RelV (w.drew.alloc (.cells (olds.toArray ++ nv.toArray ++ Builtin.zeroCells z.cells (grownCap w (rows.length + m) old e - (rows.length + m))) e)).heap Im (upd O n (.live ⟨some w.heap.size, grownCap w (rows.length + m) old e, i.size, []⟩)) (.one (.r n 0 (rows.length + m))) (.slice (some ⟨w.heap.size, 0, none⟩) (rows.length + m) (grownCap w (rows.length + m) old e)) := by
  intro old olds hol hro hlt
  have hge := grownCap_ge w (rows.length + m) old e
  have hle := grownCap_le_maxLen w (rows.length + m) old e hmx
  obtain ⟨g1, g2⟩ := Post.fresh_arr (len := rows.length + m) (e := e) s hn (rows := rows ++ news) (c := olds.toArray ++ nv.toArray ++ Builtin.zeroCells z.cells (grownCap w (rows.length + m) old e - (rows.length + m))) hua (by simpa [hm] using hge) hle
   (by simp only [Array.size_append, List.size_toArray, size_zeroCells, hzs, hol, hnl, ← Nat.add_mul]; congr 1; omega)
   (by
     have := wx (rest := (Builtin.zeroCells z.cells (grownCap w (rows.length + m) old e - (rows.length + m))).toList) hro (by rw [hol, wa hur]) hrn
     rw [← List.flatten_append] at this
     simpa [List.append_assoc] using this) (w1 := w.drew) rfl (s.drawn _) hσ1 hσ2
  exact ⟨g1, g2 (by simp [hm])⟩
 rcases hx with ⟨rfl, rfl⟩ | ⟨b, bk, cap, cur, tyc, rfl, hlc, hcc, hcm, hbb, hbk, hcs, hnim, hblt, hbo, hun', hrc⟩
 ·by_cases h0 : m = 0
  ·subst h0
   obtain rfl : news = [] := List.eq_nil_of_length_eq_zero hm
   obtain rfl : nv = [] := List.eq_nil_of_length_eq_zero (by simpa using hnl)
   refine ⟨_, w, ⟨none, 0, i.size, []⟩, Hin (w' := w) (by simp) (fun b hb => by simp [storeCells]) (fun _ => rfl), ?_, ?_⟩
   ·exact s.adopt hn (vo := .arr i.size [] false) (.an _ _ _) (fun b hb => by simp [Own] at hb) hσ1 (by simpa using hσ2)
   ·exact .one _ _ (.rn _ 0 i.size _ (xf _ _ _))
  ·obtain ⟨g1, g2⟩ := grown 0 [] (by simp) (.nil _) (by simp; omega)
   have hr := Hgr (base := base) (sLen := 0) (sCap := 0) (olds := []) h0 (by simp) (by
    cases base with
    | none => exact .inl ⟨rfl, rfl, rfl⟩
    | some b0 => exact .inr ⟨b0, rfl, fun j v hv => by simp at hv⟩) (by omega) (by simpa using hm63) (by simpa using hb)
   exact ⟨_, _, _, hr, g1, g2⟩
 ·by_cases hroom : rows.length + m ≤ cp
  ·by_cases hcp : cp = 0
   ·subst hcp
    obtain rfl : rows = [] := List.eq_nil_of_length_eq_zero (by omega)
    obtain rfl : m = 0 := by simp at hroom; omega
    obtain rfl : news = [] := List.eq_nil_of_length_eq_zero hm
    obtain rfl : nv = [] := List.eq_nil_of_length_eq_zero (by simpa using hnl)
    refine ⟨_, w, ⟨some bk, cap, i.size, []⟩, Hin (by simp) (fun b hb => by simp [storeCells]) (fun _ => rfl), ?_, ?_⟩
    ·refine s.adopt (l := ⟨some bk, cap, i.size, []⟩) hn (vo := .arr i.size [] false) ?_ ?_ hσ1 (by simpa using hσ2)
     ·exact .arr i.size [] false bk cap cur tyc (0, 0) hbk (fun _ => rfl) (by simp) (by simp) hcm hcs (.nil _) ⟨fun h => (by cases h), fun h => absurd h hnim⟩
     ·intro b' hb'; simp only [Own, Option.some.injEq, List.not_mem_nil, or_false] at hb'; subst hb'; exact ⟨hnim, hblt, hbo, hun'⟩
    ·exact .one _ _ (.r _ _ _ bk cap i.size _ _ (xf _ _ _) (by simp) (by simp) (.inr rfl))
   ·obtain rfl := hbb.resolve_right hcp
    have hfit : rows.length * i.size + nv.length ≤ cur.size := by
     rw [hnl, hcs, ← Nat.add_mul]; exact Nat.mul_le_mul_right _ (by omega)
    have hst := run_storeCells_at P bk (rows.length * i.size) tyc nv 0 cur w hbk (by simpa using hfit) h1
    simp only [Nat.add_zero] at hst
    generalize hc' : (cur.toList.take (rows.length * i.size) ++ nv ++ cur.toList.drop (rows.length * i.size + nv.length)) = c' at hst
    have hcl : c'.length = cur.size := by rw [← hc']; simp only [List.length_append, List.length_take, List.length_drop, Array.length_toList]; omega
    have hkk : ∀ k, k ≠ bk → (w.setRow bk c'.toArray).heap[k]? = w.heap[k]? := fun k hk => setRow_other w bk k _ hk
    have s2 : SimW G X σ a.tmps (w.setRow bk c'.toArray) O Im := by
     refine s.world (s.ext.trans' rfl rfl rfl (by simp) (fun k hk1 hk2 => hkk k (fun e2 => by subst e2; rcases hbo with h | h; exact hk2 h; omega))) (by simp) ?_
     intro k _ hk
     refine hkk k (fun e2 => ?_)
     subst e2
     rcases hk with hk | ⟨u, o, l, h2, h3, h4⟩
     ·exact hnim hk
     ·exact hun' u o l h2 h3 h4
    have hrows : RelCs (w.setRow bk c'.toArray).heap Im (rows ++ news).flatten c' [] := by
     have hr1 : RelCs w.heap Im rows.flatten (cur.toList.take (rows.length * i.size)) [] := hrc.take2 _ (by rw [wa hur]; exact Nat.le_refl _)
     have hl1 : (cur.toList.take (rows.length * i.size)).length = rows.flatten.length := by
      have hcl2 : cur.toList.length = cap * i.size := by simpa using hcs
      rw [wa hur, List.length_take, hcl2]
      exact Nat.min_eq_left (Nat.mul_le_mul_right _ (by omega))
     have := wx (rest := cur.toList.drop (rows.length * i.size + nv.length)) hr1 hl1 hrn
     rw [← List.flatten_append, ← List.append_assoc, hc'] at this
     exact this.keep (fun _ h => h) (fun k hk => hkk k (fun e2 => hnim (e2 ▸ hk.resolve_left (by simp))))
    refine ⟨_, w.setRow bk c'.toArray, ⟨some bk, cap, i.size, []⟩, Hin hroom (fun b hb => by cases hb; rw [Addr.add_lit, Nat.zero_add]; exact hst) (fun h => by cases h), ?_, ?_⟩
    ·refine s2.adopt (l := ⟨some bk, cap, i.size, []⟩) hn (vo := .arr i.size (rows ++ news) false) ?_ ?_ hσ1 hσ2
     ·exact .arr i.size _ false bk cap c'.toArray tyc (0, 0) (setRow_heap w bk cur _ tyc (0, 0) hbk) (fun _ => rfl) hua (by simp [hm]; omega) hcm (by simp [hcl, hcs]) (by simpa using hrows) ⟨fun h => (by cases h), fun h => absurd h hnim⟩
     ·intro b' hb'; simp only [Own, Option.some.injEq, List.not_mem_nil, or_false] at hb'; subst hb'; exact ⟨hnim, by simpa using hblt, hbo, hun'⟩
    ·exact .one _ _ (.r _ _ _ bk cap i.size _ _ (xf _ _ _) hroom (by omega) (.inl (by simp)))
  ·have h0 : m ≠ 0 := by omega
   have holds : ∃ olds : List Value, olds.length = rows.length * i.size ∧ RelCs w.heap Im rows.flatten olds [] ∧ ∀ (j : Nat) (v : Value), olds[j]? = some v → w.cell? (b.add j) = some v := by
    by_cases hcp : cp = 0
    ·obtain rfl : rows = [] := List.eq_nil_of_length_eq_zero (by omega)
     exact ⟨[], by simp, .nil _, fun j v hv => by simp at hv⟩
    ·obtain rfl := hbb.resolve_right hcp
     refine ⟨cur.toList.take (rows.length * i.size), ?_, hrc.take2 _ (by rw [wa hur]; exact Nat.le_refl _), ?_⟩
     ·have hcl2 : cur.toList.length = cap * i.size := by simpa using hcs
      rw [List.length_take, hcl2]
      exact Nat.min_eq_left (Nat.mul_le_mul_right _ (by omega))
     ·intro j v hv
      rw [Addr.add_lit]
      exact ws (o := 0) (n := rows.length * i.size) hbk j v (by simpa using hv)
   obtain ⟨olds, hol, hro, hoc⟩ := holds
   have hr := Hgr (base := some b) (sLen := rows.length) (sCap := cp) (olds := olds) h0 hol (.inr ⟨b, rfl, hoc⟩) (by omega) hm63 (by omega)
   obtain ⟨g1, g2⟩ := grown cp olds hol hro (by omega)
   exact ⟨_, _, _, hr, g1, g2⟩

theorem z3e (s : SimW G X σ a.tmps w O Im) {n : Nat} (hn : O n = .free) {σ' : St} (hσ1 : σ'.slots = σ.slots) {t ty e : TypeId} {i : TypeInfo} {z : Value} (ht : P.underlying t = some (.slice e)) (hi : P.info? e = some i) (hz : i.zero = some z) (hzs : z.cells.size = i.size)
 {rows news : List (List D)} (hur : ∀ r ∈ rows, r.length = i.size) (hun : ∀ r ∈ news, r.length = i.size) {ad : Option Addr} {m c : Nat} {nv : List Value} (hm : news.length = m) (hrn : RelCs w.heap Im news.flatten nv []) (hnl : nv.length = m * i.size)
 (hy : news = [] ∨ ∃ b, ad = some b ∧ ∀ (j : Nat) (u : Value), nv[j]? = some u → w.cell? (b.add j) = some u) (hb : (rows.length + m) * i.bytes ≤ 2 ^ 47) (hmx : rows.length + m ≤ maxLen)
 (hσ2 : σ'.objs = upd σ.objs n (some (.arr i.size (rows ++ news) false)))
 {base : Option Addr} {cp : Nat} (hx : (cp = 0 ∧ rows = []) ∨ ∃ b bk cap cur tyc, base = some b ∧ rows.length ≤ cp ∧ cp ≤ cap ∧ cap ≤ maxLen ∧ (b = ⟨bk, 0, none⟩ ∨ cp = 0) ∧ w.heap[bk]? = some (.cells cur tyc (0, 0)) ∧ cur.size = cap * i.size ∧ ¬ Im bk ∧ bk < w.heap.size ∧ (X.own bk ∨ X.w0.heap.size ≤ bk) ∧
  (∀ u o l', σ.objs u = some o → O u = .live l' → ¬ Own o l' bk) ∧ RelCs w.heap Im rows.flatten cur.toList []) :
 ∃ v w' l, (Builtin.append_ #[t, t] ty #[.slice base rows.length cp, .slice ad m c]).run P w = .ok v w' ∧ SimW G X σ' a.tmps w' (upd O n (.live l)) Im ∧ RelV w'.heap Im (upd O n (.live l)) (.one (.r n 0 (rows.length + m))) v := by
 have hy' : m = 0 ∨ ∃ b, ad = some b ∧ ∀ (j : Nat) (u : Value), nv[j]? = some u → w.cell? (b.add j) = some u := hy.imp (fun h => by rw [← hm, h]; rfl) id
 have hfirst := y0o (P := P) (c := c) hnl hy'
 refine y3k (e := e) (F := fun v => Builtin.append_ #[t, t] ty #[v, .slice ad m c]) s hn hσ1 hzs hur hun hm hrn hnl (fun h1 h2 h3 => w0j (P := P) ht hi hfirst h1 h2 h3) ?_ hb hmx hσ2 hx
 intro base sLen sCap olds h0 hol hbs hg h63 hb2
 obtain ⟨b, rfl, hcell⟩ := hy'.resolve_left h0
 rcases hbs with ⟨rfl, rfl, rfl⟩ | ⟨b0, rfl, hoc⟩
 ·obtain rfl : olds = [] := List.eq_nil_of_length_eq_zero (by simpa using hol)
  have hr := run_append_nil (P := P) w t ty e i z ht hi hz b m c nv hnl hcell (by omega) (by simpa using h63) (by simp at hb2; omega)
  simpa using hr
 ·exact run_append_grow (P := P) w t ty e i z ht hi hz b0 sLen sCap olds hol hoc b m c nv hnl hcell (by omega) h63 (growslice_fits (by omega) (by omega))

theorem x2k (s : ByteArray) : (x0s s).length = s.size := by rw [x0s, List.length_map, Array.length_toList]; rfl
theorem y2k {h : Array Obj} {Im : Nat → Prop} : ∀ (l : List UInt8), RelCs h Im (l.map fun b => [D.i .u8 b.toNat]).flatten (l.map fun b => Value.int .u8 b.toNat) []
 | [] => .nil _
 | b :: l => .cons _ _ [] _ _ [] (.i _ _) (y2k l)
theorem z2j (s : SimW G X σ a.tmps w O Im) {n : Nat} (hn : O n = .free) {σ' : St} (hσ1 : σ'.slots = σ.slots) {t u ty e : TypeId} {i : TypeInfo} {z : Value} (ht : P.underlying t = some (.slice e)) (hu : P.underlying u = some .string) (hi : P.info? e = some i) (hz : i.zero = some z) (hzs : z.cells.size = i.size) (hi1 : i.size = 1)
 {rows : List (List D)} (hur : ∀ r ∈ rows, r.length = i.size) (x : ByteArray) (hb : (rows.length + x.size) * i.bytes ≤ 2 ^ 47) (hmx : rows.length + x.size ≤ maxLen)
 (hσ2 : σ'.objs = upd σ.objs n (some (.arr i.size (rows ++ x0s x) false)))
 {base : Option Addr} {cp : Nat} (hx : (cp = 0 ∧ rows = []) ∨ ∃ b bk cap cur tyc, base = some b ∧ rows.length ≤ cp ∧ cp ≤ cap ∧ cap ≤ maxLen ∧ (b = ⟨bk, 0, none⟩ ∨ cp = 0) ∧ w.heap[bk]? = some (.cells cur tyc (0, 0)) ∧ cur.size = cap * i.size ∧ ¬ Im bk ∧ bk < w.heap.size ∧ (X.own bk ∨ X.w0.heap.size ≤ bk) ∧
  (∀ u o l', σ.objs u = some o → O u = .live l' → ¬ Own o l' bk) ∧ RelCs w.heap Im rows.flatten cur.toList []) :
 ∃ v w' l, (Builtin.append_ #[t, u] ty #[.slice base rows.length cp, .string x]).run P w = .ok v w' ∧ SimW G X σ' a.tmps w' (upd O n (.live l)) Im ∧ RelV w'.heap Im (upd O n (.live l)) (.one (.r n 0 (rows.length + x.size))) v := by
 have hf : ∀ w, (Builtin.firstCells i.size x.size (.string x)).run P w = .ok (Lib.strCells x).toArray w := fun w => Lib.run_firstCells_string w i.size x
 refine y3k (e := e) (F := fun v => Builtin.append_ #[t, u] ty #[v, .string x]) (nv := Lib.strCells x) s hn hσ1 hzs hur (fun r hr => ?_) (x2k x) (y2k _) (by rw [Lib.strCells_length, hi1, Nat.mul_one]) ?_ ?_ hb hmx hσ2 hx
 ·obtain ⟨b, _, rfl⟩ := List.mem_map.1 hr; rw [hi1]; rfl
 ·intro base sLen sCap w' hle hst hn
  cases base with
  | none => have := hn rfl; subst this; simp [Builtin.append_, run_underlying ht, run_underlying hu, sizeOf, typeInfo, hi, Builtin.lenOf, hle, hf]
  | some b => simp [Builtin.append_, run_underlying ht, run_underlying hu, sizeOf, typeInfo, hi, Builtin.lenOf, hle, hf, hst b rfl]
 ·intro base sLen sCap olds h0 hol hbs hg h63 hb2
  rcases hbs with ⟨rfl, rfl, rfl⟩ | ⟨b0, rfl, hoc⟩
  ·obtain rfl : olds = [] := List.eq_nil_of_length_eq_zero (by simpa using hol)
   have hr := run_append_nil_string (P := P) w t u ty e i z ht hu hi hz x (by omega) (by simpa using h63) (by simp at hb2; omega)
   have e1 : (x.data.map (fun b => Value.int .u8 b.toNat)) = (Lib.strCells x).toArray := by apply Array.ext'; simp [Lib.strCells]
   rw [e1] at hr
   simpa using hr
  ·exact Lib.run_append_grow_string (P := P) w t u ty e i z ht hu hi hz b0 sLen sCap olds hol hoc x (by omega) h63 (growslice_fits (by omega) (by omega))

theorem snd_app {ty el : TypeId} {i : TypeInfo} {z : Value} {x y : Operand} {ox oy : Od} {news : List (List D)} {sv' : SV} (ho : o.op = .call { callee := .builtin .append, args := #[x, y], argTypes := #[ty, ty] }) (hu : P.underlying ty = some (.slice el)) (hi : P.info? el = some i) (hz : i.zero = some z)
 (hzs : z.cells.size = i.size) (hx : lowOd P ty x = some ox) (hy : lowOd P ty y = some oy) (s : SimW G X σ a.tmps w O Im) (hf : O σ.next = .free) (e1 : σ.rowsOf i.size (σ.ev G oy) = some news) (e2 : σ.app i.size i.bytes news (σ.ev G ox).ur = some (σ', sv')) :
 OkV ((execOp a.eval o).run P w) fun v w' => Post G X a.tmps σ O σ' sv' v w' := by
 obtain ⟨hun, ad, c, nv, hyv, hrn, hnl, hcell⟩ := v1s s (ud s hy) e1
 have rx := (ud s hx).ur
 generalize hvx : a.eval x = vx at rx
 generalize (σ.ev G ox).ur = sx at rx e2
 unfold St.app at e2
 split at e2
 ·split at e2
  ·rename_i hc
   cases e2
   have := rx.one_inv
   cases this with | nl _ a0 =>
   obtain ⟨v, w', l, h1, h2, h3⟩ := z3e (rows := []) (ty := o.type) (c := c) (ad := ad) (base := a0) (cp := 0) (σ' := σ.new (.arr i.size news false)) s hf rfl hu hi hz hzs (by simp) hun rfl hrn hnl hcell (by simpa using hc.1) (by simpa using hc.2) (by funext u; simp [St.new, upd]) (.inl ⟨rfl, rfl⟩)
   simp only [List.length_nil, Nat.zero_add] at h1 h3
   refine .inl ⟨v, w', ?_, _, Im, h2, h3, .inr ⟨rfl, fun u hu h => by rw [yf _ _ _ _ hu]; exact h⟩⟩
   simp [execOp, ho, resolve, invoke, builtin, hvx, hyv, h1]
  ·cases e2
 ·rename_i id off len
  split at e2
  ·rename_i s' rows hob
   split at e2
   ·rename_i hc
    obtain ⟨rfl, hoff, hlen, hb, hm⟩ := hc
    cases e2
    obtain ⟨l0, hl0, hro, hown⟩ := s.obj id _ hob
    have hne : σ.next ≠ id := fun e => by rw [e, hl0] at hf; cases hf
    have s1 := s.kill id
    have hf1 : upd O id .gone σ.next = .free := by rw [yf _ _ _ _ hne]; exact hf
    have hnn : ∀ {l : Loc}, ∀ u, u ≠ σ.next → O u = .free → upd (upd O id .gone) σ.next (.live l) u = .free := fun {l} u hu h => by
     rw [yf _ _ _ _ hu, yf _ _ _ _ (fun e => by rw [e, hl0] at h; cases h)]; exact h
    have hσ2 : ((σ.setO id none).new (.arr i.size (rows ++ news) false)).objs = upd (σ.setO id none).objs (σ.setO id none).next (some (.arr i.size (rows ++ news) false)) := by funext u; simp [St.new, upd]
    have rr := rx.one_inv
    cases rr with
    | rd _ _ _ _ g1 _ => rw [g1] at hl0; cases hl0
    | rn _ cap sz' a0 g1 =>
     rw [g1] at hl0; cases hl0
     cases hro with
     | an =>
      clear hlen
      obtain ⟨v, w', l, h1, h2, h3⟩ := z3e (rows := []) (ty := o.type) (c := c) (ad := ad) (base := a0) (cp := 0) (σ' := (σ.setO id none).new (.arr i.size ([] ++ news) false)) s1 hf1 rfl hu hi hz hzs (by simp) hun rfl hrn hnl hcell (by simpa using hb) (by simpa using hm) hσ2 (.inl ⟨rfl, rfl⟩)
      refine .inl ⟨v, w', ?_, _, Im, h2, h3, .inr ⟨rfl, hnn⟩⟩
      simp only [List.length_nil] at h1
      simp [execOp, ho, resolve, invoke, builtin, hvx, hyv, h1]
    | r _ _ _ b cap sz' ad' c' g1 g2 g3 g4 =>
     rw [g1] at hl0; cases hl0
     subst hoff hlen
     cases hro with
     | arr _ _ _ _ _ cur tyc fr k1 k2 k3 k4 k5 k6 k7 k8 =>
      obtain rfl := k2 rfl
      obtain ⟨q1, q2, q3⟩ := hown b (.inl rfl)
      obtain ⟨v, w', l, h1, h2, h3⟩ := z3e (rows := rows) (ty := o.type) (c := c) (ad := ad) (base := some ad') (cp := c') (σ' := (σ.setO id none).new (.arr i.size (rows ++ news) false)) s1 hf1 rfl hu hi hz hzs k3 hun rfl hrn hnl hcell hb hm hσ2
       (.inr ⟨ad', b, cap, cur, tyc, rfl, g2, by omega, k5, by simpa using g4, k1, k6, q1, q2, q3, by
         intro u ob l' hob' hl' h
         by_cases e : u = id
         ·subst e; simp [St.setO] at hob'
         ·rw [yf _ _ _ _ e] at hl'
          exact s.disj u id ob _ l' _ b e (by simpa [St.setO, e] using hob') hob hl' g1 h (.inl rfl), k7⟩)
      refine .inl ⟨v, w', ?_, _, Im, h2, h3, .inr ⟨rfl, hnn⟩⟩
      simp [execOp, ho, resolve, invoke, builtin, hvx, hyv, h1]
   ·cases e2
  ·cases e2
 ·cases e2
theorem u5c {ty tu el : TypeId} {i : TypeInfo} {z : Value} {x y : Operand} {ox oy : Od} {sv' : SV} (ho : o.op = .call { callee := .builtin .append, args := #[x, y], argTypes := #[ty, tu] }) (hu : P.underlying ty = some (.slice el)) (htu : P.underlying tu = some .string) (hi : P.info? el = some i) (hz : i.zero = some z)
 (hzs : z.cells.size = i.size) (hi1 : i.size = 1) (hx : lowOd P ty x = some ox) (hy : lowOd P tu y = some oy) (s : SimW G X σ a.tmps w O Im) (hf : O σ.next = .free) (e : σ.apps i.bytes (σ.ev G oy) (σ.ev G ox).ur = some (σ', sv')) :
 OkV ((execOp a.eval o).run P w) fun v w' => Post G X a.tmps σ O σ' sv' v w' := by
 unfold St.apps at e
 simp only [Option.bind_eq_some_iff] at e
 obtain ⟨xs, e1, e2⟩ := e
 rw [← hi1] at e2
 have hyv := w1z (ud s hy) e1
 have hxl := x2k xs
 have rx := (ud s hx).ur
 generalize hvx : a.eval x = vx at rx
 generalize (σ.ev G ox).ur = sx at rx e2
 unfold St.app at e2
 split at e2
 ·split at e2
  ·rename_i hc
   cases e2
   have := rx.one_inv
   cases this with | nl _ a0 =>
   obtain ⟨v, w', l, h1, h2, h3⟩ := z2j (rows := []) (ty := o.type) (base := a0) (cp := 0) (σ' := σ.new (.arr i.size (x0s xs) false)) s hf rfl hu htu hi hz hzs hi1 (by simp) xs (by simpa [hxl] using hc.1) (by simpa [hxl] using hc.2) (by funext u; simp [St.new, upd]) (.inl ⟨rfl, rfl⟩)
   simp only [List.length_nil, Nat.zero_add] at h1 h3
   rw [← hxl] at h3
   refine .inl ⟨v, w', ?_, _, Im, h2, h3, .inr ⟨rfl, fun u hu h => by rw [yf _ _ _ _ hu]; exact h⟩⟩
   simp [execOp, ho, resolve, invoke, builtin, hvx, hyv, h1]
  ·cases e2
 ·rename_i id off len
  split at e2
  ·rename_i s' rows hob
   split at e2
   ·rename_i hc
    obtain ⟨rfl, hoff, hlen, hb, hm⟩ := hc
    cases e2
    obtain ⟨l0, hl0, hro, hown⟩ := s.obj id _ hob
    have hne : σ.next ≠ id := fun e => by rw [e, hl0] at hf; cases hf
    have s1 := s.kill id
    have hf1 : upd O id .gone σ.next = .free := by rw [yf _ _ _ _ hne]; exact hf
    have hnn : ∀ {l : Loc}, ∀ u, u ≠ σ.next → O u = .free → upd (upd O id .gone) σ.next (.live l) u = .free := fun {l} u hu h => by
     rw [yf _ _ _ _ hu, yf _ _ _ _ (fun e => by rw [e, hl0] at h; cases h)]; exact h
    have hσ2 : ((σ.setO id none).new (.arr i.size (rows ++ (x0s xs)) false)).objs = upd (σ.setO id none).objs (σ.setO id none).next (some (.arr i.size (rows ++ (x0s xs)) false)) := by funext u; simp [St.new, upd]
    have rr := rx.one_inv
    cases rr with
    | rd _ _ _ _ g1 _ => rw [g1] at hl0; cases hl0
    | rn _ cap sz' a0 g1 =>
     rw [g1] at hl0; cases hl0
     cases hro with
     | an =>
      clear hlen
      obtain ⟨v, w', l, h1, h2, h3⟩ := z2j (rows := []) (ty := o.type) (base := a0) (cp := 0) (σ' := (σ.setO id none).new (.arr i.size ([] ++ (x0s xs)) false)) s1 hf1 rfl hu htu hi hz hzs hi1 (by simp) xs (by simpa [hxl] using hb) (by simpa [hxl] using hm) hσ2 (.inl ⟨rfl, rfl⟩)
      refine .inl ⟨v, w', ?_, _, Im, h2, by rw [hxl]; exact h3, .inr ⟨rfl, hnn⟩⟩
      simp only [List.length_nil] at h1
      simp [execOp, ho, resolve, invoke, builtin, hvx, hyv, h1]
    | r _ _ _ b cap sz' ad' c' g1 g2 g3 g4 =>
     rw [g1] at hl0; cases hl0
     subst hoff hlen
     cases hro with
     | arr _ _ _ _ _ cur tyc fr k1 k2 k3 k4 k5 k6 k7 k8 =>
      obtain rfl := k2 rfl
      obtain ⟨q1, q2, q3⟩ := hown b (.inl rfl)
      obtain ⟨v, w', l, h1, h2, h3⟩ := z2j (rows := rows) (ty := o.type) (base := some ad') (cp := c') (σ' := (σ.setO id none).new (.arr i.size (rows ++ (x0s xs)) false)) s1 hf1 rfl hu htu hi hz hzs hi1 k3 xs (by rw [← hxl]; exact hb) (by rw [← hxl]; exact hm) hσ2
       (.inr ⟨ad', b, cap, cur, tyc, rfl, g2, by omega, k5, by simpa using g4, k1, k6, q1, q2, q3, by
         intro u ob l' hob' hl' h
         by_cases e : u = id
         ·subst e; simp [St.setO] at hob'
         ·rw [yf _ _ _ _ e] at hl'
          exact s.disj u id ob _ l' _ b e (by simpa [St.setO, e] using hob') hob hl' g1 h (.inl rfl), k7⟩)
      refine .inl ⟨v, w', ?_, _, Im, h2, by rw [hxl]; exact h3, .inr ⟨rfl, hnn⟩⟩
      simp [execOp, ho, resolve, invoke, builtin, hvx, hyv, h1]
   ·cases e2
  ·cases e2
 ·cases e2
theorem u3d : ∀ {rows : List (List D)} {xs : List Int}, bytesOf rows = some xs → xs.length = rows.length ∧ ∀ (j : Nat) (n : Int), xs[j]? = some n → rows.flatten[j]? = some (.i .u8 n)
 | [], xs, h => by simp only [bytesOf, Option.some.injEq] at h; subst h; exact ⟨rfl, fun j n h => by simp at h⟩
 | r :: rows, xs, h => by
  unfold bytesOf at h
  split at h
  ·rename_i h0; cases h0
  ·rename_i n r' h0
   obtain ⟨h1, h2⟩ := List.cons.inj h0
   subst h1 h2
   simp only [Option.map_eq_some_iff] at h
   obtain ⟨ys, hy, rfl⟩ := h
   obtain ⟨g1, g2⟩ := u3d hy
   refine ⟨by simp [g1], fun j m hm => ?_⟩
   cases j with
   | zero => simp at hm; subst hm; rfl
   | succ j => simpa using g2 j m (by simpa using hm)
  ·cases h
theorem snd_b2s {src dst el : TypeId} {x : Operand} {ox : Od} {xs : List Int} (ho : o.op = .convert src dst x) (hs : P.underlying src = some (.slice el)) (hd : P.underlying dst = some .string) (he : P.underlying el = some (.int .u8)) (hx : lowOd P src x = some ox)
 (s : SimW G X σ a.tmps w O Im) (e : (σ.rowsOf 1 (σ.ev G ox)).bind bytesOf = some xs) : OkV ((execOp a.eval o).run P w) fun v w' => Post G X a.tmps σ O σ (.one (.d (.s (strOfNums xs)))) v w' := by
 simp only [Option.bind_eq_some_iff] at e
 obtain ⟨rows, e1, e2⟩ := e
 obtain ⟨hun, ad, c, nv, hv, hr, hn, hcell⟩ := v1s s (ud s hx) e1
 obtain ⟨g1, g2⟩ := u3d e2
 have key : (convert src dst (a.eval x)).run P w = .ok (.string (strOfNums xs)) w := by
  rw [hv]
  rcases hcell with rfl | ⟨b, rfl, hc⟩
  ·have hx0 : xs = [] := List.eq_nil_of_length_eq_zero (by simpa using g1)
   subst hx0
   cases ad with
   | none => rw [run_convert_bytes_nil w src el hs he _ c dst hd]; rfl
   | some b =>
    have hl : (loadCells b 0).run P w = .ok #[] w := by
     have := run_loadCells_list (P := P) w b [] (fun j v hj => by simp at hj)
     simpa using this
    rw [List.length_nil, run_convert_bytes_string w src dst el _ 0 c hs he hd, run_bytesToString w b 0 c [] hl]
    rfl
  ·have hxs : ∀ j, j < rows.length → w.cell? (b.add j) = some (.int .u8 (xs.getD j 0)) := by
    intro j hj
    have hj' : j < xs.length := by omega
    have h1 := g2 j xs[j] (by simp [hj'])
    obtain ⟨u, hu, ru⟩ := hr.at_ j _ h1
    rw [hc j u hu]
    cases ru
    simp [List.getD, hj']
   have hl : (loadCells b rows.length).run P w = .ok (xs.map (Value.int .u8)).toArray w := by
    have := run_loadCells_list (P := P) w b (xs.map (Value.int .u8)) (fun j v hj => by
     have hjl : j < xs.length := by
      rcases Nat.lt_or_ge j xs.length with h | h
      ·exact h
      ·simp [List.getElem?_eq_none (show (xs.map (Value.int .u8)).length ≤ j by simpa using h)] at hj
     rw [hxs j (by omega)]
     simp [List.getElem?_eq_getElem hjl] at hj
     subst hj
     simp [List.getD, List.getElem?_eq_getElem hjl])
    simpa [g1] using this
   rw [run_convert_bytes_string w src dst el _ rows.length c hs he hd, run_bytesToString w _ rows.length c xs hl, foldl_push_bytes]
   simp [strOfNums, ByteArray.empty, ByteArray.emptyWithCapacity]
   rfl
 refine OkV.val s (v := .string (strOfNums xs)) ?_ (.dd (.s _))
 simp only [execOp, ho, key, Sem.run_bind, Result.andThen_ok, Sem.run_pure]
end
section
variable {P : Program} {G : Nat → Option (List D)} {X : Ctx} {σ σ' : St} {sv : SV} {a : Act} {w : World} {O : Nat → LS} {Im : Nat → Prop} {o : Oper}

inductive All2 {α β : Type} (R : α → β → Prop) : List α → List β → Prop
 | nil : All2 R [] []
 | cons {x y xs ys} : R x y → All2 R xs ys → All2 R (x :: xs) (y :: ys)
theorem u3j (off : Nat) : ∀ (vs : List Value) (k : Nat) (cs : Array Value), off + k + vs.length ≤ cs.size →
 ((vs.zipIdx k).foldl (fun cs (p : Value × Nat) => cs.setIfInBounds (off + p.2) p.1) cs).toList = cs.toList.take (off + k) ++ vs ++ cs.toList.drop (off + k + vs.length)
 | [], k, cs, _ => by simp
 | v :: vs, k, cs, h => by
  simp only [List.length_cons] at h
  rw [List.zipIdx_cons, List.foldl_cons, u3j off vs (k + 1) _ (by simp; omega)]
  simp only [Array.toList_setIfInBounds, List.length_cons]
  have hlt : off + k < cs.toList.length := by simp; omega
  rw [show off + (k + 1) = off + k + 1 from by omega, List.take_succ_eq_append_getElem (by simp; omega), List.take_set_of_le (by omega), List.drop_set_of_lt (by omega)]
  simp [List.append_assoc]
  omega
theorem y2d (s : SimW G X σ a.tmps w O Im) (place : Nat → Option (Nat × Nat)) : ∀ (parts : List (Nat × Operand)) (ods : List (Nat × Nat × Od)) (z cs : List SC) (cells : Array Value),
 (All2 (fun (p : Nat × Operand) (q : Nat × Nat × Od) => place p.1 = some (q.1, q.2.1) ∧ ∃ ty, lowOd P ty p.2 = some q.2.2) parts ods) → RelCl w.heap Im O z cells.toList → σ.fill G z ods = some cs →
 ∃ cells', Instr.fill place cells (parts.map fun p => (p.1, a.eval p.2)) = some cells' ∧ RelCl w.heap Im O cs cells'.toList ∧ cells'.size = cells.size
 | [], [], z, cs, cells, _, hr, e => by
  simp only [St.fill, Option.some.injEq] at e; subst e
  exact ⟨cells, rfl, hr, rfl⟩
 | (i, x) :: parts, (off, n, od) :: ods, z, cs, cells, hf, hr, e => by
  cases hf with
  | cons h1 h2 =>
   obtain ⟨hp, ty, hl⟩ := h1
   simp only [St.fill] at e
   cases hc : (σ.ev G od).cells? with
   | none => rw [hc] at e; simp at e
   | some xs =>
    rw [hc] at e
    simp only at e
    split at e
    ·rename_i hcond
     obtain ⟨hxl, hle⟩ := hcond
     have rx := z1p (ud s hl) hc
     have hxs : (a.eval x).cells.size = n := by rw [← hxl, rx.len]; simp
     have hzl : z.length = cells.size := by simpa using hr.len
     have hfold : ((a.eval x).cells.zipIdx.foldl (fun cs (p : Value × Nat) => cs.setIfInBounds (off + p.2) p.1) cells).toList = repl cells.toList off (a.eval x).cells.toList := by
      have := u3j off (a.eval x).cells.toList 0 cells (by simp; omega)
      simp only [Nat.add_zero] at this
      rw [← Array.foldl_toList, Array.toList_zipIdx]
      exact this
     have hrepl : RelCl w.heap Im O (repl z off xs) (repl cells.toList off (a.eval x).cells.toList) := by
      unfold repl
      rw [rx.len]
      exact ((hr.take off).append rx).append (hr.drop _)
     rw [← hfold] at hrepl
     obtain ⟨cells', g1, g2, g3⟩ := y2d s place parts ods _ cs _ h2 hrepl e
     refine ⟨cells', ?_, g2, by rw [g3, ← Array.length_toList, hfold]; unfold repl; simp; omega⟩
     have hne : ¬ ((a.eval x).cells.size ≠ n ∨ off + (a.eval x).cells.size > cells.size) := by omega
     simp only [List.map_cons, Instr.fill, hp]
     rw [if_neg (by simpa using hne)]
     exact g1
    ·cases e
 | [], _ :: _, _, _, _, hf, _, _ => by cases hf
 | _ :: _, [], _, _, _, hf, _, _ => by cases hf

theorem u3i {fs : Array Field} {places : List (Nat × Nat)} : ∀ {parts : List (Nat × Operand)} {ods : List (Nat × Nat × Od)}, lowBP P fs places parts = some ods →
 All2 (fun (p : Nat × Operand) (q : Nat × Nat × Od) => places.toArray[p.1]? = some (q.1, q.2.1) ∧ ∃ ty, lowOd P ty p.2 = some q.2.2) parts ods
 | [], ods, e => by simp only [lowBP, Option.some.injEq] at e; subst e; exact .nil
 | (i, x) :: r, ods, e => by
  simp only [lowBP] at e
  split at e
  ·rename_i f off n h1 h2
   simp only [Option.bind_eq_some_iff, Option.map_eq_some_iff] at e
   obtain ⟨od, h3, ods', h4, rfl⟩ := e
   exact .cons ⟨by simpa using h2, _, h3⟩ (u3i h4)
  ·cases e
theorem w4u {ty : TypeId} {fs : Array Field} {it : TypeInfo} {z : Value} {zc cs : List SC} {szs : List Nat} {places : List (Nat × Nat)} {parts : Array (Nat × Operand)} {ods : List (Nat × Nat × Od)} (ho : o.op = .build ty parts) (hu : P.underlying ty = some (.struct fs)) (hi : P.info? ty = some it) (hz : it.zero = some z)
 (hc : u0b szs z.cells.toList = some zc) (hp : w2z P fs = some places) (hl : lowBP P fs places parts.toList = some ods) (s : SimW G X σ a.tmps w O Im) (e : σ.fill G zc ods = some cs) :
 OkV ((execOp a.eval o).run P w) fun v w' => Post G X a.tmps σ O σ (.agg cs) v w' := by
 obtain ⟨cells', g1, g2, _⟩ := y2d s (places.toArray[·]?) parts.toList ods zc cs z.cells (u3i hl) (zw hc) e
 have hb : P.built ty (parts.map fun p => (p.1, a.eval p.2)).toList = some cells' := by
  unfold Program.built
  unfold w2z at hp
  simp only [hi, hu, hz, hp]
  simpa using g1
 have hrun := run_build (P := P) w ty (parts.map fun p => (p.1, a.eval p.2)) cells' hb
 refine OkV.val s (v := .agg cells') ?_ (.agg _ _ g2)
 simp [execOp, ho, hrun]
end
section
variable {P : Program} {G : Nat → Option (List D)} {X : Ctx} {σ σ' : St} {sv : SV} {a : Act} {w : World} {O : Nat → LS} {Im : Nat → Prop} {o : Oper}

theorem y2g (sz : Nat) : ∀ (n : Nat) (ds : List D), (rowsN sz n ds).length = n
 | 0, _ => rfl
 | n + 1, ds => by simp [rowsN, y2g sz n]
theorem u2y (sz : Nat) : ∀ (n : Nat) (ds : List D), ds.length = n * sz → (rowsN sz n ds).flatten = ds
 | 0, ds, h => by simp at h; subst h; rfl
 | n + 1, ds, h => by
  rw [Nat.succ_mul] at h
  simp only [rowsN, List.flatten_cons]
  rw [u2y sz n _ (by simp; omega), List.take_append_drop]
theorem x3i (sz : Nat) : ∀ (n : Nat) (ds : List D), ds.length = n * sz → ∀ r ∈ rowsN sz n ds, r.length = sz
 | 0, ds, h => by simp [rowsN]
 | n + 1, ds, h => by
  rw [Nat.succ_mul] at h
  intro r hr
  simp only [rowsN, List.mem_cons] at hr
  rcases hr with rfl | hr
  ·simp; omega
  ·exact x3i sz n _ (by simp; omega) r hr
theorem w0r {α : Type} {z : List α} : ∀ (n j : Nat), j < n * z.length → (List.replicate n z).flatten[j]? = z[j % z.length]?
 | 0, j, h => by simp at h
 | n + 1, j, h => by
  rw [Nat.succ_mul] at h
  rw [List.replicate_succ, List.flatten_cons]
  by_cases hj : j < z.length
  ·rw [List.getElem?_append_left hj, Nat.mod_eq_of_lt hj]
  ·rw [List.getElem?_append_right (by omega), w0r n (j - z.length) (by omega), Nat.mod_eq_sub_mod (by omega : j ≥ z.length)]
theorem u1r {h : Array Obj} {Im : Nat → Prop} {O : Nat → LS} {z : Array Value} {zc : List SC} (r : RelCl h Im O zc z.toList) (n : Nat) : RelCl h Im O (List.replicate n zc).flatten (madeCells z (n * z.size)).toList := by
 have hl := r.len
 simp only [Array.length_toList] at hl
 have hfl : (List.replicate n zc).flatten.length = n * z.size := by simp [hl]
 refine RelCl.of_at _ _ (by rw [hfl]; simp [size_madeCells]) fun j c hc => ?_
 have hj := (List.getElem?_eq_some_iff.1 hc).1
 rw [hfl] at hj
 rw [w0r n j (by rw [hl]; exact hj), hl] at hc
 obtain ⟨v, hv, hr⟩ := r.at_ _ c hc
 refine ⟨v, ?_, hr⟩
 have hp : 0 < z.size := by
  rcases Nat.eq_zero_or_pos z.size with h | h
  ·rw [h] at hj; simp at hj
  ·exact h
 have hlt := Nat.mod_lt j hp
 simp only [madeCells, Array.getElem?_toList, Array.getElem?_map, Array.getElem?_range, hj, if_true, Option.map_some]
 rw [getElem!_pos z _ hlt]
 simpa [hlt] using hv

theorem u2h {e : TypeId} (sz : Nat) : ∀ {parts : List (Nat × Operand)} {ods : List (Nat × Od)}, lowSP P e parts = some ods →
 All2 (fun (p : Nat × Operand) (q : Nat × Nat × Od) => (fun i => some (i * sz, sz)) p.1 = some (q.1, q.2.1) ∧ ∃ ty, lowOd P ty p.2 = some q.2.2) parts (mul1 sz ods)
 | [], ods, e => by simp only [lowSP, Option.some.injEq] at e; subst e; exact .nil
 | (i, x) :: r, ods, e => by
  simp only [lowSP, Option.bind_eq_some_iff, Option.map_eq_some_iff] at e
  obtain ⟨od, h3, ods', h4, rfl⟩ := e
  exact .cons ⟨rfl, _, h3⟩ (u2h sz h4)

theorem v2y {t e : TypeId} {i : TypeInfo} {z : Value} (hu : P.underlying t = some (.slice e)) (hi : P.info? e = some i) (hz : i.zero = some z) {n : Nat} (hn : n * i.size ≤ 2 ^ 24) (parts : Array (Nat × Value)) (cells : Array Value)
 (h : Instr.fill (fun k => some (k * i.size, i.size)) (madeCells z.cells (n * i.size)) parts.toList = some cells) :
 (Instr.buildSlice t n parts).run P w = .ok (.slice (some ⟨w.heap.size, 0, none⟩) n n) (w.alloc (.cells cells e)) := by
 have hn' : ¬ (n * i.size > 2 ^ 24) := by omega
 by_cases h0 : n * i.size = 0
 ·rw [h0] at h
  have he : ∀ f : Nat → Value, Array.map f (Array.range 0) = #[] := fun f => by apply Array.ext <;> simp
  rw [madeCells, he] at h
  simp [Instr.buildSlice, run_underlying hu, sizeOf, typeInfo, hi, hn', h0, he, h, newRow]
 ·simp only [madeCells] at h
  simp [Instr.buildSlice, run_underlying hu, sizeOf, typeInfo, hi, zeroValue, hz, hn', h0, h, newRow]

theorem snd_bsl {ty el : TypeId} {i : TypeInfo} {z : Value} {zc cs : List SC} {ds : List D} {szs : List Nat} {n : Nat} {parts : Array (Nat × Operand)} {ods : List (Nat × Od)} (ho : o.op = .buildSlice ty n parts) (hu : P.underlying ty = some (.slice el)) (hi : P.info? el = some i) (hz : i.zero = some z)
 (hn : n * i.size ≤ 2 ^ 24) (hn2 : n ≤ 2 ^ 24) (hzs : z.cells.size = i.size) (hc : u0b szs z.cells.toList = some zc) (hl : lowSP P el parts.toList = some ods) (s : SimW G X σ a.tmps w O Im) (hf : O σ.next = .free)
 (e : σ.fill G (List.replicate n zc).flatten (mul1 i.size ods) = some cs) (e2 : σ.toDs cs = some ds) :
 OkV ((execOp a.eval o).run P w) fun v w' => Post G X a.tmps σ O (σ.new (.arr i.size (rowsN i.size n ds) false)) (.one (.r σ.next 0 n)) v w' := by
 have hm := u1r (zw (h := w.heap) (Im := Im) (O := O) hc) n
 obtain ⟨cells', g1, g2, g3⟩ := y2d s (fun k => some (k * i.size, i.size)) parts.toList (mul1 i.size ods) _ cs _ (u2h i.size hl) hm e
 rw [hzs] at g1
 have hrun := v2y (P := P) (w := w) hu hi hz hn (parts.map fun p => (p.1, a.eval p.2)) cells' (by simpa using g1)
 obtain ⟨hds, hdl⟩ := z0u s g2 e2
 have hsz : cells'.size = n * i.size := by rw [g3, size_madeCells, hzs]
 have hdl2 : ds.length = n * i.size := by have := g2.len; simp only [Array.length_toList] at this; omega
 obtain ⟨q1, q2⟩ := Post.fresh_arr (len := n) (e := el) (cap := n) (c := cells') s hf (x3i i.size n ds hdl2) (by rw [y2g]; exact Nat.le_refl _) (by simp only [maxLen]; omega) hsz (by rw [u2y _ _ _ hdl2]; exact hds) rfl s (σ' := σ.new (.arr i.size (rowsN i.size n ds) false)) rfl (by funext u; simp [St.new, upd])
 refine .inl ⟨.slice (some ⟨w.heap.size, 0, none⟩) n n, w.alloc (.cells cells' el), ?_, _, Im, q1, q2 (y2g _ _ _).symm, .inr ⟨rfl, fun u hu h => by rw [yf _ _ _ _ hu]; exact h⟩⟩
 simp [execOp, ho, hrun]
end
section
variable {P : Program} {G : Nat → Option (List D)} {X : Ctx} {σ σ' : St} {sv : SV} {a : Act} {w : World} {O : Nat → LS} {Im : Nat → Prop} {o : Oper}

theorem v2l : ∀ {k1 k2 : List EqK} {as bs : List SC} {r : Bool}, eqCs (k1 ++ k2) as bs = some r →
 ∃ r1 r2, eqCs k1 (as.take k1.length) (bs.take k1.length) = some r1 ∧ eqCs k2 (as.drop k1.length) (bs.drop k1.length) = some r2 ∧ r = (r1 && r2)
 | [], k2, as, bs, r, h => ⟨true, r, by simp [eqCs], by simpa using h, by simp⟩
 | k :: k1, k2, a :: as, b :: bs, r, h => by
  simp only [List.cons_append, eqCs] at h
  split at h
  ·rename_i x y h1 h2
   cases h
   obtain ⟨r1, r2, g1, g2, rfl⟩ := v2l h2
   exact ⟨x && r1, r2, by simp [eqCs, h1, g1], by simpa using g2, by simp [Bool.and_assoc]⟩
  ·cases h
 | _ :: _, _, [], [], _, h => by simp [eqCs] at h
 | _ :: _, _, [], _ :: _, _, h => by simp [eqCs] at h
 | _ :: _, _, _ :: _, [], _, h => by simp [eqCs] at h
theorem x2d : ∀ {ks : List EqK} {as bs : List SC} {r : Bool}, eqCs ks as bs = some r → as.length = ks.length ∧ bs.length = ks.length
 | [], [], [], _, _ => ⟨rfl, rfl⟩
 | k :: ks, a :: as, b :: bs, r, h => by
  simp only [eqCs] at h
  split at h
  ·rename_i x y h1 h2
   have := x2d h2
   simp [this.1, this.2]
  ·cases h
 | [], [], _ :: _, _, h => by simp [eqCs] at h
 | [], _ :: _, _, _, h => by simp [eqCs] at h
 | _ :: _, [], _, _, h => by simp [eqCs] at h
 | _ :: _, _ :: _, [], _, h => by simp [eqCs] at h

theorem y3i {t : TypeId} (hd : ∃ d, P.underlying t = some d) (w : World) : (isAgg t).run P w = .ok (xn P t) w := by
 obtain ⟨d, hd⟩ := hd
 unfold isAgg xn
 rw [Sem.run_bind, run_underlying hd w, hd]
 cases d <;> simp
theorem v3y {t : TypeId} (hd : ∃ d, P.underlying t = some d) {n : Nat} (hn : P.cellsOf t = n) (hok : xn P t = true ∨ n = 1) {cv : Array Value} {off : Nat} (hle : off + n ≤ cv.size) (h1 : ∀ v ∈ cv.toList, v.oneCell' = true) (w : World) :
 ∃ v, (part t cv off).run P w = .ok v w ∧ v.cells.toList = (cv.toList.drop off).take n ∧ (xn P t = true → ∃ xa, v = .agg xa) ∧ (xn P t = false → v.cells = #[v]) := by
 have hr := y3i hd w
 obtain ⟨d, hd⟩ := hd
 obtain ⟨i, hi⟩ := u0f hd
 have hsz : i.size = n := by simpa [Program.cellsOf, hi] using hn
 cases hb : xn P t with
 | true =>
  rw [hb] at hr
  refine ⟨.agg (cv.extract off (off + n)), ?_, ?_, fun _ => ⟨_, rfl⟩, fun h => by cases h⟩
  ·simp [part, hr, sizeOf, typeInfo, hi, hsz]
  ·show (cv.extract off (off + n)).toList = _
   simp [Array.toList_extract, List.extract_eq_take_drop]
 | false =>
  rw [hb] at hr hok
  obtain rfl : n = 1 := by simpa using hok
  have hlt : off < cv.size := by omega
  have hc := v2i (h1 cv[off] (by simp))
  refine ⟨cv[off], ?_, ?_, (fun h => nomatch h), (fun _ => hc)⟩
  ·simp [part, hr, hlt]
  ·rw [hc]
   apply List.ext_getElem?
   intro j
   rcases j with _ | j
   ·simp [hlt]
   ·simp; omega

def EqOk (P : Program) (t : TypeId) (ks : List EqK) (m : Nat) : Prop :=
 ∀ (D : Nat), m ≤ D → ∀ (h : Array Obj) (Im : Nat → Prop) (O : Nat → LS) (w : World) (x y : Value) (as bs : List SC) (r : Bool), RelCl h Im O as x.cells.toList → RelCl h Im O bs y.cells.toList →
  (xn P t = true → (∃ xa, x = .agg xa) ∧ ∃ ya, y = .agg ya) → (xn P t = false → x.cells = #[x] ∧ y.cells = #[y]) → eqCs ks as bs = some r → (Op.equalIn D t x y).run P w = .ok r w

theorem x5k {m : Nat} {t : TypeId} {ks : List EqK} (e : eqKs P m t = some ks) : ∃ d, P.underlying t = some d := by
 cases m with
 | zero => simp [eqKs] at e
 | succ m =>
  unfold eqKs at e
  cases hu : P.underlying t with
  | none => simp [hu] at e
  | some d => exact ⟨d, rfl⟩

theorem w4p {m D : Nat} (hm : m ≤ D) (ih : ∀ t ks, eqKs P m t = some ks → EqOk P t ks m) {h : Array Obj} {Im : Nat → Prop} {O : Nat → LS} {xs ys : Array Value} :
 ∀ (fs : List Field) (off : Nat) (ks : List EqK) (as bs : List SC) (r : Bool) (w : World), eqFs P (eqKs P m) off fs = some ks → RelCl h Im O as (xs.toList.drop off) → RelCl h Im O bs (ys.toList.drop off) → off ≤ xs.size → off ≤ ys.size →
  (∀ v ∈ xs.toList, v.oneCell' = true) → (∀ v ∈ ys.toList, v.oneCell' = true) → eqCs ks as bs = some r → (Op.eqFields D xs ys fs).run P w = .ok r w
 | [], off, ks, as, bs, r, w, he, ra, rb, h1, h2, h3, h4, e => by
  simp only [eqFs, Option.some.injEq] at he
  subst he
  have hl := x2d e
  obtain rfl : as = [] := List.eq_nil_of_length_eq_zero hl.1
  obtain rfl : bs = [] := List.eq_nil_of_length_eq_zero hl.2
  simp only [eqCs, Option.some.injEq] at e
  subst e
  simp [Op.eqFields]
 | f :: fs, off, ks, as, bs, r, w, he, ra, rb, h1, h2, h3, h4, e => by
  simp only [eqFs] at he
  split at he
  ·rename_i hc
   obtain ⟨hname, hoff⟩ := hc
   simp only [Option.bind_eq_some_iff] at he
   obtain ⟨k, hk, he⟩ := he
   split at he
   ·rename_i hc2
    obtain ⟨hkl, hag⟩ := hc2
    simp only [Option.map_eq_some_iff] at he
    obtain ⟨ks', he', rfl⟩ := he
    obtain ⟨r1, r2, g1, g2, rfl⟩ := v2l e
    have hl := x2d e
    have hla := ra.len
    have hlb := rb.len
    simp only [List.length_append, List.length_drop, Array.length_toList] at hl hla hlb
    have hd := x5k hk
    obtain ⟨x, px, cx, sx1, sx2⟩ := v3y hd hkl.symm hag (cv := xs) (off := off) (by omega) h3 w
    obtain ⟨y, py, cy, sy1, sy2⟩ := v3y hd hkl.symm hag (cv := ys) (off := off) (by omega) h4 w
    have heq := ih _ _ hk D hm h Im O w x y _ _ r1 (by rw [cx]; exact ra.take _) (by rw [cy]; exact rb.take _) (fun hh => ⟨sx1 hh, sy1 hh⟩) (fun hh => ⟨sx2 hh, sy2 hh⟩) g1
    have hrest := w4p hm ih (h := h) (Im := Im) (O := O) (xs := xs) (ys := ys) fs (off + k.length) ks' _ _ r2 w he' (by rw [← List.drop_drop]; exact ra.drop _) (by rw [← List.drop_drop]; exact rb.drop _) (by omega) (by omega) h3 h4 g2
    subst hoff
    cases r1 <;> simp [Op.eqFields, hname, px, py, heq, hrest]
   ·cases he
  ·cases he

theorem eq_ok : ∀ (m : Nat) (t : TypeId) (ks : List EqK), eqKs P m t = some ks → EqOk P t ks m
 | 0, t, ks, e => by simp [eqKs] at e
 | m + 1, t, ks, e => by
  intro D hD h Im O w x y as bs r ra rb hs1 hs2 hr
  obtain ⟨D, rfl⟩ : ∃ D', D = D' + 1 := ⟨D - 1, by omega⟩
  unfold eqKs at e
  cases hu : P.underlying t with
  | none => simp [hu] at e
  | some d =>
   rw [hu] at e
   have leaf : xn P t = false → ∀ k, ks = [k] → ∃ ca cb, RelC h Im O ca x ∧ RelC h Im O cb y ∧ eqC k ca cb = some r := by
    intro hb k hk
    subst hk
    obtain ⟨hx, hy⟩ := hs2 hb
    have hl := x2d hr
    match as, bs, hl with
    | [ca], [cb], _ =>
     rw [hx] at ra; rw [hy] at rb
     cases ra with | cons _ _ _ _ ra _ =>
     cases rb with | cons _ _ _ _ rb _ =>
     refine ⟨ca, cb, ra, rb, ?_⟩
     simp only [eqCs] at hr
     cases he : eqC k ca cb with
     | none => simp [he] at hr
     | some v => simpa [he] using hr
   cases d <;> simp only [reduceCtorEq, Option.some.injEq] at e
   case bool =>
    obtain ⟨ca, cb, h1, h2, h3⟩ := leaf (by simp [xn, hu]) _ e.symm
    unfold eqC at h3
    split at h3 <;> simp_all
    cases h1.d_inv; cases h2.d_inv
    rw [run_equalIn_bool' (P := P) w D t _ _ hu, h3]
   case int k =>
    obtain ⟨ca, cb, h1, h2, h3⟩ := leaf (by simp [xn, hu]) _ e.symm
    unfold eqC at h3
    split at h3 <;> simp_all
    obtain ⟨rfl, h3⟩ := h3
    cases h1.d_inv; cases h2.d_inv
    rw [run_equalIn_int (P := P) w D t _ _ _ _ hu, h3]
   case string =>
    obtain ⟨ca, cb, h1, h2, h3⟩ := leaf (by simp [xn, hu]) _ e.symm
    unfold eqC at h3
    split at h3 <;> simp_all
    cases h1.d_inv; cases h2.d_inv
    rw [run_equalIn_string (P := P) w D t _ _ hu, ← h3, beq_toListBytes]
   case struct fs =>
    split at e
    ·cases e
    ·rename_i hp
     obtain ⟨⟨xa, rfl⟩, ya, rfl⟩ := hs1 (by simp [xn, hu])
     have hf : P.fieldsOf t = fs := by simp [Program.fieldsOf, hu]
     rw [run_equalIn_struct (P := P) w D t xa ya (by rw [hf]; exact hu) (by simpa using hp), hf]
     exact w4p (by omega) (eq_ok m) fs.toList 0 ks as bs r w e (by simpa [Value.cells] using ra) (by simpa [Value.cells] using rb) (by omega) (by omega) ra.one rb.one hr

theorem u4l {op : BinOp} {ty u : TypeId} {x y : Operand} {ox oy : Od} {ks : List EqK} {fs : Array Field} {as bs : List SC} {r neg : Bool} (ho : o.op = .binOp op ty x y u) (hop : (op = .eql ∧ neg = false) ∨ (op = .neq ∧ neg = true)) (hu : P.underlying ty = some (.struct fs)) (hg : P.eqGuardType P.depth ty = false)
 (hk : eqKs P 16 ty = some ks) (hx : lowOd P ty x = some ox) (hy : lowOd P ty y = some oy) (s : SimW G X σ a.tmps w O Im) (e1 : asAgg (σ.ev G ox) = some as) (e2 : asAgg (σ.ev G oy) = some bs) (e3 : eqCs ks as bs = some r) :
 OkV ((execOp a.eval o).run P w) fun v w' => Post G X a.tmps σ O σ (.one (.d (.b (if neg = true then !r else r)))) v w' := by
 obtain ⟨xa, hxv, ra⟩ := agg_inv (ud s hx) e1
 obtain ⟨ya, hyv, rb⟩ := agg_inv (ud s hy) e2
 have heq := eq_ok 16 ty ks hk 10000 (by omega) w.heap Im O w (.agg xa) (.agg ya) as bs r ra rb (fun _ => ⟨⟨_, rfl⟩, _, rfl⟩) (fun h => by simp [xn, hu] at h) e3
 rcases hop with ⟨rfl, rfl⟩ | ⟨rfl, rfl⟩
 ·refine OkV.val s (v := .bool r) ?_ (.one _ _ (.d _ _ (.b _)))
  simp [execOp, ho, hxv, hyv, run_eqGuard_agg (P := P) w .eql ty x y xa ya hg, run_eql_struct, heq, Result.andThen]
 ·refine OkV.val s (v := .bool (!r)) ?_ (.one _ _ (.d _ _ (.b _)))
  simp [execOp, ho, hxv, hyv, run_eqGuard_agg (P := P) w .neq ty x y xa ya hg, run_neq_struct, heq, Result.andThen]
end
section
variable {P : Program} {G : Nat → Option (List D)} {X : Ctx} {σ σ' : St} {sv : SV} {a : Act} {w : World} {O : Nat → LS} {Im : Nat → Prop} {o : Oper}
theorem v3g {t el : TypeId} {i : TypeInfo} {ad : Option Addr} {len cap : Nat} {lo : Option Value} {l h m : Int} {kh km : IntKind} (hu : P.underlying t = some (.slice el)) (hi' : P.info? el = some i)
 (hlo : (lo = none ∧ l = 0) ∨ ∃ k, lo = some (.int k l)) (h0 : 0 ≤ l) (h1 : l ≤ h) (h2 : h ≤ m) (h3 : m ≤ cap) :
 (Instr.sliceAt t (.slice ad len cap) lo (some (.int kh h)) (some (.int km m))).run P w = .ok (.slice (if m.toNat = l.toNat then ad else ad.map (·.add (l.toNat * i.size))) (h.toNat - l.toNat) (m.toNat - l.toNat)) w := by
 have g1 : (Instr.sliceBound (.int km m) cap .slice3Acap).run P w = .ok m.toNat w := run_sliceBound (P := P) w km m cap .slice3Acap (by omega) (by omega)
 have g2 : (Instr.sliceBound (.int kh h) m.toNat .slice3B).run P w = .ok h.toNat w := run_sliceBound (P := P) w kh h m.toNat .slice3B (by omega) (by omega)
 have g3 : ∀ k, (Instr.sliceBound (.int k l) h.toNat .slice3C).run P w = .ok l.toNat w := fun k => run_sliceBound (P := P) w k l h.toNat .slice3C (by omega) (by omega)
 rcases hlo with ⟨rfl, rfl⟩ | ⟨kl, rfl⟩
 ·simp [Instr.sliceAt, Instr.slice, run_underlying hu, Instr.sliceBounds, sizeOf, typeInfo, hi', g1, g2]
 ·simp [Instr.sliceAt, Instr.slice, run_underlying hu, Instr.sliceBounds, sizeOf, typeInfo, hi', g1, g2, g3]
theorem snd_sl3 {ty el : TypeId} {x hi mx : Operand} {lo : Option Operand} {ox oh om : Od} {ol : Option Od} {rl : Option Int} {rh rm : Int} {sz : Nat} {sv : SV} {t1 t2 : TypeId} (ho : o.op = .slice ty x lo (some hi) (some mx)) (hu : P.underlying ty = some (.slice el)) (hsz : P.cellsOf el = sz) (hi' : ∃ i, P.info? el = some i)
 (hx : lowOd P ty x = some ox) (hl : u0h P lo = some ol) (hh : lowOd P t1 hi = some oh) (hm : lowOd P t2 mx = some om) (s : SimW G X σ a.tmps w O Im) (e1 : optI G σ ol = some rl) (e2 : asInt (σ.ev G oh) = some rh) (e2' : asInt (σ.ev G om) = some rm) (e3 : σ.sl3V sz (σ.ev G ox) (rl.getD 0) rh rm = some sv) :
 OkV ((execOp a.eval o).run P w) fun v w' => Post G X a.tmps σ O σ sv v w' := by
 obtain ⟨i, hi'⟩ := hi'
 have hisz : i.size = sz := by simpa [Program.cellsOf, hi'] using hsz
 have hr := ud s hx
 obtain ⟨kh, hkh, _⟩ := v0s (ud s hh) e2
 obtain ⟨km, hkm, _⟩ := v0s (ud s hm) e2'
 have hlo := x0e s hl e1 0
 generalize rl.getD 0 = L at *
 generalize hsv : σ.ev G ox = svx at hr e3
 generalize hav : a.eval x = av at hr
 have run : ∀ {ad : Option Addr} {len cap : Nat}, av = .slice ad len cap → 0 ≤ L → L ≤ rh → rh ≤ rm → rm ≤ cap → (execOp a.eval o).run P w = .ok (.value (.slice (if rm.toNat = L.toNat then ad else ad.map (·.add (L.toNat * i.size))) (rh.toNat - L.toNat) (rm.toNat - L.toNat))) w := by
  intro ad len cap hv h0 h1 h2 h3
  have hrun := v3g (P := P) (w := w) (ad := ad) (len := len) (cap := cap) (kh := kh) (km := km) hu hi' hlo h0 h1 h2 h3
  simp only [execOp, ho, hav, hv, Option.map_some, hkh, hkm, Sem.run_bind, hrun, Result.andThen_ok, Sem.run_pure]
 unfold St.sl3V at e3
 split at e3
 ·rename_i s'
  split at e3
  ·rename_i hc
   obtain ⟨rfl, rfl, rfl, rfl⟩ := hc
   cases e3
   cases hr.one_inv with
   | nl _ a0 =>
    refine OkV.val s (run rfl (by omega) (by omega) (by omega) (by omega)) ?_
    exact .one _ _ (by simpa using RelC.nl (h := w.heap) (Im := Im) (O := O) s' a0)
  ·cases e3
 ·rename_i s' rows
  split at e3
  ·rename_i hc
   obtain ⟨rfl, h0, h1, h2, h3⟩ := hc
   have hrr := hr.one_inv.d_inv
   cases hrr with
   | l0 _ ad cap =>
    simp only [List.length_nil] at h3
    have hL : L = rm := by omega
    rw [if_pos hL] at e3
    cases e3
    refine OkV.val s (run rfl h0 h1 h2 (by omega)) ?_
    have z1 : rh.toNat - L.toNat = 0 := by omega
    have z2 : rm.toNat - L.toNat = 0 := by omega
    rw [z1, z2]
    exact .one _ _ (.nl _ _)
   | l _ _ b off cap c e fr g1 g2 g3 g4 g5 =>
    refine OkV.val s (run rfl h0 h1 h2 (by omega)) ?_
    split at e3
    ·rename_i hL
     cases e3
     have z1 : rh.toNat - L.toNat = 0 := by omega
     have z2 : rm.toNat - L.toNat = 0 := by omega
     rw [z1, z2]
     exact .one _ _ (.nl _ _)
    ·rename_i hL
     cases e3
     have hlen : ((rows.drop L.toNat).take (rh - L).toNat).length = rh.toNat - L.toNat := by simp; omega
     refine .one _ _ (.d _ _ ?_)
     by_cases hz : rh.toNat - L.toNat = 0
     ·have : (rows.drop L.toNat).take (rh - L).toNat = [] := List.eq_nil_of_length_eq_zero (by omega)
      rw [this, hz]
      exact .l0 _ _ _
     ·have hcl : ¬ rm.toNat = L.toNat := by omega
      rw [if_neg hcl, ← hlen]
      simp only [Option.map_some, Addr.add_lit, hisz]
      refine .l _ _ b _ _ c e fr g1 g2 (fun r hr => g3 r (List.mem_of_mem_drop (List.mem_of_mem_take hr))) ⟨by omega, by omega⟩ ?_
      have hu' : ∀ r ∈ rows.drop L.toNat, r.length = s' := fun r hr => g3 r (List.mem_of_mem_drop hr)
      rw [← xp hu' _, ← xx g3 _, ← List.drop_drop]
      exact (g5.drop _).take _
  ·cases e3
 ·rename_i id off len
  split at e3
  ·rename_i s' rows fz hob
   split at e3
   ·rename_i hc
    obtain ⟨rfl, h0, h1, h2, h3⟩ := hc
    obtain ⟨l, hl', hro, _⟩ := s.obj id _ hob
    have hrr := hr.one_inv
    cases hrr with
    | rd _ _ _ _ g1 _ => rw [g1] at hl'; cases hl'
    | rn _ cap sz' a0 g1 =>
     have hL : L = rm := by omega
     rw [if_pos hL] at e3
     cases e3
     refine OkV.val s (run rfl h0 h1 h2 (by omega)) ?_
     have z1 : rh.toNat - L.toNat = 0 := by omega
     have z2 : rm.toNat - L.toNat = 0 := by omega
     rw [z1, z2]
     exact .one _ _ (.nl _ _)
    | r _ _ _ b cap sz' ad c g1 g2 g3 g4 =>
     rw [g1] at hl'; cases hl'
     refine OkV.val s (run rfl h0 h1 h2 (by omega)) ?_
     split at e3
     ·rename_i hL
      cases e3
      have z1 : rh.toNat - L.toNat = 0 := by omega
      have z2 : rm.toNat - L.toNat = 0 := by omega
      rw [z1, z2]
      exact .one _ _ (.nl _ _)
     ·rename_i hL
      cases e3
      have hcl : ¬ rm.toNat = L.toNat := by omega
      rw [if_neg hcl]
      have e1 : rh.toNat - L.toNat = (rh - L).toNat := by omega
      rw [e1]
      have hsz' : sz' = i.size := by cases hro <;> exact hisz.symm
      refine .one _ _ (.r _ _ _ b cap sz' _ _ g1 (by omega) (by omega) (.inl ?_))
      rcases g4 with g4 | g4
      ·subst g4
       simp [Addr.add_lit, hsz', Nat.add_mul]
      ·omega
   ·cases e3
  ·cases e3
 ·cases e3
end
section
variable {P : Program} {G : Nat → Option (List D)} {X : Ctx} {σ σ' : St} {sv : SV} {a : Act} {w : World} {O : Nat → LS} {Im : Nat → Prop} {o : Oper}
theorem z3h {h : Array Obj} {z : Array Value} {ds : List D} {n : Nat} (r : RelCs h Im ds z.toList []) (hl : z.size = ds.length) : RelCs h Im (List.replicate n ds).flatten (Builtin.zeroCells z n).toList [] := by
 have hrows : ∀ r ∈ List.replicate n ds, r.length = ds.length := fun r hr => by rw [List.eq_of_mem_replicate hr]
 refine RelCs.of_at _ _ fun j d hd => ?_
 have hj := (List.getElem?_eq_some_iff.1 hd).1
 rw [wa hrows, List.length_replicate] at hj
 have hp : 0 < ds.length := by
  rcases Nat.eq_zero_or_pos ds.length with h | h
  ·rw [h] at hj; simp at hj
  ·exact h
 have hdm : j = (j / ds.length) * ds.length + j % ds.length := by rw [Nat.mul_comm]; exact (Nat.div_add_mod j ds.length).symm
 have hml := Nat.mod_lt j hp
 have hdl2 : j / ds.length < n := (Nat.div_lt_iff_lt_mul hp).2 hj
 rw [hdm, flatten_getElem? hrows _ _ hml, List.getElem?_replicate, if_pos hdl2] at hd
 obtain ⟨v, hv, hr⟩ := r.at_ _ _ (by simpa using hd)
 refine ⟨v, ?_, hr⟩
 have hv' : z[j % ds.length]? = some v := by simpa using hv
 have : j % ds.length < z.size := by omega
 simp only [Builtin.zeroCells, Array.getElem?_toList, Array.getElem?_map, Array.getElem?_range, hl, hj, if_true, Option.map_some]
 rw [getElem!_pos z _ this]
 rw [Array.getElem?_eq_getElem this] at hv'
 exact hv'
theorem z2g {ty t el : TypeId} {i : TypeInfo} {z : Value} (hu : P.underlying t = some (.slice el)) (hi : P.info? el = some i) (hz : i.zero = some z) {ad : Option Addr} {n c : Nat} {w' : World}
 (h : n = 0 ∧ w' = w ∨ n ≠ 0 ∧ ∃ b, ad = some b ∧ (storeCells b (Builtin.zeroCells z.cells n).toList).run P w = .ok () w') :
 (Builtin.clear_ #[t] ty #[.slice ad n c]).run P w = .ok (.tuple #[]) w' := by
 rcases h with ⟨rfl, rfl⟩ | ⟨hn, b, rfl, h⟩
 ·cases ad <;> simp [Builtin.clear_, run_underlying hu]
 ·obtain ⟨m, rfl⟩ : ∃ m, n = m + 1 := ⟨n - 1, by omega⟩
  simp [Builtin.clear_, run_underlying hu, zeroValue, typeInfo, hi, hz, h]
theorem snd_clr {ty el : TypeId} {i : TypeInfo} {z : Value} {zc : List SC} {szs : List Nat} {x : Operand} {ox : Od} {ds : List D} (ho : o.op = .call { callee := .builtin .clear, args := #[x], argTypes := #[ty] }) (hu : P.underlying ty = some (.slice el)) (hi : P.info? el = some i) (hz : i.zero = some z)
 (hc : u0b szs z.cells.toList = some zc) (hx : lowOd P ty x = some ox) (s : SimW G X σ a.tmps w O Im) (e1 : σ.toDs zc = some ds) (h3 : ds.length = i.size) (e2 : σ.clr i.size ds (σ.ev G ox).ur = some σ') :
 OkV ((execOp a.eval o).run P w) fun v w' => Post G X a.tmps σ O σ' .dead v w' := by
 have rx := (ud s hx).ur
 generalize hvx : a.eval x = vx at rx
 generalize (σ.ev G ox).ur = sx at rx e2
 obtain ⟨hds, hdl⟩ := z0u s (zw hc) e1
 have hzs : z.cells.size = ds.length := by
  have := (zw (h := w.heap) (Im := Im) (O := O) hc).len
  simp at this; omega
 unfold St.clr at e2
 split at e2
 ·cases e2
  have := rx.one_inv
  cases this with
  | nl _ a0 =>
   refine .inl ⟨.tuple #[], w, ?_, O, Im, s, .dead _, .inl ⟨rfl, fun _ h => h⟩⟩
   have := z2g (P := P) (ty := o.type) (c := 0) (ad := a0) hu hi hz (.inl ⟨rfl, rfl⟩ : (0 : Nat) = 0 ∧ w = w ∨ _)
   simp [execOp, ho, resolve, invoke, builtin, hvx, this]
 ·rename_i id off len
  split at e2
  ·rename_i s' rows hob
   split at e2
   ·rename_i hc2
    obtain ⟨rfl, hle⟩ := hc2
    simp only [Option.some.injEq] at e2
    obtain ⟨l, hl, hro, hown⟩ := s.obj id _ hob
    have rr := rx.one_inv
    by_cases h0 : len = 0
    ·subst h0
     have same : σ' = σ := by
      rw [← e2]
      simp only [List.replicate_zero, List.nil_append, Nat.add_zero, List.take_append_drop]
      cases σ; simp only [St.setO]; congr 1; funext u
      split
      ·subst u; exact hob.symm
      ·rfl
     rw [same]
     have hv : ∃ a0 c0, vx = .slice a0 0 c0 := by
      cases rr with
      | rd _ _ _ _ g1 _ => rw [g1] at hl; cases hl
      | r => exact ⟨_, _, rfl⟩
      | rn => exact ⟨_, _, rfl⟩
     obtain ⟨a0, c0, rfl⟩ := hv
     refine .inl ⟨.tuple #[], w, ?_, O, Im, s, .dead _, .inl ⟨rfl, fun _ h => h⟩⟩
     have := z2g (P := P) (ty := o.type) (c := c0) (ad := a0) hu hi hz (.inl ⟨rfl, rfl⟩ : (0 : Nat) = 0 ∧ w = w ∨ _)
     simp [execOp, ho, resolve, invoke, builtin, hvx, this]
    ·cases rr with
     | rd _ _ _ _ g1 _ => rw [g1] at hl; cases hl
     | rn => exact absurd rfl h0
     | r _ _ _ b cap sz' ad c g1 g2 g3 g4 =>
      rw [g1] at hl; cases hl
      cases hro with
      | arr _ _ _ _ _ cur tyc fr k1 k2 k3 k4 k5 k6 k7 k8 =>
       obtain rfl := k2 rfl
       obtain rfl := g4.resolve_right (by omega)
       have hzr := z3h (n := len) hds (by simpa using hzs)
       have hzl : (Builtin.zeroCells z.cells len).toList.length = len * i.size := by rw [Array.length_toList, size_zeroCells, hzs, h3]
       have hrep : ∀ r ∈ List.replicate len ds, r.length = i.size := fun r hr => by rw [List.eq_of_mem_replicate hr]; exact h3
       have hfl : (List.replicate len ds).flatten.length = len * i.size := by rw [wa hrep, List.length_replicate]
       have hone : ∀ u ∈ (Builtin.zeroCells z.cells len).toList, u.oneCell' = true := hzr.one (by rw [hzl, hfl])
       generalize hzz : (Builtin.zeroCells z.cells len).toList = zs at hzr hzl hone
       have hcl0 : cur.toList.length = cap * i.size := by simpa using k6
       have hoc : off * i.size + len * i.size ≤ cap * i.size := by rw [← Nat.add_mul]; exact Nat.mul_le_mul_right _ (by omega)
       have hst := run_storeCells_at P b (off * i.size) tyc zs 0 cur w k1 (by rw [hzl, k6]; simpa using hoc) hone
       simp only [Nat.add_zero] at hst
       generalize hc' : (cur.toList.take (off * i.size) ++ zs ++ cur.toList.drop (off * i.size + zs.length)) = c' at hst
       have hcl : c'.length = cur.size := by rw [← hc']; simp only [List.length_append, List.length_take, List.length_drop, Array.length_toList]; omega
       have hbim := (hown b (.inl rfl)).1
       have hk : ∀ q, q ≠ b → (w.setRow b c'.toArray).heap[q]? = w.heap[q]? := fun q hq => setRow_other w b q _ hq
       have m : Moves w.heap (w.setRow b c'.toArray).heap Im Im O O := ⟨fun _ h => h, fun q hq => hk q (fun e => hbim (e ▸ hq)), fun _ _ => .inl rfl⟩
       have hrows : ∀ r ∈ rows.take off ++ (List.replicate len ds ++ rows.drop (off + len)), r.length = i.size := fun r hr => by
        rcases List.mem_append.1 hr with hr | hr
        ·exact k3 r (List.mem_of_mem_take hr)
        ·rcases List.mem_append.1 hr with hr | hr
         ·exact hrep r hr
         ·exact k3 r (List.mem_of_mem_drop hr)
       have hrel : RelCs w.heap Im (rows.take off ++ (List.replicate len ds ++ rows.drop (off + len))).flatten c' [] := by
        have h1 : RelCs w.heap Im (rows.take off).flatten (cur.toList.take (off * i.size)) [] := by
         rw [← xp k3]; exact (k7.take _).take2 _ (by rw [List.length_take]; omega)
        have h1l : (cur.toList.take (off * i.size)).length = (rows.take off).flatten.length := by
         rw [← xp k3, List.length_take, List.length_take, wa k3, hcl0]
         have := Nat.mul_le_mul_right i.size (show off ≤ rows.length by omega)
         have := Nat.mul_le_mul_right i.size k4
         omega
        have h2 : RelCs w.heap Im (rows.drop (off + len)).flatten (cur.toList.drop (off * i.size + zs.length)) [] := by
         rw [← xx k3, Nat.add_mul, hzl]; exact k7.drop _
        have h3' := wx (rest := []) hzr (by rw [hzl, hfl]) h2
        have h4 := wx (rest := []) h1 h1l h3'
        simp only [List.append_nil] at h4
        rw [List.flatten_append, List.flatten_append, ← hc', List.append_assoc]
        exact h4
       refine .inl ⟨.tuple #[], w.setRow b c'.toArray, ?_, O, Im, ?_, .dead _, .inl ⟨by rw [← e2]; rfl, fun _ h => h⟩⟩
       ·have := z2g (P := P) (ty := o.type) (c := c) (w' := w.setRow b c'.toArray) hu hi hz (.inr ⟨h0, _, rfl, by rw [hzz]; exact hst⟩)
        simp [execOp, ho, resolve, invoke, builtin, hvx, this]
       ·rw [← e2]
        refine s.write (o := .arr i.size rows false) (b := b) hob g1 (.inl rfl) (by exact fun _ => Iff.rfl) rfl rfl rfl (by simp) hk ?_
        exact .arr i.size _ false b cap c'.toArray tyc (0, 0) (setRow_heap w b cur _ tyc (0, 0) k1) (fun _ => rfl) hrows (by simp; omega) k5 (by simp [hcl, k6]) (by simpa using hrel.moves m) k8
   ·cases e2
  ·cases e2
 ·cases e2
theorem snd_cap {ty el : TypeId} {x : Operand} {ox : Od} {n : Nat} (ho : o.op = .call { callee := .builtin .cap, args := #[x], argTypes := #[ty] }) (hu : P.underlying ty = some (.slice el)) (hx : lowOd P ty x = some ox)
 (s : SimW G X σ a.tmps w O Im) (e : σ.capV (σ.ev G ox) = some n) : OkV ((execOp a.eval o).run P w) fun v w' => Post G X a.tmps σ O σ (.one (.d (.i .i64 n))) v w' := by
 have rx := ud s hx
 unfold St.capV at e
 split at e
 ·rename_i sz he
  cases e
  rw [he] at rx
  have := rx.one_inv
  generalize hvx : a.eval x = vx at rx this
  cases this with
  | nl _ a0 =>
   refine OkV.val s (v := .int .i64 (0 : Nat)) ?_ (.dd (.i _ _))
   simp [execOp, ho, resolve, invoke, builtin, Builtin.cap_, hvx, run_underlying hu, goInt]
 ·rename_i id off len cp he
  split at e
  ·rename_i hal
   cases e
   obtain ⟨ob, hob⟩ := Option.isSome_iff_exists.1 hal
   obtain ⟨l, hl, _⟩ := s.obj id _ hob
   rw [he] at rx
   have := rx.one_inv
   generalize hvx : a.eval x = vx at rx this
   cases this with
   | rcd _ _ _ _ _ g1 _ => rw [g1] at hl; cases hl
   | rcn _ cap sz a0 g1 =>
    refine OkV.val s (v := .int .i64 (0 : Nat)) ?_ (.dd (.i _ _))
    simp [execOp, ho, resolve, invoke, builtin, Builtin.cap_, hvx, run_underlying hu, goInt]
   | rc _ _ _ _ b cap sz ad g1 g2 g3 g4 =>
    refine OkV.val s (v := .int .i64 (n : Nat)) ?_ (.dd (.i _ _))
    simp [execOp, ho, resolve, invoke, builtin, Builtin.cap_, hvx, run_underlying hu, goInt]
  ·cases e
 ·cases e
theorem x1f {sz m b of n c : Nat} {cs : Array Value} {e : TypeId} {fr : Nat × Nat} (hb : w.heap[b]? = some (.cells cs e fr)) (hl : (of + m * sz) ≤ cs.size) :
 (Builtin.firstCells sz m (.slice (some ⟨b, of, none⟩) n c)).run P w = .ok ((cs.toList.drop of).take (m * sz)).toArray w :=
 run_firstCells_some (P := P) (w := w) sz m ⟨b, of, none⟩ n c _ (by simp; omega) (fun j u hu => by rw [Addr.add_lit]; exact ws hb j u hu)
theorem w5c {ty tn el : TypeId} {kn : IntKind} {i : TypeInfo} {z : Value} {zc : List SC} {szs : List Nat} {x y : Operand} {ox oy : Od} {ds : List D} {l : Int} {rows : List (List D)} (ho : o.op = .call { callee := .builtin .append, args := #[x, y], argTypes := #[ty, tn] }) (hu : P.underlying ty = some (.slice el)) (htn : P.underlying tn = some (.int kn)) (hi : P.info? el = some i) (hz : i.zero = some z) (hp : 0 < i.size)
 (hc : u0b szs z.cells.toList = some zc) (hx : lowOd P ty x = some ox) (hy : lowOd P tn y = some oy) (s : SimW G X σ a.tmps w O Im) (hf : O σ.next = .free) (e1 : asInt (σ.ev G oy) = some l) (e2 : σ.toDs zc = some ds) (h0 : 0 < l) (h3 : ds.length = i.size) (e0 : σ.appz i.size i.bytes ds l.toNat (σ.ev G ox) = some rows) :
 OkV ((execOp a.eval o).run P w) fun v w' => Post G X a.tmps σ O (σ.new (.arr i.size rows false)) (.one (.r σ.next 0 rows.length)) v w' := by
 obtain ⟨k, hk, _⟩ := v0s (ud s hy) e1
 obtain ⟨n, rfl⟩ : ∃ n : Nat, l = n := ⟨l.toNat, by omega⟩
 simp only [Int.toNat_natCast] at e0
 have hn0 : 0 < n := by omega
 have rx := ud s hx
 obtain ⟨hds, hdl⟩ := z0u s (zw hc) e2
 have hzs : z.cells.size = ds.length := by
  have := (zw (h := w.heap) (Im := Im) (O := O) hc).len
  simp at this; omega
 -- what stood there
 obtain ⟨a0, m, cp, olds, oldv, hvx, rfl, hcp, hfit, hol, holdl, hov, hrun0⟩ : ∃ (a0 : Option Addr) (m cp : Nat) (olds : List (List D)) (oldv : List Value), a.eval x = .slice a0 m cp ∧ rows = olds ++ List.replicate n ds ∧ cp < m + n ∧ fits i.bytes (m + n) ∧ olds.length = m ∧ (∀ r ∈ olds, r.length = i.size) ∧ (RelCs w.heap Im olds.flatten oldv [] ∧ oldv.length = m * i.size) ∧
  (Builtin.firstCells i.size m (.slice a0 m cp)).run P w.drew = .ok oldv.toArray w.drew := by
  unfold St.appz at e0
  split at e0
  ·rename_i sz he
   split at e0
   ·rename_i hfit
    cases e0
    rw [he] at rx
    have := rx.one_inv
    generalize a.eval x = vx at this
    cases this with
    | nl _ a0 => exact ⟨a0, 0, 0, [], [], rfl, by simp, by omega, by simpa using hfit, rfl, by simp, ⟨.nil _, by simp⟩, y0o (by simp) (.inl rfl)⟩
   ·cases e0
  ·rename_i id off len cp he
   split at e0
   ·rename_i s' rw0 fz hob
    split at e0
    ·rename_i hcc
     obtain ⟨⟨rfl, hle, hcp⟩, hfit⟩ := hcc
     cases e0
     obtain ⟨l, hl, hro, _⟩ := s.obj id _ hob
     rw [he] at rx
     have := rx.one_inv
     generalize a.eval x = vx at this
     cases this with
     | rcd _ _ _ _ _ g1 _ => rw [g1] at hl; cases hl
     | rcn _ cap sz a0 g1 => exact ⟨a0, 0, 0, [], [], rfl, by simp, by omega, by simpa using hfit, rfl, by simp, ⟨.nil _, by simp⟩, y0o (by simp) (.inl rfl)⟩
     | rc _ _ _ _ b cap sz ad g1 g2 g3 g4 =>
      rw [g1] at hl; cases hl
      cases hro with
      | arr _ _ _ _ _ cur tyc fr k1 k2 k3 k4 k5 k6 k7 k8 =>
       have hml : ((rw0.drop off).take len).length = len := by simp; omega
       have hu' : ∀ r ∈ rw0.drop off, r.length = i.size := fun r hr => k3 r (List.mem_of_mem_drop hr)
       by_cases hl0 : len = 0
       ·subst hl0
        exact ⟨_, 0, cp, [], [], rfl, by simp, by omega, by simpa using hfit, rfl, by simp, ⟨.nil _, by simp⟩, y0o (by simp) (.inl rfl)⟩
       ·obtain rfl := g4.resolve_right (by omega)
        have hsz : off * i.size + len * i.size ≤ cur.size := by rw [k6, ← Nat.add_mul]; exact Nat.mul_le_mul_right _ (by omega)
        refine ⟨_, len, cp, (rw0.drop off).take len, (cur.toList.drop (off * i.size)).take (len * i.size), rfl, rfl, hcp, hfit, hml, fun r hr => hu' r (List.mem_of_mem_take hr), ⟨?_, ?_⟩, x1f (w := w.drew) k1 hsz⟩
        ·rw [← xp hu' len, ← xx k3 off]
         exact ((k7.drop _).take _).take2 _ (by simp; omega)
        ·simp; omega
    ·cases e0
   ·cases e0
  ·cases e0
 have hrl : (olds ++ List.replicate n ds).length = m + n := by simp [hol]
 have h63 : ((m + n : Nat) : Int) ≤ 9223372036854775807 := by have := hfit.2; simp only [maxLen] at this; omega
 have hb := hfit.1
 have hnb : n * i.bytes ≤ (m + n) * i.bytes := Nat.mul_le_mul_right _ (by omega)
 have hrun := Go.Lib.run_append_grow_zeros (P := P) w ty tn o.type el i z k kn hu htn hi hz a0 m cp oldv hrun0 n hn0 hp hcp h63 (by omega) (growslice_fits hcp hb)
 have hge := grownCap_ge w (m + n) cp el
 have hle := grownCap_le_maxLen w (m + n) cp el hfit.2
 have hrows : ∀ r ∈ olds ++ List.replicate n ds, r.length = i.size := fun r hr => by
  rcases List.mem_append.1 hr with hr | hr
  ·exact holdl r hr
  ·rw [List.eq_of_mem_replicate hr]; exact h3
 obtain ⟨g1, g2⟩ := Post.fresh_arr (len := m + n) (e := el) s hf (rows := olds ++ List.replicate n ds) (c := oldv.toArray ++ Builtin.zeroCells z.cells n ++ Builtin.zeroCells z.cells (grownCap w (m + n) cp el - (m + n))) hrows (by rw [hrl]; exact hge) hle
  (by
    simp only [Array.size_append, size_zeroCells, hzs, h3, List.size_toArray, hov.2, ← Nat.add_mul]; congr 1; omega)
  (by
    have hr := z3h (n := n) hds (by simpa using hzs)
    have h2 := wx (rest := (Builtin.zeroCells z.cells (grownCap w (m + n) cp el - (m + n))).toList) hov.1 (by rw [hov.2, wa holdl, hol]) hr
    rw [List.flatten_append]
    simpa [Array.toList_append] using h2) (w1 := w.drew) rfl (s.drawn _) (σ' := σ.new (.arr i.size (olds ++ List.replicate n ds) false)) rfl (by funext u; simp [St.new, upd])
 refine .inl ⟨_, _, ?_, _, Im, g1, by rw [hrl]; exact g2 (by rw [hrl]), .inr ⟨rfl, fun u hu h => by rw [yf _ _ _ _ hu]; exact h⟩⟩
 simp [execOp, ho, resolve, invoke, builtin, hvx, hk, hrun]
theorem x5e {ty t el : TypeId} {i : TypeInfo} (hu : P.underlying t = some (.slice el)) (hi : P.info? el = some i) {ad bd : Option Addr} {n c m q : Nat} {w' : World} {nv : List Value}
 (hf : (Builtin.firstCells i.size (min m n) (.slice bd m q)).run P w = .ok nv.toArray w) (hst : ∀ b, ad = some b → (storeCells b nv).run P w = .ok () w') (hn : ad = none → w' = w) :
 (Builtin.copy_ #[t, t] ty #[.slice ad n c, .slice bd m q]).run P w = .ok (.int .i64 (min m n : Nat)) w' := by
 have hm : Nat.min m n = min m n := rfl
 cases ad with
 | none => have := hn rfl; subst this; simp [Builtin.copy_, run_underlying hu, Builtin.lenOf, sizeOf, typeInfo, hi, hm, hf, goInt]
 | some b => simp [Builtin.copy_, run_underlying hu, Builtin.lenOf, sizeOf, typeInfo, hi, hm, hf, hst b rfl, goInt]
theorem x4u (s : SimW G X σ a.tmps w O Im) {sz k : Nat} {sv : SV} {v : Value} {ys : List (List D)} (r : RelV w.heap Im O sv v) (e : σ.srcOf sz k sv = some ys) :
 (∀ r ∈ ys, r.length = sz) ∧ ys.length = k ∧ ∃ bd q nv, v = .slice bd (lenS sv) q ∧ RelCs w.heap Im ys.flatten nv [] ∧ nv.length = k * sz ∧ (Builtin.firstCells sz k (.slice bd (lenS sv) q)).run P w = .ok nv.toArray w := by
 unfold St.srcOf at e
 split at e
 ·rename_i id off len
  split at e
  ·rename_i s' rows fz hob
   split at e
   ·rename_i hc
    obtain ⟨rfl, hk, hle⟩ := hc
    cases e
    obtain ⟨l, hl, hro, _⟩ := s.obj id _ hob
    have hlen : ((rows.drop off).take k).length = k := by simp; omega
    cases r.one_inv with
    | rd _ _ _ _ g1 _ => rw [g1] at hl; cases hl
    | rn _ cap sz a0 g1 =>
     rw [g1] at hl; cases hl
     cases hro with
     | an =>
      obtain rfl : k = 0 := by simpa using hle
      exact ⟨by simp, by simp, a0, 0, [], rfl, .nil _, by simp, y0o (by simp) (.inl rfl)⟩
    | r _ _ _ b cap sz ad c g1 g2 g3 g4 =>
     rw [g1] at hl; cases hl
     cases hro with
     | arr _ _ _ _ _ cur tyc fr k1 k2 k3 k4 k5 k6 k7 k8 =>
      have hu' : ∀ r ∈ rows.drop off, r.length = s' := fun r hr => k3 r (List.mem_of_mem_drop hr)
      by_cases hk0 : k = 0
      ·subst hk0
       refine ⟨by simp, by simp, some ad, c, [], rfl, by simpa using RelCs.nil (h := w.heap) (Im := Im) [], by simp, ?_⟩
       exact run_firstCells_some (P := P) (w := w) s' 0 ad len c [] (by simp) (by simp)
      ·obtain rfl := g4.resolve_right (by omega)
       have hsz : off * s' + k * s' ≤ cur.size := by rw [k6, ← Nat.add_mul]; exact Nat.mul_le_mul_right _ (by omega)
       refine ⟨fun r hr => hu' r (List.mem_of_mem_take hr), hlen, _, c, (cur.toList.drop (off * s')).take (k * s'), rfl, ?_, by simp; omega, x1f k1 hsz⟩
       rw [← xp hu' k, ← xx k3 off]
       exact ((k7.drop _).take _).take2 _ (by simp; omega)
   ·cases e
  ·cases e
 ·cases e
theorem snd_cpy {ty el : TypeId} {i : TypeInfo} {x y : Operand} {ox oy : Od} {n : Nat} (ho : o.op = .call { callee := .builtin .copy, args := #[x, y], argTypes := #[ty, ty] }) (hu : P.underlying ty = some (.slice el)) (hi : P.info? el = some i)
 (hx : lowOd P ty x = some ox) (hy : lowOd P ty y = some oy) (s : SimW G X σ a.tmps w O Im) (e : σ.cpy i.size (σ.ev G oy).ur (σ.ev G ox).ur = some (σ', n)) :
 OkV ((execOp a.eval o).run P w) fun v w' => Post G X a.tmps σ O σ' (.one (.d (.i .i64 (n : Int)))) v w' := by
 have rx := (ud s hx).ur
 have ry := (ud s hy).ur
 generalize hvx : a.eval x = vx at rx
 generalize hvy : a.eval y = vy at ry
 generalize (σ.ev G ox).ur = sx at rx e
 generalize (σ.ev G oy).ur = sy at ry e
 unfold St.cpy at e
 split at e
 ·rename_i id off len
  split at e
  ·rename_i s' rows hob
   split at e
   ·rename_i hc
    obtain ⟨rfl, hoff⟩ := hc
    simp only [Option.map_eq_some_iff, Prod.mk.injEq] at e
    obtain ⟨ys, hys, e2, rfl⟩ := e
    obtain ⟨hyu, hyl, bd, q, zs, rfl, hzr, hzl, hfc⟩ := x4u (P := P) s ry hys
    generalize hm : lenS sy = m at *
    generalize hk : min m len = k at *
    obtain ⟨l, hl, hro, hown⟩ := s.obj id _ hob
    have rr := rx.one_inv
    have fin : ∀ {ad : Option Addr} {c : Nat} {w' : World}, vx = .slice ad len c → (∀ b, ad = some b → (storeCells b zs).run P w = .ok () w') → (ad = none → w' = w) → SimW G X σ' a.tmps w' O Im → σ'.next = σ.next →
     OkV ((execOp a.eval o).run P w) fun v w' => Post G X a.tmps σ O σ' (.one (.d (.i .i64 (k : Int)))) v w' := by
     intro ad c w' h1 h2 h3 h4 h5
     subst h1
     have hr := x5e (P := P) (ty := o.type) (c := c) (q := q) (bd := bd) (m := m) (n := len) hu hi (by rw [hk]; exact hfc) h2 h3
     rw [hk] at hr
     refine .inl ⟨.int .i64 k, w', ?_, O, Im, h4, .dd (.i _ _), .inl ⟨h5, fun _ h => h⟩⟩
     simp [execOp, ho, resolve, invoke, builtin, hvx, hvy, hr]
    by_cases h0 : k = 0
    ·have same : σ' = σ := by
      have : ys = [] := List.eq_nil_of_length_eq_zero (by omega)
      rw [← e2, this, h0]
      simp only [List.nil_append, Nat.add_zero, List.take_append_drop]
      cases σ; simp only [St.setO]; congr 1; funext u
      split
      ·subst u; exact hob.symm
      ·rfl
     have hz0 : zs = [] := List.eq_nil_of_length_eq_zero (by rw [hzl, h0]; simp)
     subst hz0
     rw [same]
     have hs0 : ∀ b : Addr, (storeCells b []).run P w = .ok () w := fun b => by simp [storeCells]
     rw [same] at fin
     cases rr with
     | rd _ _ _ _ g1 _ => rw [g1] at hl; cases hl
     | r => exact fin rfl (fun b _ => hs0 b) (fun _ => rfl) s rfl
     | rn => exact fin rfl (fun b _ => hs0 b) (fun _ => rfl) s rfl
    ·cases rr with
     | rd _ _ _ _ g1 _ => rw [g1] at hl; cases hl
     | rn => simp at hk; omega
     | r _ _ _ b cap sz' ad c g1 g2 g3 g4 =>
      rw [g1] at hl; cases hl
      cases hro with
      | arr _ _ _ _ _ cur tyc fr k1 k2 k3 k4 k5 k6 k7 k8 =>
       obtain rfl := k2 rfl
       have hkl : k ≤ len := by omega
       obtain rfl := g4.resolve_right (by omega)
       have hone : ∀ u ∈ zs, u.oneCell' = true := hzr.one (by rw [hzl, wa hyu, hyl])
       have hcl0 : cur.toList.length = cap * i.size := by simpa using k6
       have hoc : off * i.size + k * i.size ≤ cap * i.size := by rw [← Nat.add_mul]; exact Nat.mul_le_mul_right _ (by omega)
       have hst := run_storeCells_at P b (off * i.size) tyc zs 0 cur w k1 (by rw [hzl, k6]; simpa using hoc) hone
       simp only [Nat.add_zero] at hst
       generalize hc' : (cur.toList.take (off * i.size) ++ zs ++ cur.toList.drop (off * i.size + zs.length)) = c' at hst
       have hcl : c'.length = cur.size := by rw [← hc']; simp only [List.length_append, List.length_take, List.length_drop, Array.length_toList]; omega
       have hbim := (hown b (.inl rfl)).1
       have hk' : ∀ q, q ≠ b → (w.setRow b c'.toArray).heap[q]? = w.heap[q]? := fun q hq => setRow_other w b q _ hq
       have mv : Moves w.heap (w.setRow b c'.toArray).heap Im Im O O := ⟨fun _ h => h, fun q hq => hk' q (fun e => hbim (e ▸ hq)), fun _ _ => .inl rfl⟩
       have hrows : ∀ r ∈ rows.take off ++ (ys ++ rows.drop (off + k)), r.length = i.size := fun r hr => by
        rcases List.mem_append.1 hr with hr | hr
        ·exact k3 r (List.mem_of_mem_take hr)
        ·rcases List.mem_append.1 hr with hr | hr
         ·exact hyu r hr
         ·exact k3 r (List.mem_of_mem_drop hr)
       have hrel : RelCs w.heap Im (rows.take off ++ (ys ++ rows.drop (off + k))).flatten c' [] := by
        have h1 : RelCs w.heap Im (rows.take off).flatten (cur.toList.take (off * i.size)) [] := by
         rw [← xp k3]; exact (k7.take _).take2 _ (by rw [List.length_take]; omega)
        have h1l : (cur.toList.take (off * i.size)).length = (rows.take off).flatten.length := by
         rw [← xp k3, List.length_take, List.length_take, wa k3, hcl0]
         have := Nat.mul_le_mul_right i.size hoff
         have := Nat.mul_le_mul_right i.size k4
         omega
        have h2 : RelCs w.heap Im (rows.drop (off + k)).flatten (cur.toList.drop (off * i.size + zs.length)) [] := by
         rw [← xx k3, Nat.add_mul, hzl]; exact k7.drop _
        have h3' := wx (rest := []) hzr (by rw [hzl, wa hyu, hyl]) h2
        have h4 := wx (rest := []) h1 h1l h3'
        simp only [List.append_nil] at h4
        rw [List.flatten_append, List.flatten_append, ← hc', List.append_assoc]
        exact h4
       refine fin rfl (fun b' hb' => by cases hb'; exact hst) (fun h => by cases h) ?_ (by rw [← e2]; rfl)
       rw [← e2]
       refine s.write (o := .arr i.size rows false) (b := b) hob g1 (.inl rfl) (by exact fun _ => Iff.rfl) rfl rfl rfl (by simp) hk' ?_
       exact .arr i.size _ false b cap c'.toArray tyc (0, 0) (setRow_heap w b cur _ tyc (0, 0) k1) (fun _ => rfl) hrows (by simp; omega) k5 (by simp [hcl, k6]) (by simpa using hrel.moves mv) k8
   ·cases e
  ·cases e
 ·cases e
end
section
variable {P : Program} {G : Nat → Option (List D)} {X : Ctx} {σ σ' : St} {sv : SV} {a : Act} {w : World} {O : Nat → LS} {Im : Nat → Prop} {o : Oper}

theorem w3g {t : TypeId} {b : ByteArray} {lo hi : Option Value} {l h : Int} (hu : P.underlying t = some .string)
 (hlo : (lo = none ∧ l = 0) ∨ ∃ k, lo = some (.int k l)) (hhi : (hi = none ∧ h = b.size) ∨ ∃ k, hi = some (.int k h)) (h0 : 0 ≤ l) (h1 : l ≤ h) (h2 : h ≤ b.size) :
 (Instr.sliceAt t (.string b) lo hi none).run P w = .ok (.string (b.extract l.toNat h.toNat)) w := by
 have g1 : ∀ k, (Instr.sliceBound (.int k h) b.size .sliceAlen).run P w = .ok h.toNat w := fun k => run_sliceBound (P := P) w k h b.size .sliceAlen (by omega) (by omega)
 have g2 : ∀ k, (Instr.sliceBound (.int k l) h.toNat .sliceB).run P w = .ok l.toNat w := fun k => run_sliceBound (P := P) w k l h.toNat .sliceB (by omega) (by omega)
 have g3 : ∀ k, h = b.size → (Instr.sliceBound (.int k l) b.size .sliceB).run P w = .ok l.toNat w := fun k e => run_sliceBound (P := P) w k l b.size .sliceB (by omega) (by omega)
 rcases hlo with ⟨rfl, rfl⟩ | ⟨kl, rfl⟩
 ·rcases hhi with ⟨rfl, rfl⟩ | ⟨kh, rfl⟩
  ·simp [Instr.sliceAt, Instr.slice, run_underlying hu, Instr.sliceBounds]
  ·simp [Instr.sliceAt, Instr.slice, run_underlying hu, Instr.sliceBounds, g1]
 ·rcases hhi with ⟨rfl, rfl⟩ | ⟨kh, rfl⟩
  ·simp [Instr.sliceAt, Instr.slice, run_underlying hu, Instr.sliceBounds, g3 kl rfl]
  ·simp [Instr.sliceAt, Instr.slice, run_underlying hu, Instr.sliceBounds, g1, g2]
theorem snd_sls {ty : TypeId} {x : Operand} {lo hi : Option Operand} {ox : Od} {ol oh : Option Od} {rl rh : Option Int} {b : ByteArray} (ho : o.op = .slice ty x lo hi none) (hu : P.underlying ty = some .string)
 (hx : lowOd P ty x = some ox) (hl : u0h P lo = some ol) (hh : u0h P hi = some oh) (s : SimW G X σ a.tmps w O Im) (e0 : asStr (σ.ev G ox) = some b) (e1 : optI G σ ol = some rl) (e2 : optI G σ oh = some rh) (h0 : 0 ≤ rl.getD 0) (h1 : rl.getD 0 ≤ rh.getD b.size) (h2 : rh.getD b.size ≤ b.size) :
 OkV ((execOp a.eval o).run P w) fun v w' => Post G X a.tmps σ O σ (.one (.d (.s (b.extract (rl.getD 0).toNat (rh.getD b.size).toNat)))) v w' := by
 have hk := w1z (ud s hx) e0
 have hrun := w3g (P := P) (w := w) hu (x0e s hl e1 0) (x0e s hh e2 b.size) h0 h1 h2
 refine OkV.val s (v := .string (b.extract (rl.getD 0).toNat (rh.getD b.size).toNat)) ?_ (.dd (.s _))
 simp [execOp, ho, hk, hrun]

theorem u5b {mx : Bool} {x y : Operand} {ox oy : Od} {t u : TypeId} {sv' : SV} (ho : o.op = .call { callee := .builtin (if mx = true then .max else .min), args := #[x, y], argTypes := #[t, u] }) (hx : lowOd P t x = some ox) (hy : lowOd P u y = some oy)
 (s : SimW G X σ a.tmps w O Im) (e : mmV mx (σ.ev G ox) (σ.ev G oy) = some sv') : OkV ((execOp a.eval o).run P w) fun v w' => Post G X a.tmps σ O σ sv' v w' := by
 have rx := ud s hx
 have ry := ud s hy
 generalize σ.ev G ox = sx at *
 generalize σ.ev G oy = sy at *
 generalize hvx : a.eval x = vx at *
 generalize hvy : a.eval y = vy at *
 unfold mmV at e
 split at e
 ·rename_i k m k' n
  cases e
  have h1 := rx.one_inv.d_inv
  have h2 := ry.one_inv.d_inv
  cases h1; cases h2
  refine OkV.val s (v := .int k (if mx = true then (if n > m then n else m) else (if n < m then n else m))) ?_ (.dd (.i _ _))
  cases mx <;> simp [execOp, ho, resolve, invoke, builtin, hvx, hvy, Builtin.max_, Builtin.min_, Builtin.max2, Builtin.min2]
 ·cases e
theorem z2a {vop : VOp} (hl : lowOp P o = some vop) (s : SimW G X σ a.tmps w O Im) (hf : O σ.next = .free) (e : stepF G vop σ = some (σ', sv)) :
 OkV ((execOp a.eval o).run P w) fun v w' => Post G X a.tmps σ O σ' sv v w' := by
 unfold lowOp at hl
 split at hl
 case h_1 x hop =>
  simp only [Option.map_eq_some_iff] at hl
  obtain ⟨od, h1, rfl⟩ := hl
  simp only [stepF, Option.some.injEq, Prod.mk.injEq] at e; obtain ⟨rfl, rfl⟩ := e
  exact v5b (.inl hop) h1 s
 case h_2 x hop =>
  simp only [Option.map_eq_some_iff] at hl
  obtain ⟨od, h1, rfl⟩ := hl
  simp only [stepF, Option.some.injEq, Prod.mk.injEq] at e; obtain ⟨rfl, rfl⟩ := e
  exact v5b (.inr hop) h1 s
 case h_3 c x y hop =>
  simp only [Option.map_eq_some_iff, Option.bind_eq_some_iff] at hl
  obtain ⟨oc, h1, ox, h2, oy, h3, rfl⟩ := hl
  simp only [stepF, Option.map_eq_some_iff, Prod.mk.injEq] at e; obtain ⟨t, e, rfl, rfl⟩ := e
  exact w5b hop h1 h2 h3 s e
 case h_4 el hop =>
  split at hl
  ·rename_i z hz
   split at hl
   ·cases hl; cases e
   simp only [Option.map_eq_some_iff, Option.bind_eq_some_iff] at hl hz
   obtain ⟨zc, h1, rfl⟩ := hl
   obtain ⟨i, hi, hz⟩ := hz
   simp only [stepF, Option.some.injEq, Prod.mk.injEq] at e; obtain ⟨rfl, rfl⟩ := e
   exact v4u hop hi hz h1 s hf
  ·cases hl
 case h_5 el x hop =>
  simp only [Option.map_eq_some_iff] at hl
  obtain ⟨od, h1, rfl⟩ := hl
  simp only [stepF, Option.bind_eq_some_iff] at e
  obtain ⟨cs, e1, e⟩ := e
  split at e
  ·simp only [Option.some.injEq, Prod.mk.injEq] at e; obtain ⟨rfl, rfl⟩ := e
   exact snd_box hop h1 s hf e1
  ·cases e
 case h_6 t x hop =>
  split at hl
  ·rename_i hc
   simp only [Bool.and_eq_true, Bool.or_eq_true, beq_iff_eq, Option.isSome_iff_exists] at hc
   simp only [Option.map_eq_some_iff] at hl
   obtain ⟨od, h1, rfl⟩ := hl
   simp only [stepF, Option.bind_eq_some_iff, Option.map_eq_some_iff, Prod.mk.injEq] at e
   obtain ⟨p, e1, cs, e2, v, e3, rfl, rfl⟩ := e
   exact snd_ld hop rfl rfl hc.1 h1 s e1 e2 e3 hc.2
  ·cases hl
 case h_7 t x y hop =>
  split at hl
  ·rename_i hc
   simp only [Option.isSome_iff_exists] at hc
   simp only [Option.map_eq_some_iff, Option.bind_eq_some_iff] at hl
   obtain ⟨ox, h1, oy, h2, rfl⟩ := hl
   simp only [stepF, Option.bind_eq_some_iff] at e
   obtain ⟨p, e1, cs, e2, e⟩ := e
   split at e
   ·simp only [Option.map_eq_some_iff, Prod.mk.injEq] at e
    obtain ⟨σ'', e3, rfl, rfl⟩ := e
    exact snd_st hop rfl hc h1 h2 s e1 e2 (by assumption) e3
   ·cases e
  ·cases hl
 case h_8 t x k hop =>
  split at hl
  ·rename_i fs hu
   split at hl
   ·rename_i f hf'
    split at hl
    ·cases hl
    ·rename_i hz
     simp only [Option.map_eq_some_iff] at hl
     obtain ⟨od, h1, rfl⟩ := hl
     simp only [stepF, Option.bind_eq_some_iff] at e
     obtain ⟨p, e1, e⟩ := e
     split at e
     ·simp only [Option.some.injEq, Prod.mk.injEq] at e; obtain ⟨rfl, rfl⟩ := e
      exact snd_fa hop hu hf' hz h1 s e1 (by assumption)
     ·cases e
   ·cases hl
  ·cases hl
 case h_9 t x k hop =>
  split at hl
  ·rename_i fs hu
   split at hl
   ·rename_i f hf'
    split at hl
    ·rename_i hc
     simp only [Bool.and_eq_true, Bool.or_eq_true, beq_iff_eq, Option.isSome_iff_exists] at hc
     simp only [Option.map_eq_some_iff] at hl
     obtain ⟨od, h1, rfl⟩ := hl
     simp only [stepF, Option.bind_eq_some_iff] at e
     obtain ⟨cs, e1, e⟩ := e
     split at e
     ·simp only [Option.map_eq_some_iff, Prod.mk.injEq] at e; obtain ⟨v, e2, rfl, rfl⟩ := e
      exact snd_fl hop hu hf' rfl rfl hc.1 h1 s e1 (by assumption) e2 hc.2
     ·cases e
    ·cases hl
   ·cases hl
  ·cases hl
 case h_10 t x y hop =>
  split at hl
  ·rename_i el hu
   split at hl
   ·rename_i hc
    simp only [Option.isSome_iff_exists] at hc
    simp only [Option.map_eq_some_iff, Option.bind_eq_some_iff] at hl
    obtain ⟨ox, h1, oy, h2, rfl⟩ := hl
    simp only [stepF, Option.bind_eq_some_iff, Option.map_eq_some_iff, Prod.mk.injEq] at e
    obtain ⟨n, e1, v, e2, rfl, rfl⟩ := e
    exact snd_ia hop hu rfl hc h1 h2 s e1 e2
   ·cases hl
  ·rename_i m el hu
   split at hl
   ·rename_i hc
    simp only [Option.isSome_iff_exists] at hc
    simp only [Option.map_eq_some_iff, Option.bind_eq_some_iff] at hl
    obtain ⟨ox, h1, oy, h2, rfl⟩ := hl
    simp only [stepF, Option.bind_eq_some_iff, Option.map_eq_some_iff, Prod.mk.injEq] at e
    obtain ⟨n, e1, v, e2, rfl, rfl⟩ := e
    exact snd_iaa hop hu rfl hc h1 h2 s e1 e2
   ·cases hl
  ·cases hl
 case h_11 t x y hop =>
  split at hl
  ·rename_i hu
   simp only [Option.map_eq_some_iff, Option.bind_eq_some_iff] at hl
   obtain ⟨ox, h1, oy, h2, rfl⟩ := hl
   simp only [stepF, Option.bind_eq_some_iff] at e
   obtain ⟨n, e1, b, e2, e⟩ := e
   split at e
   ·rename_i hc
    simp only [Option.some.injEq, Prod.mk.injEq] at e; obtain ⟨rfl, rfl⟩ := e
    exact snd_ix hop hu h1 h2 s e1 e2 hc.1 hc.2
   ·cases e
  ·cases hl
 case h_12 t x lo hi mx hop =>
  split at hl
  ·rename_i el hu
   split at hl
   ·rename_i hc
    simp only [Option.isSome_iff_exists] at hc
    split at hl
    ·simp only [Option.map_eq_some_iff, Option.bind_eq_some_iff] at hl
     obtain ⟨ox, h1, ol, h2, oh, h3, rfl⟩ := hl
     simp only [stepF, Option.bind_eq_some_iff, Option.map_eq_some_iff, Prod.mk.injEq] at e
     obtain ⟨l, e1, h, e2, v, e3, rfl, rfl⟩ := e
     exact snd_sl hop hu rfl hc h1 h2 h3 s e1 e2 e3
    ·simp only [Option.map_eq_some_iff, Option.bind_eq_some_iff] at hl
     obtain ⟨ox, h1, ol, h2, oh, h3, om, h4, rfl⟩ := hl
     simp only [stepF, Option.bind_eq_some_iff, Option.map_eq_some_iff, Prod.mk.injEq] at e
     obtain ⟨l, e1, h, e2, m, e3, v, e4, rfl, rfl⟩ := e
     exact snd_sl3 hop hu rfl hc h1 h2 h3 h4 s e1 e2 e3 e4
    ·cases hl
   ·cases hl
  ·rename_i hu
   split at hl
   ·cases hl
   ·rename_i hc
    simp only [Option.isSome_iff_exists, not_exists, Bool.not_eq_true] at hc
    obtain rfl : mx = none := by cases mx with | none => rfl | some v => exact absurd rfl (hc v)
    simp only [Option.map_eq_some_iff, Option.bind_eq_some_iff] at hl
    obtain ⟨ox, h1, ol, h2, oh, h3, rfl⟩ := hl
    simp only [stepF, Option.bind_eq_some_iff] at e
    obtain ⟨b, e1, l, e2, h, e3, e⟩ := e
    split at e
    ·rename_i hc2
     simp only [Option.some.injEq, Prod.mk.injEq] at e; obtain ⟨rfl, rfl⟩ := e
     exact snd_sls hop hu h1 h2 h3 s e1 e2 e3 hc2.1 hc2.2.1 hc2.2.2
    ·cases e
  ·rename_i m el hu
   split at hl
   ·cases hl
   ·rename_i hc
    simp only [Option.isSome_iff_exists, not_exists, Bool.not_eq_true] at hc
    obtain rfl : mx = none := by cases mx with | none => rfl | some v => exact absurd rfl (hc v)
    split at hl
    ·rename_i hi
     simp only [Option.map_eq_some_iff, Option.bind_eq_some_iff] at hl
     obtain ⟨ox, h1, ol, h2, oh, h3, rfl⟩ := hl
     simp only [stepF, Option.bind_eq_some_iff, Option.map_eq_some_iff, Prod.mk.injEq] at e
     obtain ⟨l, e1, h, e2, v, e3, rfl, rfl⟩ := e
     exact snd_sla hop hu rfl (Option.isSome_iff_exists.1 hi) h1 h2 h3 s e1 e2 e3
    ·cases hl
  ·cases hl
 case h_13 op t x y u hop =>
  split at hl
  ·rename_i fs hu
   split at hl
   ·split at hl
    ·cases hl
    ·rename_i hg
     simp only [Option.map_eq_some_iff, Option.bind_eq_some_iff] at hl
     obtain ⟨ks, h0, ox, h1, oy, h2, rfl⟩ := hl
     simp only [stepF, Option.bind_eq_some_iff, Option.map_eq_some_iff, Prod.mk.injEq] at e
     obtain ⟨as, e1, bs, e2, r, e3, rfl, rfl⟩ := e
     exact u4l hop (.inl ⟨rfl, rfl⟩) hu (by simpa using hg) h0 h1 h2 s e1 e2 e3
   ·split at hl
    ·cases hl
    ·rename_i hg
     simp only [Option.map_eq_some_iff, Option.bind_eq_some_iff] at hl
     obtain ⟨ks, h0, ox, h1, oy, h2, rfl⟩ := hl
     simp only [stepF, Option.bind_eq_some_iff, Option.map_eq_some_iff, Prod.mk.injEq] at e
     obtain ⟨as, e1, bs, e2, r, e3, rfl, rfl⟩ := e
     exact u4l hop (.inr ⟨rfl, rfl⟩) hu (by simpa using hg) h0 h1 h2 s e1 e2 e3
   ·cases hl
  all_goals first
   | (rename_i hu
      simp only [Option.map_eq_some_iff, Option.bind_eq_some_iff] at hl
      obtain ⟨ox, h1, oy, h2, rfl⟩ := hl
      simp only [stepF, Option.map_eq_some_iff, Prod.mk.injEq] at e
      obtain ⟨v, e, rfl, rfl⟩ := e
      exact snd_bin hop h1 h2 (by first | exact hu | trivial) s e)
   | (rename_i hu
      split at hl <;> first
       | (cases hl; done)
       | (simp only [Option.map_eq_some_iff] at hl
          obtain ⟨ox, h1, rfl⟩ := hl
          simp only [stepF, Option.map_eq_some_iff, Prod.mk.injEq] at e
          obtain ⟨v, e, rfl, rfl⟩ := e
          first | exact u3x (neg := false) hop hu h1 s e | exact u3x (neg := true) hop hu h1 s e))
   | (split at hl <;> first
       | (cases hl; done)
       | (simp only [Option.map_eq_some_iff] at hl
          obtain ⟨ox, h1, rfl⟩ := hl
          simp only [stepF, reduceCtorEq] at e))
   | cases hl
 case h_14 op t x hop =>
  simp only [Option.map_eq_some_iff] at hl
  obtain ⟨od, h1, rfl⟩ := hl
  simp only [stepF, Option.map_eq_some_iff, Prod.mk.injEq] at e; obtain ⟨v, e, rfl, rfl⟩ := e
  exact snd_un hop h1 s e
 case h_15 src dst x hop =>
  split at hl
  ·rename_i k0 k h1 h2
   simp only [Option.map_eq_some_iff] at hl
   obtain ⟨od, h3, rfl⟩ := hl
   simp only [stepF, Option.map_eq_some_iff, Prod.mk.injEq] at e; obtain ⟨n, e, rfl, rfl⟩ := e
   exact snd_cvi hop h1 h2 h3 s e
  ·rename_i h1 h2
   simp only [Option.map_eq_some_iff] at hl
   obtain ⟨od, h3, rfl⟩ := hl
   simp only [stepF, Option.map_eq_some_iff, Prod.mk.injEq] at e; obtain ⟨n, e, rfl, rfl⟩ := e
   exact snd_cid hop h1 h2 h3 s e
  ·rename_i el h1 h2
   split at hl
   ·rename_i h4
    simp only [Option.map_eq_some_iff] at hl
    obtain ⟨od, h3, rfl⟩ := hl
    simp only [stepF, Option.map_eq_some_iff, Prod.mk.injEq] at e; obtain ⟨n, e, rfl, rfl⟩ := e
    exact snd_b2s hop h1 h2 h4 h3 s e
   ·cases hl
  ·cases hl
 case h_16 fn first caps hop =>
  split at hl
  ·split at hl
   ·rename_i hc
    simp only [Option.map_eq_some_iff] at hl
    obtain ⟨od, h3, rfl⟩ := hl
    simp only [stepF, Option.map_eq_some_iff, Prod.mk.injEq] at e; obtain ⟨n, e, rfl, rfl⟩ := e
    exact snd_mkf hop (by simpa using hc) h3 s e
   ·cases hl
  ·cases hl
 case h_17 t l c hop =>
  split at hl
  ·rename_i el hu
   split at hl
   ·rename_i z hz
    simp only [Option.bind_eq_some_iff] at hz
    obtain ⟨i, hi, hz⟩ := hz
    simp only [Option.map_eq_some_iff, Option.bind_eq_some_iff] at hl
    obtain ⟨zc, h1, ol, h2, oc, h3, rfl⟩ := hl
    simp only [stepF, Option.bind_eq_some_iff] at e
    obtain ⟨l, e1, c, e2, ds, e3, e⟩ := e
    have hc1 : P.cellsOf el = i.size := by simp [Program.cellsOf, hi]
    have hc2 : P.bytesOf el = i.bytes := by simp [Program.bytesOf, hi]
    rw [hc1, hc2] at e
    split at e
    ·rename_i hc
     simp only [Option.some.injEq, Prod.mk.injEq] at e; obtain ⟨rfl, rfl⟩ := e
     obtain ⟨rfl, h4, h5, h6, h7⟩ := hc
     exact snd_mks hop hu hi hz h1 h2 h3 s hf e1 e2 e3 h4 h5 h6 h7
    ·cases e
   ·cases hl
  ·cases hl
 case h_18 x i hop =>
  simp only [Option.map_eq_some_iff] at hl
  obtain ⟨od, h1, rfl⟩ := hl
  simp only [stepF, Option.map_eq_some_iff, Prod.mk.injEq] at e; obtain ⟨v, e, rfl, rfl⟩ := e
  exact snd_ext hop h1 s e
 case h_19 x hop =>
  simp only [Option.map_eq_some_iff] at hl
  obtain ⟨od, h1, rfl⟩ := hl
  simp only [stepF, Option.bind_eq_some_iff] at e
  obtain ⟨p, e1, e⟩ := e
  split at e
  ·simp only [Option.some.injEq, Prod.mk.injEq] at e; obtain ⟨rfl, rfl⟩ := e
   exact x4g hop h1 s e1 (by assumption)
  ·cases e
 case h_20 t n parts hop =>
  split at hl
  ·rename_i el hu
   split at hl
   ·rename_i z hz
    simp only [Option.bind_eq_some_iff] at hz
    obtain ⟨i, hi, hz⟩ := hz
    have hc1 : P.cellsOf el = i.size := by simp [Program.cellsOf, hi]
    rw [hc1] at hl
    split at hl
    ·rename_i hc
     simp only [Option.map_eq_some_iff, Option.bind_eq_some_iff] at hl
     obtain ⟨zc, h1, ods, h2, rfl⟩ := hl
     simp only [stepF, Option.bind_eq_some_iff, Option.map_eq_some_iff, Prod.mk.injEq] at e
     obtain ⟨cs, e1, ds, e2, rfl, rfl⟩ := e
     exact snd_bsl hop hu hi hz hc.1.1 hc.1.2 hc.2 h1 h2 s hf e1 e2
    ·cases hl
   ·cases hl
  ·cases hl
 case h_21 t parts hop =>
  split at hl
  ·rename_i fs hu
   split at hl
   ·rename_i z hz
    simp only [Option.bind_eq_some_iff] at hz
    obtain ⟨i, hi, hz⟩ := hz
    simp only [Option.map_eq_some_iff, Option.bind_eq_some_iff] at hl
    obtain ⟨zc, h1, pl, h2, ods, h3, rfl⟩ := hl
    simp only [stepF, Option.map_eq_some_iff, Prod.mk.injEq] at e
    obtain ⟨cs, e1, rfl, rfl⟩ := e
    exact w4u hop hu hi hz h1 h2 h3 s e1
   ·cases hl
  ·cases hl
 case h_22 c hop =>
  split at hl
  ·unfold z0k at hl
   split at hl
   ·simp only [Option.map_eq_some_iff] at hl
    obtain ⟨_, _, rfl⟩ := hl
    cases e
   ·simp only [Option.map_eq_some_iff, Option.bind_eq_some_iff] at hl
    obtain ⟨_, _, _, _, rfl⟩ := hl
    cases e
  rotate_left
  ·cases hl
  rename_i b hcal
  unfold lowBi at hl
  split at hl
  ·split at hl
   ·rename_i x t hargs htys
    have hcc : o.op = .call { callee := .builtin .len, args := #[x], argTypes := #[t] } := by
     have h1 : c.args = #[x] := by rw [← Array.toList_inj]; exact hargs
     have h2 : c.argTypes = #[t] := by rw [← Array.toList_inj]; exact htys
     cases c; simp only at h1 h2 hcal; subst h1 h2 hcal; exact hop
    split at hl
    ·rename_i el hu
     simp only [Option.map_eq_some_iff] at hl
     obtain ⟨ox, h1, rfl⟩ := hl
     simp only [stepF, Option.map_eq_some_iff, Prod.mk.injEq] at e
     obtain ⟨n, e, rfl, rfl⟩ := e
     exact snd_len hcc hu h1 s e
    ·rename_i hu
     simp only [Option.map_eq_some_iff] at hl
     obtain ⟨ox, h1, rfl⟩ := hl
     simp only [stepF, Option.map_eq_some_iff, Prod.mk.injEq] at e
     obtain ⟨n, e, rfl, rfl⟩ := e
     exact z5c hcc hu h1 s e
    ·cases hl
   ·cases hl
  ·split at hl
   ·rename_i x t hargs htys
    have hcc : o.op = .call { callee := .builtin .clear, args := #[x], argTypes := #[t] } := by
     have h1 : c.args = #[x] := by rw [← Array.toList_inj]; exact hargs
     have h2 : c.argTypes = #[t] := by rw [← Array.toList_inj]; exact htys
     cases c; simp only at h1 h2 hcal; subst h1 h2 hcal; exact hop
    split at hl
    ·rename_i el hu
     split at hl
     ·rename_i z hz
      simp only [Option.bind_eq_some_iff] at hz
      obtain ⟨i, hi, hz⟩ := hz
      have hc1 : P.cellsOf el = i.size := by simp [Program.cellsOf, hi]
      rw [hc1] at hl
      simp only [Option.map_eq_some_iff, Option.bind_eq_some_iff] at hl
      obtain ⟨zc, h1, ox, h2, rfl⟩ := hl
      simp only [stepF, Option.bind_eq_some_iff] at e
      obtain ⟨ds, e1, e⟩ := e
      split at e
      ·rename_i hdl
       simp only [Option.map_eq_some_iff, Prod.mk.injEq] at e
       obtain ⟨σ1, e, rfl, rfl⟩ := e
       exact snd_clr hcc hu hi hz h1 h2 s e1 hdl e
      ·cases e
     ·cases hl
    ·cases hl
   ·cases hl
  ·split at hl
   ·rename_i x t hargs htys
    have hcc : o.op = .call { callee := .builtin .cap, args := #[x], argTypes := #[t] } := by
     have h1 : c.args = #[x] := by rw [← Array.toList_inj]; exact hargs
     have h2 : c.argTypes = #[t] := by rw [← Array.toList_inj]; exact htys
     cases c; simp only at h1 h2 hcal; subst h1 h2 hcal; exact hop
    split at hl
    ·rename_i el hu
     simp only [Option.map_eq_some_iff] at hl
     obtain ⟨ox, h1, rfl⟩ := hl
     simp only [stepF, Option.map_eq_some_iff, Prod.mk.injEq] at e
     obtain ⟨n, e, rfl, rfl⟩ := e
     exact snd_cap hcc hu h1 s e
    ·cases hl
   ·cases hl
  ·split at hl
   ·rename_i x y t u hargs htys
    split at hl
    ·rename_i htu
     subst htu
     have hcc : o.op = .call { callee := .builtin .copy, args := #[x, y], argTypes := #[t, t] } := by
      have h1 : c.args = #[x, y] := by rw [← Array.toList_inj]; exact hargs
      have h2 : c.argTypes = #[t, t] := by rw [← Array.toList_inj]; exact htys
      cases c; simp only at h1 h2 hcal; subst h1 h2 hcal; exact hop
     split at hl
     ·rename_i el hu
      split at hl
      ·rename_i hi
       obtain ⟨i, hi⟩ := Option.isSome_iff_exists.1 hi
       have hc1 : P.cellsOf el = i.size := by simp [Program.cellsOf, hi]
       rw [hc1] at hl
       simp only [Option.map_eq_some_iff, Option.bind_eq_some_iff] at hl
       obtain ⟨ox, h1, oy, h2, rfl⟩ := hl
       simp only [stepF, Option.map_eq_some_iff, Prod.mk.injEq] at e
       obtain ⟨⟨σ1, n⟩, e, rfl, rfl⟩ := e
       exact snd_cpy hcc hu hi h1 h2 s e
      ·cases hl
     ·cases hl
    ·cases hl
   ·cases hl
  ·split at hl
   ·rename_i x y t u hargs htys
    split at hl
    ·rename_i htu
     subst htu
     have hcc : o.op = .call { callee := .builtin .append, args := #[x, y], argTypes := #[t, t] } := by
      have h1 : c.args = #[x, y] := by rw [← Array.toList_inj]; exact hargs
      have h2 : c.argTypes = #[t, t] := by rw [← Array.toList_inj]; exact htys
      cases c; simp only at h1 h2 hcal; subst h1 h2 hcal; exact hop
     split at hl
     ·rename_i el hu
      split at hl
      ·rename_i z hz
       simp only [Option.bind_eq_some_iff] at hz
       obtain ⟨i, hi, hz⟩ := hz
       have hc1 : P.cellsOf el = i.size := by simp [Program.cellsOf, hi]
       have hc2 : P.bytesOf el = i.bytes := by simp [Program.bytesOf, hi]
       rw [hc1, hc2] at hl
       split at hl
       ·rename_i hzs
        simp only [Option.map_eq_some_iff, Option.bind_eq_some_iff] at hl
        obtain ⟨ox, h1, oy, h2, rfl⟩ := hl
        simp only [stepF, Option.bind_eq_some_iff] at e
        obtain ⟨news, e1, e2⟩ := e
        exact snd_app hcc hu hi hz hzs h1 h2 s hf e1 e2
       ·cases hl
      ·cases hl
     ·cases hl
    ·have hcc : o.op = .call { callee := .builtin .append, args := #[x, y], argTypes := #[t, u] } := by
      have h1 : c.args = #[x, y] := by rw [← Array.toList_inj]; exact hargs
      have h2 : c.argTypes = #[t, u] := by rw [← Array.toList_inj]; exact htys
      cases c; simp only at h1 h2 hcal; subst h1 h2 hcal; exact hop
     split at hl
     ·rename_i el kn hu hu2
      split at hl
      ·rename_i z hz
       simp only [Option.bind_eq_some_iff] at hz
       obtain ⟨i, hi, hz⟩ := hz
       have hc1 : P.cellsOf el = i.size := by simp [Program.cellsOf, hi]
       have hc2 : P.bytesOf el = i.bytes := by simp [Program.bytesOf, hi]
       rw [hc1, hc2] at hl
       split at hl
       ·rename_i hp
        simp only [Option.map_eq_some_iff, Option.bind_eq_some_iff] at hl
        obtain ⟨zc, h1, ox, h2, oy, h3, rfl⟩ := hl
        simp only [stepF, Option.bind_eq_some_iff] at e
        obtain ⟨l, e2, ds, e3, e⟩ := e
        split at e
        ·rename_i hcnd
         simp only [Option.map_eq_some_iff, Prod.mk.injEq] at e; obtain ⟨rows, e4, rfl, rfl⟩ := e
         exact w5c hcc hu hu2 hi hz hp h1 h2 h3 s hf e2 e3 hcnd.1 hcnd.2 e4
        ·cases e
       ·cases hl
      ·cases hl
     ·split at hl
      ·split at hl
       ·simp only [Option.map_eq_some_iff, Option.bind_eq_some_iff] at hl
        obtain ⟨ox, h2, oy, h3, rfl⟩ := hl
        cases e
       ·cases hl
      ·cases hl
     ·cases hl
   ·cases hl
  ·split at hl
   ·rename_i x y t u hargs htys
    have hcc : o.op = .call { callee := .builtin (if true = true then .max else .min), args := #[x, y], argTypes := #[t, u] } := by
     have h1 : c.args = #[x, y] := by rw [← Array.toList_inj]; exact hargs
     have h2 : c.argTypes = #[t, u] := by rw [← Array.toList_inj]; exact htys
     cases c; simp only at h1 h2 hcal; subst h1 h2 hcal; exact hop
    simp only [Option.map_eq_some_iff, Option.bind_eq_some_iff] at hl
    obtain ⟨ox, h1, oy, h2, rfl⟩ := hl
    simp only [stepF, Option.map_eq_some_iff, Prod.mk.injEq] at e
    obtain ⟨v, e, rfl, rfl⟩ := e
    exact u5b hcc h1 h2 s e
   ·cases hl
  ·split at hl
   ·rename_i x y t u hargs htys
    have hcc : o.op = .call { callee := .builtin (if false = true then .max else .min), args := #[x, y], argTypes := #[t, u] } := by
     have h1 : c.args = #[x, y] := by rw [← Array.toList_inj]; exact hargs
     have h2 : c.argTypes = #[t, u] := by rw [← Array.toList_inj]; exact htys
     cases c; simp only at h1 h2 hcal; subst h1 h2 hcal; exact hop
    simp only [Option.map_eq_some_iff, Option.bind_eq_some_iff] at hl
    obtain ⟨ox, h1, oy, h2, rfl⟩ := hl
    simp only [stepF, Option.map_eq_some_iff, Prod.mk.injEq] at e
    obtain ⟨v, e, rfl, rfl⟩ := e
    exact u5b hcc h1 h2 s e
   ·cases hl
  ·cases hl
 case h_23 => cases hl
end
section
variable {P : Program} {G : Nat → Option (List D)} {X : Ctx} {σ σ' : St} {sv : SV} {a : Act} {w : World} {O : Nat → LS} {Im : Nat → Prop} {o : Oper}
theorem z4x (s : SimW G X σ a.tmps w O Im) {sv : SV} {v : Value} {n : Nat} (r : RelV w.heap Im O sv v) (e : σ.lenV sv = some n) : ∃ ad c, v = .slice ad n c ∧ (n ≠ 0 → ad ≠ none) := by
 obtain ⟨ad, c, rfl⟩ := z4a s r e
 refine ⟨ad, c, rfl, fun h0 h1 => ?_⟩
 subst h1
 unfold St.lenV at e
 split at e
 ·cases e
  have := r.one_inv.d_inv
  cases this
  exact h0 rfl
 ·cases e; exact h0 rfl
 ·have := r.one_inv
  cases this with
  | rd _ _ _ _ h1 _ =>
   split at e
   ·rename_i ho
    obtain ⟨ob, ho⟩ := Option.isSome_iff_exists.1 ho
    obtain ⟨l, hl, _⟩ := s.obj _ _ ho
    rw [h1] at hl; cases hl
   ·cases e
  | rn => exact h0 rfl
 ·cases e
theorem y2a {t el : TypeId} (d : Nat) (hu : P.underlying t = some (.slice el)) (ad : Option Addr) (n c : Nat) (w : World) : (Op.equalIn (d + 1) t (.slice ad n c) (.slice none 0 0)).run P w = .ok ad.isNone w := by
 cases ad <;> simp [Op.equalIn, run_underlying hu]
theorem v4v {t u el : TypeId} {x : Operand} {neg : Bool} {n c : Nat} {ad : Option Addr} (ho : o.op = .binOp (if neg = true then .neq else .eql) t x (.const (.slice none 0 0)) u) (hu : P.underlying t = some (.slice el)) (hx : a.eval x = .slice ad n c) :
 (execOp a.eval o).run P w = .ok (.value (.bool (if neg = true then !ad.isNone else ad.isNone))) w := by
 have hc : a.eval (.const (.slice none 0 0)) = .slice none 0 0 := rfl
 have he : (Op.equal t (.slice ad n c) (.slice none 0 0)).run P w = .ok ad.isNone w := y2a 9999 hu ad n c w
 cases neg
 ·simp [execOp, ho, hx, hc, eqGuard, binOp, he]
 ·simp [execOp, ho, hx, hc, eqGuard, binOp, he]
theorem x5i (s : SimW G X σ a.tmps w O Im) {sv : SV} {v : Value} {n : Nat} (r : RelV w.heap Im O sv v) (e : σ.lenV sv = some n) : n ≤ maxLen := by
 unfold St.lenV at e
 split at e
 ·simp only [Option.some.injEq] at e; subst e
  have := r.one_inv.d_inv
  cases this with
  | l0 => exact Nat.zero_le _
  | l _ _ _ _ _ _ _ _ _ _ _ h4 _ => exact h4.1
 ·simp only [Option.some.injEq] at e; subst e; exact Nat.zero_le _
 ·rename_i id off len
  split at e
  ·rename_i ho
   simp only [Option.some.injEq] at e; subst e
   obtain ⟨o, ho⟩ := Option.isSome_iff_exists.1 ho
   obtain ⟨l, hl, hro, _⟩ := s.obj id o ho
   have := r.one_inv
   cases this with
   | rd _ _ _ _ h1 _ => rw [h1] at hl; cases hl
   | rn => exact Nat.zero_le _
   | r _ _ _ b cap sz ad c h1 h2 h3 h4 =>
    rw [h1] at hl; cases hl
    cases hro with
    | bld => unfold maxLen; omega
    | arr sz rows fz b cap cc ty fr g1 g2 g3 g4 g5 g6 g7 g8 => omega
    | box => unfold maxLen; omega
    | tre => omega
  ·cases e
 ·cases e
end
section
variable {G : Nat → Option (List D)} {X : Ctx} {σ : St} {tm : Array Value} {w : World} {O : Nat → LS} {Im : Nat → Prop}
theorem SimW.freeze (s : SimW G X σ tm w O Im) {m sz : Nat} {rows : List (List D)} (h : σ.objs m = some (.arr sz rows false)) : ∃ Im', (∀ b, Im b → Im' b) ∧ SimW G X (σ.setO m (some (.arr sz rows true))) tm w O Im' := by
 obtain ⟨l, hl, hr, hb⟩ := s.obj m _ h
 have objs : ∀ u o, (σ.setO m (some (.arr sz rows true))).objs u = some o → (u = m ∧ o = .arr sz rows true) ∨ (u ≠ m ∧ σ.objs u = some o) := by
  intro u o ho
  by_cases e : u = m
  ·subst e; simp [St.setO] at ho; exact .inl ⟨rfl, ho.symm⟩
  ·exact .inr ⟨e, by simpa [St.setO, e] using ho⟩
 have dead : ∀ u, (σ.setO m (some (.arr sz rows true))).objs u = none → ∀ l, O u ≠ .live l := by
  intro u hu l
  by_cases e : u = m
  ·subst e; simp [St.setO] at hu
  ·exact s.dead u (by simpa [St.setO, e] using hu) l
 have disj : ∀ u u' o o' l l' b, u ≠ u' → (σ.setO m (some (.arr sz rows true))).objs u = some o → (σ.setO m (some (.arr sz rows true))).objs u' = some o' → O u = .live l → O u' = .live l' → Own o l b → ¬ Own o' l' b := by
  intro u u' o o' l l' b hne ho ho' hlu hlu' hbo
  rcases objs u o ho with ⟨rfl, rfl⟩ | ⟨_, ho⟩
  ·simp [Own] at hbo
  ·rcases objs u' o' ho' with ⟨rfl, rfl⟩ | ⟨_, ho'⟩
   ·simp [Own]
   ·exact s.disj u u' o o' l l' b hne ho ho' hlu hlu' hbo
 cases hr with
 | an =>
  refine ⟨Im, fun _ h => h, s.ext, s.ownlt, s.imlt, s.im0, s.im1, dead, ?_, disj, s.slot, s.glob⟩
  intro u o ho
  rcases objs u o ho with ⟨rfl, rfl⟩ | ⟨_, ho⟩
  ·exact ⟨_, hl, .an _ _ _, fun b hb => by simp [Own] at hb⟩
  ·exact s.obj u o ho
 | arr _ _ _ b cap c e fr k1 k2 k3 k4 k5 k6 k7 k8 =>
  obtain ⟨g1, g2, g3⟩ := hb b (.inl rfl)
  have mv : Moves w.heap w.heap Im (fun k => Im k ∨ k = b) O O := ⟨fun _ h => .inl h, fun _ _ => rfl, fun _ _ => .inl rfl⟩
  refine ⟨fun k => Im k ∨ k = b, fun _ h => .inl h, s.ext, s.ownlt, fun k hk => hk.elim (s.imlt k) (fun e => e ▸ g2), fun k hk => .inl (s.im0 k hk), fun k hk => hk.elim (s.im1 k) (fun e => e ▸ g3.imp_right id |> fun h => h.elim (fun h => .inr (.inl h)) (fun h => .inr (.inr h))), dead, ?_, disj, fun t => (s.slot t).moves mv, fun g cs hg => (s.glob g cs hg).moves mv⟩
  intro u o ho
  rcases objs u o ho with ⟨rfl, rfl⟩ | ⟨hne, ho⟩
  ·exact ⟨_, hl, .arr sz rows true b cap c e fr k1 (fun h => by cases h) k3 k4 k5 k6 (k7.moves mv) ⟨fun _ => .inr rfl, fun _ => rfl⟩, fun b hb => by simp [Own] at hb⟩
  ·obtain ⟨l', q1, q2, q3⟩ := s.obj u o ho
   have nb : ∀ k, Own o l' k → k ≠ b := fun k hk e => s.disj u m o _ l' _ k hne ho h q1 hl hk (by subst e; exact .inl rfl)
   refine ⟨l', q1, q2.moves mv (fun k hk => ⟨rfl, ?_⟩), fun k hk => ⟨?_, (q3 k hk).2⟩⟩
   ·rintro (h' | h')
    ·exact (q3 k hk).1 h'
    ·exact nb k hk h'
   ·rintro (h' | h')
    ·exact (q3 k hk).1 h'
    ·exact nb k hk h'
end
section
variable {P : Program} {G : Nat → Option (List D)} {X : Ctx} {σ σ' : St} {sv : SV} {a : Act} {w : World} {O : Nat → LS} {Im : Nat → Prop} {o : Oper}
theorem new_frz (σ : St) (sz : Nat) (rows : List (List D)) : (σ.new (.arr sz rows false)).setO σ.next (some (.arr sz rows true)) = σ.new (.arr sz rows true) := by
 simp only [St.new, St.setO, St.mk.injEq, true_and, and_true]
 funext u
 by_cases e : u = σ.next <;> simp [e]
theorem Post.frz {tm : Array Value} {τ : St} {sz : Nat} {rows : List (List D)} {v : Value} {w' : World} (h : Post G X tm σ O (τ.new (.arr sz rows false)) sv v w') : Post G X tm σ O (τ.new (.arr sz rows true)) sv v w' := by
 obtain ⟨O', Im', s', r, hk⟩ := h
 obtain ⟨Im'', hi, s''⟩ := s'.freeze (m := τ.next) (sz := sz) (rows := rows) (by simp [St.new])
 rw [new_frz] at s''
 exact ⟨O', Im'', s'', r.moves ⟨hi, fun _ _ => rfl, fun _ _ => .inl rfl⟩, hk⟩
theorem low_box {n : Nat} {x : Od} (hl : lowOp P o = some (.box n x)) : ∃ ty x', o.op = .box ty x' ∧ lowOd P ty x' = some x := by
 unfold lowOp at hl
 split at hl
 case h_5 el x' hop =>
  simp only [Option.map_eq_some_iff, VOp.box.injEq] at hl
  obtain ⟨od, h1, _, rfl⟩ := hl
  exact ⟨_, _, hop, h1⟩
 all_goals (repeat' split at hl)
 all_goals first
  | (cases hl; done)
  | (simp only [Option.map_eq_some_iff, Option.bind_eq_some_iff, reduceCtorEq, and_false, exists_false] at hl; done)
  | (unfold z0k at hl; (repeat' split at hl) <;> first | (cases hl; done) | (simp only [Option.map_eq_some_iff, Option.bind_eq_some_iff, reduceCtorEq, and_false, exists_false] at hl; done))
  | (unfold lowBi at hl; (repeat' split at hl) <;> first | (cases hl; done) | (simp only [Option.map_eq_some_iff, Option.bind_eq_some_iff, reduceCtorEq, and_false, exists_false] at hl; done))
theorem SimW.adds {tm : Array Value} (s : SimW G X σ tm w O Im) {b : Nat} (h1 : b < w.heap.size) (h2 : X.w0.heap.size ≤ b) (h3 : ∀ u o l, σ.objs u = some o → O u = .live l → ¬ Own o l b) : SimW G X σ tm w O (fun k => Im k ∨ k = b) := by
 have mv : Moves w.heap w.heap Im (fun k => Im k ∨ k = b) O O := ⟨fun _ h => .inl h, fun _ _ => rfl, fun _ _ => .inl rfl⟩
 refine ⟨s.ext, s.ownlt, fun k hk => hk.elim (s.imlt k) (fun e => e ▸ h1), fun k hk => .inl (s.im0 k hk), fun k hk => hk.elim (s.im1 k) (fun e => .inr (.inr (e ▸ h2))), s.dead, ?_, s.disj, fun t => (s.slot t).moves mv, fun g cells hg => (s.glob g cells hg).moves mv⟩
 intro u o ho
 obtain ⟨l, q1, q2, q3⟩ := s.obj u o ho
 have nb : ∀ k, Own o l k → ¬ (Im k ∨ k = b) := by
  rintro k hk (h | rfl)
  ·exact (q3 k hk).1 h
  ·exact h3 u o l ho q1 hk
 exact ⟨l, q1, q2.moves mv (fun k hk => ⟨rfl, nb k hk⟩), fun k hk => ⟨nb k hk, (q3 k hk).2⟩⟩
theorem x5c {ty : TypeId} {x : Operand} {ox : Od} {cs : List SC} {ds : List D} (ho : o.op = .box ty x) (hx : lowOd P ty x = some ox) (s : SimW G X σ a.tmps w O Im)
 (e : (σ.ev G ox).cells? = some cs) (e2 : σ.toDs cs = some ds) : OkV ((execOp a.eval o).run P w) fun v w' => Post G X a.tmps σ O σ (.one (.d (.k ds))) v w' := by
 refine .inl ⟨.pointer (some ⟨w.heap.size, 0, none⟩), w.alloc (.cells (a.eval x).cells ty), ?_, ?_⟩
 ·simp [execOp, ho, Instr.box, newVar, newRow]
 ·have s1 := s.alloc (.cells (a.eval x).cells ty)
  have s2 := s1.adds (b := w.heap.size) (by simp) s.ext.size (fun u o l h1 h2 h3 => Nat.lt_irrefl _ (s.ownblk h1 h2 h3).2.1)
  obtain ⟨r, _⟩ := z0u s (z1p (ud s hx) e) e2
  refine ⟨O, _, s2, .one _ _ (.d _ _ (.k ds w.heap.size (a.eval x).cells ty (0, 0) (.inr rfl) (heap_alloc_new w _) ?_)), .inl ⟨rfl, fun _ h => h⟩⟩
  exact r.keep (fun _ h => .inl h) (fun b hb => Go.RowKit.Below.heap_alloc w _ b (s.imlt b (hb.resolve_left (by simp))))
theorem y4i {T b : TypeId} (hl : lowOp P o = some (.allocb T b)) : o.op = .alloc T ∧ bldTy P T = some b := by
 unfold lowOp at hl
 (repeat' split at hl) <;> first
   | (cases hl; done)
   | (simp only [Option.map_eq_some_iff, Option.bind_eq_some_iff, reduceCtorEq, and_false, exists_false] at hl; done)
   | (unfold z0k at hl; split at hl <;> simp only [Option.map_eq_some_iff, Option.bind_eq_some_iff, reduceCtorEq, and_false, exists_false] at hl; done)
   | skip
 ·rename_i h1 _ _ _ _ _ h2
  cases hl
  exact ⟨h1, h2⟩
 all_goals
  exfalso
  unfold lowBi at hl
  (repeat' split at hl) <;> first
    | (cases hl; done)
    | (simp only [Option.map_eq_some_iff, Option.bind_eq_some_iff, reduceCtorEq, and_false, exists_false] at hl; done)
theorem w4g {ty b : TypeId} (ho : o.op = .alloc ty) (hb : bldTy P ty = some b) (s : SimW G X σ a.tmps w O Im) (hf : O σ.next = .free) :
 OkV ((execOp a.eval o).run P w) fun v w' => Post G X a.tmps σ O (σ.new (.bld ty b [])) (.one (.p (.q σ.next 0 0))) v w' := by
 obtain ⟨i, hi, hz⟩ := y4d hb
 refine .inl ⟨.pointer (some ⟨w.heap.size, 0, none⟩), w.alloc (.cells #[.pointer none, .slice none 0 0] ty), ?_, ?_⟩
 ·simp [execOp, ho, Instr.alloc, newVar, newRow, zeroValue, typeInfo, hi, hz, Value.cells]
 ·refine Post.fresh s hf (l := ⟨some w.heap.size, 1, 2, []⟩) ?_ (fun b h => by simpa [Own, eq_comm] using h) v3n
  exact .bld ty b [] w.heap.size [] ⟨_, _, .inl rfl, heap_alloc_new w _, by simp, .inl ⟨rfl, rfl, rfl⟩⟩ (fun h => Nat.lt_irrefl _ (s.imlt _ h)) (fun g hg => by cases hg) (by simp)
theorem y4n {sz bytes : Nat} {ox oy : Od} (hl : lowOp P o = some (.app sz bytes ox oy)) : ∃ ty el i zv x y, o.op = .call { callee := .builtin .append, args := #[x, y], argTypes := #[ty, ty] } ∧ P.underlying ty = some (.slice el) ∧ P.info? el = some i ∧ i.zero = some zv ∧ zv.cells.size = i.size ∧ i.size = sz ∧ i.bytes = bytes ∧ lowOd P ty x = some ox ∧ lowOd P ty y = some oy := by
 unfold lowOp at hl
 (repeat' split at hl) <;> first
   | (cases hl; done)
   | (simp only [Option.map_eq_some_iff, Option.bind_eq_some_iff, reduceCtorEq, and_false, exists_false] at hl; done)
   | (unfold z0k at hl; split at hl <;> simp only [Option.map_eq_some_iff, Option.bind_eq_some_iff, reduceCtorEq, and_false, exists_false] at hl; done)
   | skip
 rename_i c hop _ b hcal
 unfold lowBi at hl
 split at hl
 case h_5 =>
  split at hl
  ·rename_i x y t u hargs htys
   split at hl
   ·rename_i htu
    subst htu
    have hcc : o.op = .call { callee := .builtin .append, args := #[x, y], argTypes := #[t, t] } := by
     have h1 : c.args = #[x, y] := by rw [← Array.toList_inj]; exact hargs
     have h2 : c.argTypes = #[t, t] := by rw [← Array.toList_inj]; exact htys
     cases c; simp only at h1 h2 hcal; subst h1 h2 hcal; exact hop
    split at hl
    ·rename_i el hu
     split at hl
     ·rename_i z hz
      simp only [Option.bind_eq_some_iff] at hz
      obtain ⟨i, hi, hz⟩ := hz
      have hc1 : P.cellsOf el = i.size := by simp [Program.cellsOf, hi]
      have hc2 : P.bytesOf el = i.bytes := by simp [Program.bytesOf, hi]
      rw [hc1, hc2] at hl
      split at hl
      ·rename_i hzs
       simp only [Option.map_eq_some_iff, Option.bind_eq_some_iff] at hl
       obtain ⟨ox, h1, oy, h2, hl⟩ := hl
       cases hl
       exact ⟨_, _, _, _, _, _, hcc, hu, hi, hz, hzs, rfl, rfl, h1, h2⟩
      ·cases hl
     ·cases hl
    ·cases hl
   ·exfalso
    (repeat' split at hl) <;> first
      | (cases hl; done)
      | (simp only [Option.map_eq_some_iff, Option.bind_eq_some_iff, reduceCtorEq, and_false, exists_false] at hl; done)
  ·cases hl
 all_goals
  exfalso
  (repeat' split at hl) <;> first
    | (cases hl; done)
    | (simp only [Option.map_eq_some_iff, Option.bind_eq_some_iff, reduceCtorEq, and_false, exists_false] at hl; done)
theorem z5i {bytes : Nat} {ox oy : Od} (hl : lowOp P o = some (.apps bytes ox oy)) : ∃ ty tu el i zv x y, o.op = .call { callee := .builtin .append, args := #[x, y], argTypes := #[ty, tu] } ∧ P.underlying ty = some (.slice el) ∧ P.underlying tu = some .string ∧ P.info? el = some i ∧ i.zero = some zv ∧ zv.cells.size = i.size ∧ i.size = 1 ∧ i.bytes = bytes ∧ lowOd P ty x = some ox ∧ lowOd P tu y = some oy := by
 unfold lowOp at hl
 (repeat' split at hl) <;> first
   | (cases hl; done)
   | (simp only [Option.map_eq_some_iff, Option.bind_eq_some_iff, reduceCtorEq, and_false, exists_false] at hl; done)
   | (unfold z0k at hl; split at hl <;> simp only [Option.map_eq_some_iff, Option.bind_eq_some_iff, reduceCtorEq, and_false, exists_false] at hl; done)
   | skip
 rename_i c hop _ b hcal
 unfold lowBi at hl
 split at hl
 case h_5 =>
  split at hl
  ·rename_i x y t u hargs htys
   split at hl
   ·exfalso
    (repeat' split at hl) <;> first
      | (cases hl; done)
      | (simp only [Option.map_eq_some_iff, Option.bind_eq_some_iff, reduceCtorEq, and_false, exists_false] at hl; done)
   ·have hcc : o.op = .call { callee := .builtin .append, args := #[x, y], argTypes := #[t, u] } := by
     have h1 : c.args = #[x, y] := by rw [← Array.toList_inj]; exact hargs
     have h2 : c.argTypes = #[t, u] := by rw [← Array.toList_inj]; exact htys
     cases c; simp only at h1 h2 hcal; subst h1 h2 hcal; exact hop
    split at hl
    ·exfalso
     (repeat' split at hl) <;> first
       | (cases hl; done)
       | (simp only [Option.map_eq_some_iff, Option.bind_eq_some_iff, reduceCtorEq, and_false, exists_false] at hl; done)
    ·rename_i el hu htu
     split at hl
     ·rename_i z hz
      simp only [Option.bind_eq_some_iff] at hz
      obtain ⟨i, hi, hz⟩ := hz
      have hc1 : P.cellsOf el = i.size := by simp [Program.cellsOf, hi]
      have hc2 : P.bytesOf el = i.bytes := by simp [Program.bytesOf, hi]
      rw [hc1, hc2] at hl
      split at hl
      ·rename_i hzs
       simp only [Option.map_eq_some_iff, Option.bind_eq_some_iff] at hl
       obtain ⟨ox, h1, oy, h2, hl⟩ := hl
       cases hl
       exact ⟨_, _, _, _, _, _, _, hcc, hu, htu, hi, hz, hzs.1, hzs.2, rfl, h1, h2⟩
      ·cases hl
     ·cases hl
    ·cases hl
  ·cases hl
 all_goals
  exfalso
  (repeat' split at hl) <;> first
    | (cases hl; done)
    | (simp only [Option.map_eq_some_iff, Option.bind_eq_some_iff, reduceCtorEq, and_false, exists_false] at hl; done)
theorem z5d {ty el : TypeId} {i : TypeInfo} {z : Value} {x y : Operand} {ox oy : Od} {news : List (List D)} {sv' : SV} (ho : o.op = .call { callee := .builtin .append, args := #[x, y], argTypes := #[ty, ty] }) (hu : P.underlying ty = some (.slice el)) (hi : P.info? el = some i)
 (hx : lowOd P ty x = some ox) (hy : lowOd P ty y = some oy) (s : SimW G X σ a.tmps w O Im) (e1 : σ.rowsOf i.size (σ.ev G oy).ur = some news) (e2 : σ.appr i.size news (σ.ev G ox) = some (σ', sv')) :
 OkV ((execOp a.eval o).run P w) fun v w' => Post G X a.tmps σ O σ' sv' v w' := by
 obtain ⟨hun, ad, c, nv, hyv, hrn, hnl, hcell⟩ := v1s s (ud s hy).ur e1
 have rx := ud s hx
 generalize hvx : a.eval x = vx at rx
 generalize σ.ev G ox = sx at rx e2
 unfold St.appr at e2
 split at e2
 ·rename_i id off len cp
  split at e2
  ·rename_i s' rows hob
   split at e2
   ·rename_i hc
    obtain ⟨rfl, rfl, hle, hcp, hcp0, hr0⟩ := hc
    cases e2
    obtain ⟨l0, hl0, hro, hown⟩ := s.obj id _ hob
    have rr := rx.one_inv
    cases rr with
    | rcd _ _ _ _ _ g1 _ => rw [g1] at hl0; cases hl0
    | rcn _ cap sz' a0 g1 => omega
    | rc _ _ _ _ b cap sz' ad' g1 g2 g3 g4 =>
     rw [g1] at hl0; cases hl0
     cases hro with
     | arr _ _ _ _ _ cur tyc fr k1 k2 k3 k4 k5 k6 k7 k8 =>
      obtain rfl := k2 rfl
      obtain ⟨q1, q2, q3⟩ := hown b (.inl rfl)
      obtain rfl := g4.resolve_right (by omega)
      have hy' : news.length = 0 ∨ ∃ b, ad = some b ∧ ∀ (j : Nat) (u : Value), nv[j]? = some u → w.cell? (b.add j) = some u := hcell.imp (fun h => by rw [h]; rfl) (fun h => h)
      have hfirst := y0o (P := P) (c := c) hnl hy'
      have hnf : nv.length = news.flatten.length := by rw [hnl, wa hun]
      have h1 : ∀ u ∈ nv, u.oneCell' = true := hrn.one hnf
      have hcsz : cur.toList.length = cap * i.size := by simpa using k6
      have hmul : (len + news.length) * i.size ≤ cap * i.size := Nat.mul_le_mul_right _ (by omega)
      rw [Nat.add_mul] at hmul
      have hfit : len * i.size + nv.length ≤ cur.size := by rw [hnl, k6]; exact hmul
      have hst := run_storeCells_at P b (len * i.size) tyc nv 0 cur w k1 (by simpa using hfit) h1
      simp only [Nat.add_zero] at hst
      generalize hc' : (cur.toList.take (len * i.size) ++ nv ++ cur.toList.drop (len * i.size + nv.length)) = c' at hst
      have hcl : c'.length = cur.size := by rw [← hc']; simp only [List.length_append, List.length_take, List.length_drop, Array.length_toList]; omega
      have hkk : ∀ k, k ≠ b → (w.setRow b c'.toArray).heap[k]? = w.heap[k]? := fun k hk => setRow_other w b k _ hk
      have hut : ∀ r ∈ rows.take len, r.length = i.size := fun r hr => k3 r (List.mem_of_mem_take hr)
      have hud : ∀ r ∈ rows.drop (len + news.length), r.length = i.size := fun r hr => k3 r (List.mem_of_mem_drop hr)
      have hrows : RelCs (w.setRow b c'.toArray).heap Im (rows.take len ++ (news ++ rows.drop (len + news.length))).flatten c' [] := by
       have r1 : RelCs w.heap Im (rows.take len).flatten (cur.toList.take (len * i.size)) [] := by
        rw [← xp k3]
        exact (k7.take _).take2 _ (by rw [List.length_take]; exact Nat.min_le_left _ _)
       have l1 : (cur.toList.take (len * i.size)).length = (rows.take len).flatten.length := by
        rw [wa hut, List.length_take, List.length_take, hcsz, Nat.min_eq_left (by omega), Nat.min_eq_left (show len ≤ rows.length by omega)]
       have r3 : RelCs w.heap Im (rows.drop (len + news.length)).flatten (cur.toList.drop (len * i.size + nv.length)) [] := by
        rw [← xx k3, Nat.add_mul, hnl]
        exact k7.drop _
       have r2 := wx (rest := []) hrn hnf r3
       rw [List.append_nil] at r2
       have := wx (rest := []) r1 l1 r2
       rw [List.append_nil, ← List.flatten_append, ← List.flatten_append, ← List.append_assoc (cur.toList.take (len * i.size)), hc'] at this
       exact this.keep (fun _ h => h) (fun k hk => hkk k (fun e2 => q1 (e2 ▸ hk.resolve_left (by simp))))
      rw [Nat.zero_mul] at hvx
      have hrun := w0j (P := P) (ty := o.type) (w' := w.setRow b c'.toArray) hu hi hfirst (base := some ⟨b, 0, none⟩) (sLen := len) (sCap := cp) hcp (fun b' hb => by cases hb; rw [Addr.add_lit, Nat.zero_add]; exact hst) (fun h => by cases h)
      refine .inl ⟨.slice (some ⟨b, 0, none⟩) (len + news.length) cp, w.setRow b c'.toArray, ?_, O, Im, s.write (n := id) (o' := .arr i.size (rows.take len ++ (news ++ rows.drop (len + news.length))) false) (b := b) hob g1 (.inl rfl) (fun _ => Iff.rfl) rfl rfl rfl (by simp) hkk ?_, .one _ _ (.rc id 0 _ cp b cap i.size _ g1 hcp g3 (.inl (by simp))), .inl ⟨rfl, fun _ h => h⟩⟩
      ·simp [execOp, ho, resolve, invoke, builtin, hvx, hyv, hrun]
      ·refine .arr i.size _ false b cap c'.toArray tyc (0, 0) (setRow_heap w b cur _ tyc (0, 0) k1) (fun _ => rfl) ?_ ?_ k5 (by simp [hcl, k6]) (by simpa using hrows) ⟨fun h => (by cases h), fun h => absurd h q1⟩
       ·intro r hr
        rcases List.mem_append.1 hr with h | h
        ·exact hut r h
        ·rcases List.mem_append.1 h with h | h
         ·exact hun r h
         ·exact hud r h
       ·simp only [List.length_append, List.length_take, List.length_drop]; omega
   ·cases e2
  ·cases e2
 ·cases e2
theorem u3h {vop : VOp} (hl : lowOp P o = some vop.strip) (s : SimW G X σ a.tmps w O Im) (hf : O σ.next = .free) (e : stepF G vop σ = some (σ', sv)) :
 OkV ((execOp a.eval o).run P w) fun v w' => Post G X a.tmps σ O σ' sv v w' := by
 have up : ∀ {τ : St} {sz : Nat} {rows : List (List D)}, OkV ((execOp a.eval o).run P w) (fun v w' => Post G X a.tmps σ O (τ.new (.arr sz rows false)) sv v w') → OkV ((execOp a.eval o).run P w) fun v w' => Post G X a.tmps σ O (τ.new (.arr sz rows true)) sv v w' := by
  rintro τ sz rows (⟨v, w', h1, h2⟩ | ⟨w', h1, h2⟩)
  ·exact .inl ⟨v, w', h1, h2.frz⟩
  ·exact .inr ⟨w', h1, h2.frz⟩
 cases vop
 case appf sz bytes n y =>
  simp only [stepF, Option.bind_eq_some_iff] at e
  obtain ⟨news, e1, e⟩ := e
  split at e
  ·rename_i hfit
   simp only [Option.some.injEq, Prod.mk.injEq] at e; obtain ⟨rfl, rfl⟩ := e
   refine up (z2a (vop := .app sz bytes (.c (.one (.nl n))) y) hl s hf ?_)
   simp only [stepF, e1, Option.bind_some]
   show σ.app sz bytes news (.one (.nl n)) = _
   simp only [St.app]
   rw [if_pos hfit]
  ·cases e
 case appq sz bytes x y =>
  simp only [stepF, Option.bind_eq_some_iff] at e
  obtain ⟨news, e1, e⟩ := e
  have go : ∀ {σ0 : St}, stepF G (.app sz bytes x y) σ = some (σ0, sv) → OkV ((execOp a.eval o).run P w) fun v w' => Post G X a.tmps σ O σ0 sv v w' := fun h => z2a (vop := .app sz bytes x y) hl s hf h
  have e0 : stepF G (.app sz bytes x y) σ = σ.app sz bytes news (σ.ev G x).ur := by simp only [stepF, e1, Option.bind_some]
  unfold St.appq at e
  split at e
  ·rename_i n hx
   split at e
   ·rename_i hfit
    simp only [Option.some.injEq, Prod.mk.injEq] at e; obtain ⟨rfl, rfl⟩ := e
    refine up (go (e0.trans ?_))
    rw [hx]; simp only [St.app]; rw [if_pos hfit]
   ·cases e
  ·rename_i id off len hx
   split at e
   ·rename_i s' rows hob
    split at e
    ·rename_i hfit
     simp only [Option.some.injEq, Prod.mk.injEq] at e; obtain ⟨rfl, rfl⟩ := e
     refine up (go (e0.trans ?_))
     rw [hx]; simp only [St.app, hob]; rw [if_pos hfit]
    ·cases e
   ·cases e
  ·cases e
 case appr sz bytes x y =>
  replace hl : lowOp P o = some (.app sz bytes x y) := hl
  simp only [stepF, Option.bind_eq_some_iff] at e
  obtain ⟨news, e1, e⟩ := e
  obtain ⟨ty, el, i, zv, x', y', hop, hu, hi, hz, hzs, rfl, rfl, h1, h2⟩ := y4n hl
  exact z5d (z := zv) hop hu hi h1 h2 s e1 e
 case boxk n x =>
  simp only [stepF, Option.bind_eq_some_iff] at e
  obtain ⟨cs, e1, e⟩ := e
  split at e
  ·simp only [Option.map_eq_some_iff, Prod.mk.injEq] at e; obtain ⟨ds, e2, rfl, rfl⟩ := e
   replace hl : lowOp P o = some (.box n x) := hl
   obtain ⟨ty, x', hop, hx⟩ : ∃ ty x', o.op = .box ty x' ∧ lowOd P ty x' = some x := low_box hl
   exact x5c hop hx s e1 e2
  ·cases e
 case bslf sz n z parts =>
  simp only [stepF, Option.bind_eq_some_iff, Option.map_eq_some_iff, Prod.mk.injEq] at e
  obtain ⟨cs, e1, ds, e2, rfl, rfl⟩ := e
  refine up (z2a (vop := .bsl sz n z parts) hl s hf ?_)
  simp only [stepF, e1, e2, Option.bind_some, Option.map_some]
 case bslw => cases e
 case appw => cases e
 case apps => cases e
 case allocb => cases e
 all_goals exact z2a hl s hf e
theorem z0i {c : Call} {b : Builtin} {vop : VOp} (hl : lowBi P c b = some vop) : vop.strip = vop := by
 cases vop
 case appf =>
  unfold lowBi at hl
  (repeat' split at hl) <;> first
    | (cases hl; done)
    | (simp only [Option.map_eq_some_iff, Option.bind_eq_some_iff, reduceCtorEq, and_false, exists_false] at hl; done)
 case boxk =>
  unfold lowBi at hl
  (repeat' split at hl) <;> first
    | (cases hl; done)
    | (simp only [Option.map_eq_some_iff, Option.bind_eq_some_iff, reduceCtorEq, and_false, exists_false] at hl; done)
 case appq =>
  unfold lowBi at hl
  (repeat' split at hl) <;> first
    | (cases hl; done)
    | (simp only [Option.map_eq_some_iff, Option.bind_eq_some_iff, reduceCtorEq, and_false, exists_false] at hl; done)
 case appr =>
  unfold lowBi at hl
  (repeat' split at hl) <;> first
    | (cases hl; done)
    | (simp only [Option.map_eq_some_iff, Option.bind_eq_some_iff, reduceCtorEq, and_false, exists_false] at hl; done)
 case bslf =>
  unfold lowBi at hl
  (repeat' split at hl) <;> first
    | (cases hl; done)
    | (simp only [Option.map_eq_some_iff, Option.bind_eq_some_iff, reduceCtorEq, and_false, exists_false] at hl; done)
 case bslw =>
  unfold lowBi at hl
  (repeat' split at hl) <;> first
    | (cases hl; done)
    | (simp only [Option.map_eq_some_iff, Option.bind_eq_some_iff, reduceCtorEq, and_false, exists_false] at hl; done)
 case appw =>
  unfold lowBi at hl
  (repeat' split at hl) <;> first
    | (cases hl; done)
    | (simp only [Option.map_eq_some_iff, Option.bind_eq_some_iff, reduceCtorEq, and_false, exists_false] at hl; done)
 all_goals rfl
theorem v0f {c : Call} {b : Operand} {vop : VOp} (hl : z0k P c b = some vop) : vop.strip = vop := by
 unfold z0k at hl
 split at hl
 ·simp only [Option.map_eq_some_iff] at hl
  obtain ⟨_, _, rfl⟩ := hl; rfl
 ·simp only [Option.map_eq_some_iff, Option.bind_eq_some_iff] at hl
  obtain ⟨_, _, _, _, rfl⟩ := hl; rfl
theorem x3z {vop : VOp} (hl : lowOp P o = some vop) : vop.strip = vop := by
 cases vop
 case appf =>
  unfold lowOp at hl
  (repeat' split at hl) <;> first
    | (cases hl; done)
    | (exact z0i hl)
    | (exact v0f hl)
    | (simp only [Option.map_eq_some_iff, Option.bind_eq_some_iff, reduceCtorEq, and_false, exists_false] at hl; done)
 case boxk =>
  unfold lowOp at hl
  (repeat' split at hl) <;> first
    | (cases hl; done)
    | (exact z0i hl)
    | (exact v0f hl)
    | (simp only [Option.map_eq_some_iff, Option.bind_eq_some_iff, reduceCtorEq, and_false, exists_false] at hl; done)
 case appq =>
  unfold lowOp at hl
  (repeat' split at hl) <;> first
    | (cases hl; done)
    | (exact z0i hl)
    | (exact v0f hl)
    | (simp only [Option.map_eq_some_iff, Option.bind_eq_some_iff, reduceCtorEq, and_false, exists_false] at hl; done)
 case appr =>
  unfold lowOp at hl
  (repeat' split at hl) <;> first
    | (cases hl; done)
    | (exact z0i hl)
    | (exact v0f hl)
    | (simp only [Option.map_eq_some_iff, Option.bind_eq_some_iff, reduceCtorEq, and_false, exists_false] at hl; done)
 case bslf =>
  unfold lowOp at hl
  (repeat' split at hl) <;> first
    | (cases hl; done)
    | (exact z0i hl)
    | (exact v0f hl)
    | (simp only [Option.map_eq_some_iff, Option.bind_eq_some_iff, reduceCtorEq, and_false, exists_false] at hl; done)
 case bslw =>
  unfold lowOp at hl
  (repeat' split at hl) <;> first
    | (cases hl; done)
    | (exact z0i hl)
    | (exact v0f hl)
    | (simp only [Option.map_eq_some_iff, Option.bind_eq_some_iff, reduceCtorEq, and_false, exists_false] at hl; done)
 case appw =>
  unfold lowOp at hl
  (repeat' split at hl) <;> first
    | (cases hl; done)
    | (exact z0i hl)
    | (exact v0f hl)
    | (simp only [Option.map_eq_some_iff, Option.bind_eq_some_iff, reduceCtorEq, and_false, exists_false] at hl; done)
 all_goals rfl
theorem x3p {vop : VOp} (hl : x1t P o = some vop) : vop.strip = vop := by
 rcases v1d hl with h | rfl
 ·exact x3z h
 ·rfl
theorem v3h {vop : VOp} (h : vop.strip = .bad) : vop = .bad := by cases vop <;> first | rfl | (simp [VOp.strip] at h)
end
end Go.V
