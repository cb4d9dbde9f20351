/- Rows of one's own whose elements own memory: what is shown holds of the machine; no condition. -/
import Derived.Test.YtjklmaihcaelaaaDoorVB
set_option linter.unusedVariables false
set_option linter.unusedSimpArgs false
namespace Go.V
open Go
def SameL (a b : LS) : Prop := a = b ∨ ∃ bk cap sz s s', a = .live ⟨some bk, cap, sz, s⟩ ∧ b = .live ⟨some bk, cap, sz, s'⟩
theorem SameL.gone {a b : LS} (h : SameL a b) (e : a = .gone) : b = .gone := by
 rcases h with rfl | ⟨_, _, _, _, _, h1, _⟩
 ·exact e
 ·rw [e] at h1; cases h1
theorem SameL.live {a b : LS} {bk cap sz : Nat} {s : List Nat} (h : SameL a b) (e : a = .live ⟨some bk, cap, sz, s⟩) : ∃ s', b = .live ⟨some bk, cap, sz, s'⟩ := by
 rcases h with rfl | ⟨_, _, _, _, s', h1, h2⟩
 ·exact ⟨s, e⟩
 ·rw [e] at h1; cases h1; exact ⟨s', h2⟩
theorem SameL.none_ {a b : LS} {cap sz : Nat} {s : List Nat} (h : SameL a b) (e : a = .live ⟨none, cap, sz, s⟩) : b = .live ⟨none, cap, sz, s⟩ := by
 rcases h with rfl | ⟨_, _, _, _, s', h1, h2⟩
 ·exact e
 ·rw [e] at h1; cases h1
section
variable {h : Array Obj} {Im : Nat → Prop} {O O' : Nat → LS}
theorem RelP.resub (hs : ∀ u, SameL (O u) (O' u)) {x : Ptr} {v : Value} (r : RelP h Im O x v) : RelP h Im O' x v := by
 cases r with
 | qd id i j v h1 h2 => exact .qd id i j v ((hs id).gone h1) h2
 | q id i j b cap sz h1 => obtain ⟨s', e⟩ := (hs id).live h1; exact .q id i j b cap sz e
 | l sz rows i j b off c e fr h1 h2 h3 h4 => exact .l sz rows i j b off c e fr h1 h2 h3 h4
theorem RelC.resub (hs : ∀ u, SameL (O u) (O' u)) {x : SC} {v : Value} (r : RelC h Im O x v) : RelC h Im O' x v := by
 cases r with
 | d d v r => exact .d d v r
 | nl sz a => exact .nl sz a
 | rd id off len v h1 h2 => exact .rd id off len v ((hs id).gone h1) h2
 | r id off len b cap sz a c h1 h2 h3 h4 => obtain ⟨s', e⟩ := (hs id).live h1; exact .r id off len b cap sz a c e h2 h3 h4
 | rn id cap sz a h1 => exact .rn id cap sz a ((hs id).none_ h1)
 | p x v r => exact .p x v (r.resub hs)
 | c fn caps cv h1 h2 => exact .c fn caps cv h1 fun j x hx => let ⟨v, hv, q⟩ := h2 j x hx; ⟨v, hv, q.resub hs⟩
 | dead v h => exact .dead v h
 | rcd id off len cp v h1 h2 => exact .rcd id off len cp v ((hs id).gone h1) h2
 | rc id off len cp b cap sz a h1 h2 h3 h4 => obtain ⟨s', e⟩ := (hs id).live h1; exact .rc id off len cp b cap sz a e h2 h3 h4
 | rcn id cap sz a h1 => exact .rcn id cap sz a ((hs id).none_ h1)
theorem RelCl.resub (hs : ∀ u, SameL (O u) (O' u)) : ∀ {cs : List SC} {vs : List Value}, RelCl h Im O cs vs → RelCl h Im O' cs vs
 | _, _, .nil => .nil
 | _, _, .cons c v cs vs q rs => .cons c v cs vs (q.resub hs) (rs.resub hs)
mutual
theorem RelV.resub (hs : ∀ u, SameL (O u) (O' u)) : ∀ {x : SV} {v : Value}, RelV h Im O x v → RelV h Im O' x v
 | _, _, .one c v r => .one c v (r.resub hs)
 | _, _, .agg cs cv r => .agg cs cv (r.resub hs)
 | _, _, .tup vs tv r => .tup vs tv (RelVs.resub hs r)
 | _, _, .dead v => .dead v
 | _, _, .und => .und
theorem RelVs.resub (hs : ∀ u, SameL (O u) (O' u)) : ∀ {x : List SV} {v : List Value}, RelVs h Im O x v → RelVs h Im O' x v
 | _, _, .nil => .nil
 | _, _, .cons x v xs vs r rs => .cons x v xs vs (RelV.resub hs r) (RelVs.resub hs rs)
end
theorem RelO.resub (hs : ∀ u, SameL (O u) (O' u)) {o : VO} {l : Loc} (r : RelO h Im O o l) : RelO h Im O' o l := by
 cases r with
 | bld T e l b sub h1 h2 h3 h4 => exact .bld T e l b sub h1 h2 h3 h4
 | an sz cap fz => exact .an sz cap fz
 | arr sz rows fz b cap c e fr h1 h2 h3 h4 h5 h6 h7 h8 => exact .arr sz rows fz b cap c e fr h1 h2 h3 h4 h5 h6 h7 h8
 | tn sz cap => exact .tn sz cap
 | tre sz rows foc b cap c e sub h1 h2 h3 h4 h5 h6 h7 h8 h9 =>
  refine .tre sz rows foc b cap c e sub h1 h2 h3 h4 h5 h6 h7 h8 ?_
  cases foc with
  | none => trivial
  | some p => exact ⟨h9.1, h9.2.resub hs⟩
 | box cells b c e h1 h2 h3 => exact .box cells b c e h1 (h2.resub hs) h3
/-! ### Elements, one by one -/
theorem RelCs.app_inv : ∀ {as bs : List D} {vs : List Value} {fp : List Nat}, RelCs h Im (as ++ bs) vs fp → as.length ≤ vs.length → ∃ f1 f2, fp = f1 ++ f2 ∧ RelCs h Im as vs f1 ∧ RelCs h Im bs (vs.drop as.length) f2
 | [], bs, vs, fp, r, _ => ⟨[], fp, rfl, .nil _, r⟩
 | a :: as, bs, vs, fp, r, hl => by
  cases r with
  | cons _ v f _ vs' fs r1 r2 =>
   obtain ⟨f1, f2, rfl, g1, g2⟩ := RelCs.app_inv r2 (by simpa using hl)
   exact ⟨f ++ f1, f2, by simp, .cons _ _ _ _ _ _ r1 g1, g2⟩
theorem RelCs.app : ∀ {as bs : List D} {vs : List Value} {f1 f2 : List Nat}, RelCs h Im as vs f1 → as.length ≤ vs.length → RelCs h Im bs (vs.drop as.length) f2 → RelCs h Im (as ++ bs) vs (f1 ++ f2)
 | [], bs, vs, f1, f2, r, _, q => by cases r; exact q
 | a :: as, bs, vs, f1, f2, r, hl, q => by
  cases r with
  | cons _ v f _ vs' fs r1 r2 =>
   rw [List.append_assoc]
   exact .cons _ _ _ _ _ _ r1 (RelCs.app r2 (by simpa using hl) (by simpa using q))
theorem RelCs.takeF : ∀ {ds : List D} {vs : List Value} {fp : List Nat} (n : Nat), RelCs h Im ds vs fp → ds.length ≤ n → RelCs h Im ds (vs.take n) fp
 | [], vs, fp, n, r, _ => by cases r; exact .nil _
 | d :: ds, vs, fp, 0, r, hl => by simp at hl
 | d :: ds, vs, fp, n + 1, r, hl => by
  cases r with
  | cons _ v f _ vs' fs r1 r2 => exact .cons _ _ _ _ _ _ r1 (RelCs.takeF n r2 (by simpa using hl))
theorem RelCs.longer : ∀ {ds : List D} {vs : List Value} {fp : List Nat} (us : List Value), RelCs h Im ds vs fp → RelCs h Im ds (vs ++ us) fp
 | _, _, _, us, .nil vs => .nil _
 | _, _, _, us, .cons d v f ds vs fs r rs => .cons _ _ _ _ _ _ r (rs.longer us)
theorem y4c {rows : List (List D)} {i : Nat} (hi : i < rows.length) (r : List D) : (rows.set i r).flatten = (rows.take i).flatten ++ (r ++ (rows.drop (i + 1)).flatten) := by
 rw [List.set_eq_take_append_cons_drop, if_pos hi]; simp
theorem RelCs.row_at {rows : List (List D)} {sz i : Nat} {vs : List Value} {fp : List Nat} {r0 : List D} (hu : ∀ r ∈ rows, r.length = sz) (hi : i < rows.length) (h0 : r0.length = sz) (hvl : rows.length * sz ≤ vs.length) (hr : RelCs h Im (rows.set i r0).flatten vs fp) :
 ∃ f1 f2 f3, fp = f1 ++ (f2 ++ f3) ∧ RelCs h Im r0 ((vs.drop (i * sz)).take sz) f2 ∧ ∀ r1 f, r1.length = sz → RelCs h Im r1 ((vs.drop (i * sz)).take sz) f → RelCs h Im (rows.set i r1).flatten vs (f1 ++ (f ++ f3)) := by
 have hA : (rows.take i).flatten.length = i * sz := by
  rw [wa (fun r hr => hu r (List.mem_of_mem_take hr)), List.length_take, Nat.min_eq_left (by omega)]
 have hks : i * sz + sz ≤ rows.length * sz := by
  have := Nat.mul_le_mul_right sz (show i + 1 ≤ rows.length from hi)
  rw [Nat.add_mul] at this; omega
 rw [y4c hi] at hr
 obtain ⟨f1, f23, rfl, g1, g2⟩ := hr.app_inv (by omega)
 rw [hA] at g2
 obtain ⟨f2, f3, rfl, g3, g4⟩ := g2.app_inv (by rw [List.length_drop]; omega)
 refine ⟨f1, f2, f3, rfl, g3.takeF sz (by omega), fun r1 f h1 hr1 => ?_⟩
 rw [y4c hi]
 refine g1.app (by omega) ?_
 rw [hA]
 have := hr1.longer ((vs.drop (i * sz)).drop sz)
 rw [List.take_append_drop] at this
 refine this.app (by rw [List.length_drop]; omega) ?_
 rw [h0] at g4
 rw [h1]; exact g4
theorem RelD.fwd {Im' : Nat → Prop} {d : D} {v : Value} {fp : List Nat} (r : RelD h Im d v fp) (hi : ∀ b, Im b → Im' b) (hf : ∀ b ∈ fp, Im' b) : RelD h Im' d.fw v [] := by
 have r0 := r
 cases r with
 | o0 sz a => exact .l0 sz a 0
 | o sz rows b cap a sc c e hb hu hl hl2 hm hs ha hc =>
  cases rows with
  | nil => exact .l0 sz _ _
  | cons r rs =>
   have e1 : a = ⟨b, 0, none⟩ := ha.resolve_right (fun e => by subst e; simp at hl)
   subst e1
   exact .l sz _ b 0 sc c e (0, 0) (hf b (by simp)) hb hu ⟨by omega, hl⟩ (by rw [List.drop_zero]; exact hc.keep hi (fun _ _ => rfl))
 | x => exact .w _ r0.one.2
 | t0 => exact .w _ rfl
 | t => exact .w _ rfl
 | _ => exact RelD.keep hi r0 (fun _ _ => rfl)
theorem RelCs.fwd {Im' : Nat → Prop} : ∀ {ds : List D} {vs : List Value} {fp : List Nat}, RelCs h Im ds vs fp → (∀ b, Im b → Im' b) → (∀ b ∈ fp, Im' b) → RelCs h Im' (ds.map D.fw) vs []
 | _, _, _, .nil vs, _, _ => .nil vs
 | _, _, _, .cons d v f ds vs fs r rs, hi, hf => .cons _ _ [] _ _ [] (r.fwd hi (fun b hb => hf b (List.mem_append_left _ hb))) (RelCs.fwd rs hi (fun b hb => hf b (List.mem_append_right _ hb)))
theorem w4c : ∀ {ds : List D} {vs : List Value} {fp : List Nat} {O : Nat → LS}, RelCs h Im ds vs fp → vs.length = ds.length → RelCl h Im O (List.replicate ds.length .dead) vs
 | [], vs, _, _, _, hl => by have : vs = [] := List.eq_nil_of_length_eq_zero (by simpa using hl); subst this; exact .nil
 | d :: ds, vs, _, _, r, hl => by
  cases r with
  | cons _ v f _ vs' fs r1 r2 => exact .cons _ _ _ _ (.dead v r1.one.2) (w4c r2 (by simpa using hl))
theorem w_rel : ∀ {cs : List SC} {vs : List Value} {O : Nat → LS}, RelCl h Im O cs vs → ∀ n, n = cs.length → RelCs h Im (List.replicate n .w) vs []
 | _, _, _, .nil, n, hn => by subst hn; exact .nil _
 | _, _, _, .cons c v cs vs r rs, n, hn => by
  subst hn
  exact .cons _ _ [] _ _ [] (.w v r.one) (w_rel rs _ rfl)
theorem v4z : ∀ (n : Nat) {vs : List Value}, n ≤ vs.length → (∀ v ∈ vs, v.oneCell' = true) → RelCs h Im (List.replicate n .w) vs []
 | 0, vs, _, _ => .nil _
 | n + 1, v :: vs, hl, ho => .cons _ _ [] _ _ [] (.w v (ho v (by simp))) (v4z n (by simpa using hl) (fun u hu => ho u (by simp [hu])))
 | n + 1, [], hl, _ => by simp at hl
theorem RelCs.onesF : ∀ {ds : List D} {vs : List Value} {fp : List Nat}, RelCs h Im ds vs fp → vs.length = ds.length → ∀ v ∈ vs, v.oneCell' = true
 | [], vs, _, _, hl, v, hv => by have : vs = [] := List.eq_nil_of_length_eq_zero (by simpa using hl); subst this; simp at hv
 | d :: ds, vs, _, r, hl, v, hv => by
  cases r with
  | cons _ v0 f _ vs' fs r1 r2 =>
   rcases List.mem_cons.1 hv with rfl | hv
   ·exact r1.one.2
   ·exact r2.onesF (by simpa using hl) v hv
end
section
variable {P : Program} {G : Nat → Option (List D)} {X : Ctx} {σ : St} {tm : Array Value} {w : World} {O : Nat → LS} {Im : Nat → Prop}
theorem SimW.reloc (s : SimW G X σ tm w O Im) {m bk cap sz : Nat} {o o' : VO} {s0 s1 : List Nat} (ho : σ.objs m = some o) (hl : O m = .live ⟨some bk, cap, sz, s0⟩) (hr : RelO w.heap Im O o' ⟨some bk, cap, sz, s1⟩)
 (hown : ∀ k, Own o' ⟨some bk, cap, sz, s1⟩ k → ¬ Im k ∧ k < w.heap.size ∧ (X.own k ∨ X.w0.heap.size ≤ k) ∧ ∀ u o'' l'', u ≠ m → σ.objs u = some o'' → O u = .live l'' → ¬ Own o'' l'' k) :
 SimW G X (σ.setO m (some o')) tm w (upd O m (.live ⟨some bk, cap, sz, s1⟩)) Im ∧ ∀ u, SameL (O u) (upd O m (.live ⟨some bk, cap, sz, s1⟩) u) := by
 have hs : ∀ u, SameL (O u) (upd O m (.live ⟨some bk, cap, sz, s1⟩) u) := by
  intro u
  by_cases e : u = m
  ·subst e; rw [xf]; exact .inr ⟨bk, cap, sz, s0, s1, hl, rfl⟩
  ·rw [yf _ _ _ _ e]; exact .inl rfl
 have hobj : ∀ u o2, (σ.setO m (some o')).objs u = some o2 → (u = m ∧ o2 = o') ∨ (u ≠ m ∧ σ.objs u = some o2) := by
  intro u o2 h
  by_cases e : u = m
  ·subst e; simp [St.setO] at h; exact .inl ⟨rfl, h.symm⟩
  ·exact .inr ⟨e, by simpa [St.setO, e] using h⟩
 refine ⟨⟨s.ext, s.ownlt, s.imlt, s.im0, s.im1, ?_, ?_, ?_, fun t => (s.slot t).resub hs, s.glob⟩, hs⟩
 ·intro u hu l
  by_cases e : u = m
  ·subst e; simp [St.setO] at hu
  ·rw [yf _ _ _ _ e]; exact s.dead u (by simpa [St.setO, e] using hu) l
 ·intro u o2 h
  rcases hobj u o2 h with ⟨rfl, rfl⟩ | ⟨e, h⟩
  ·exact ⟨_, xf _ _ _, hr.resub hs, fun k hk => ⟨(hown k hk).1, (hown k hk).2.1, (hown k hk).2.2.1⟩⟩
  ·obtain ⟨l, g1, g2, g3⟩ := s.obj u o2 h
   exact ⟨l, by rw [yf _ _ _ _ e]; exact g1, g2.resub hs, g3⟩
 ·intro u u' o2 o2' l l' k hne h h' hlu hlu' hk
  rcases hobj u o2 h with ⟨e1, e2⟩ | ⟨e, hh⟩
  ·subst e1 e2
   rw [xf] at hlu; cases hlu
   rcases hobj u' o2' h' with ⟨e3, _⟩ | ⟨e', hh'⟩
   ·exact absurd e3.symm hne
   ·rw [yf _ _ _ _ e'] at hlu'
    exact (hown k hk).2.2.2 u' o2' l' e' hh' hlu'
  ·rw [yf _ _ _ _ e] at hlu
   rcases hobj u' o2' h' with ⟨e3, e4⟩ | ⟨e', hh'⟩
   ·subst e3 e4
    rw [xf] at hlu'; cases hlu'
    exact fun hk' => (hown k hk').2.2.2 u o2 l e hh hlu hk
   ·rw [yf _ _ _ _ e'] at hlu'
    exact s.disj u u' o2 o2' l l' k hne hh hh' hlu hlu' hk
end
theorem w0o : ∀ {l : List Nat}, u0j l = true → l.Nodup
 | [], _ => .nil
 | x :: xs, h => by
  simp only [u0j, Bool.and_eq_true, Bool.not_eq_true', List.contains_eq_mem, decide_eq_false_iff_not] at h
  exact List.nodup_cons.2 ⟨h.1, w0o h.2⟩
inductive Blks (σ : St) (O : Nat → LS) : List Nat → List Nat → Prop
 | nil : Blks σ O [] []
 | skip (id ids fp) : Blks σ O ids fp → Blks σ O (id :: ids) fp
 | cons (id fo o l ids fp) : σ.objs id = some o → O id = .live l → (∀ k ∈ fo, Own o l k) → fo.Nodup → Blks σ O ids fp → Blks σ O (id :: ids) (fo ++ fp)
theorem Blks.app {σ O} : ∀ {i1 i2 f1 f2}, Blks σ O i1 f1 → Blks σ O i2 f2 → Blks σ O (i1 ++ i2) (f1 ++ f2)
 | _, _, _, _, .nil, q => q
 | _, _, _, _, .skip id _ _ p, q => .skip id _ _ (p.app q)
 | _, _, _, _, .cons id fo o l _ _ h1 h2 h3 h4 p, q => by rw [List.append_assoc]; exact .cons id fo o l _ _ h1 h2 h3 h4 (p.app q)
theorem Blks.mem {σ O} : ∀ {ids fp}, Blks σ O ids fp → ∀ b ∈ fp, ∃ id o l, id ∈ ids ∧ σ.objs id = some o ∧ O id = .live l ∧ Own o l b
 | _, _, .nil, b, hb => by simp at hb
 | _, _, .skip id _ _ p, b, hb => by obtain ⟨i, o, l, h, r⟩ := p.mem b hb; exact ⟨i, o, l, List.mem_cons_of_mem _ h, r⟩
 | _, _, .cons id fo o l _ _ h1 h2 h3 h4 p, b, hb => by
  rcases List.mem_append.1 hb with hb | hb
  ·exact ⟨id, o, l, by simp, h1, h2, h3 b hb⟩
  ·obtain ⟨i, o, l, h, r⟩ := p.mem b hb; exact ⟨i, o, l, List.mem_cons_of_mem _ h, r⟩

section
variable {P : Program} {G : Nat → Option (List D)} {X : Ctx} {σ : St} {tm : Array Value} {w : World} {O : Nat → LS} {Im : Nat → Prop}
theorem Blks.nodup (s : SimW G X σ tm w O Im) : ∀ {ids fp}, Blks σ O ids fp → ids.Nodup → fp.Nodup
 | _, _, .nil, _ => .nil
 | _, _, .skip id _ _ p, h => p.nodup s (List.nodup_cons.1 h).2
 | _, _, .cons id fo o l _ _ h1 h2 h3 hn p, h => by
  obtain ⟨h4, h5⟩ := List.nodup_cons.1 h
  refine List.nodup_append.2 ⟨hn, p.nodup s h5, fun b hb b' hb' e => ?_⟩
  subst e
  obtain ⟨id', o', l', g1, g2, g3, g4⟩ := p.mem b hb'
  exact s.disj id id' o o' l l' b (fun e => h4 (e ▸ g1)) h1 g2 h2 g3 (h3 b hb) g4

theorem x1n (s : SimW G X σ tm w O Im) {c : SC} {v : Value} {d : D} {ids : List Nat} (r : RelC w.heap Im O c v) (e : σ.outC0 c = some (d, ids)) : ∃ fp, RelD w.heap Im d v fp ∧ Blks σ O ids fp := by
 cases c with
 | d d' => simp only [St.outC0, Option.some.injEq, Prod.mk.injEq] at e; obtain ⟨rfl, rfl⟩ := e; exact ⟨[], r.d_inv, .nil⟩
 | nl sz => simp only [St.outC0, Option.some.injEq, Prod.mk.injEq] at e; obtain ⟨rfl, rfl⟩ := e; cases r with | nl _ a0 => exact ⟨[], .o0 sz a0, .nil⟩
 | r id off len =>
  simp only [St.outC0] at e
  split at e
  ·rename_i sz rows hob
   split at e
   ·rename_i hle
    simp only [Option.some.injEq, Prod.mk.injEq] at e; obtain ⟨rfl, rfl⟩ := e
    have := v3l (a := ⟨tm, []⟩) s r (c := .r id off len) (d := .l sz ((rows.drop off).take len)) (by simp [St.toD, hob, hle])
    exact ⟨[], this, .nil⟩
   ·cases e
  ·rename_i sz rows hob
   have key : off = 0 ∧ len ≤ rows.length → ∃ fp, RelD w.heap Im (.o sz (rows.take len)) v fp ∧ Blks σ O [id] fp := by
    rintro ⟨hoff, hlen⟩
    obtain ⟨l, hl, hr, hb⟩ := s.obj id _ hob
    cases r with
    | rd _ _ _ _ h1 => rw [h1] at hl; cases hl
    | rn _ cap sz' a0 h1 =>
     rw [h1] at hl; cases hl
     exact ⟨[], .o0 sz a0, .skip _ _ _ .nil⟩
    | r _ _ _ b cap sz' ad c h1 h2 h3 h4 =>
     rw [h1] at hl; cases hl
     subst hoff
     cases hr with
     | arr _ _ _ _ _ cur e fr k1 k2 k3 k4 k5 k6 k7 k8 =>
      obtain rfl := k2 rfl
      have hl' : (rows.take len).length = len := by simp; omega
      have hc : RelCs w.heap Im (rows.take len).flatten cur.toList [] := by rw [← xp k3]; exact k7.take _
      have := RelD.o (h := w.heap) (Im := Im) sz (rows.take len) b cap ad c cur e k1 (fun r hr => k3 r (List.mem_of_mem_take hr)) (by omega) (by omega) k5 k6 (by simpa using h4) hc
      rw [hl'] at this
      exact ⟨[b], this, .cons _ [b] _ _ _ _ hob h1 (fun k hk => by simp at hk; subst hk; exact .inl rfl) (by simp) .nil⟩
   split at e
   ·rename_i hle
    simp only [Option.some.injEq, Prod.mk.injEq] at e; obtain ⟨rfl, rfl⟩ := e
    have := key ⟨hle.1, by omega⟩
    rw [hle.2, List.take_length] at this
    exact this
   ·split at e
    ·rename_i hle
     simp only [Option.some.injEq, Prod.mk.injEq] at e; obtain ⟨rfl, rfl⟩ := e
     exact key hle
    ·cases e
  ·rename_i sz rows hob
   split at e
   ·rename_i hle
    simp only [Option.some.injEq, Prod.mk.injEq] at e; obtain ⟨rfl, rfl⟩ := e
    obtain ⟨hoff, hlen⟩ := hle
    obtain ⟨l, hl, hr, hb⟩ := s.obj id _ hob
    cases r with
    | rd _ _ _ _ h1 => rw [h1] at hl; cases hl
    | rn _ cap sz' a0 h1 =>
     rw [h1] at hl; cases hl
     cases hr
     exact ⟨[], .t0 sz a0, .skip _ _ _ .nil⟩
    | @r _ _ _ b cap sz' ad c sub0 h1 h2 h3 h4 =>
     rw [h1] at hl; cases hl
     subst hoff hlen
     cases hr with
     | tre _ _ _ _ _ cur e _ k1 k2 k3 k4 k5 k6 k7 k8 k9 =>
      exact ⟨b :: sub0, .t sz rows b cap ad c cur e sub0 k1 k2 h2 (by omega) k4 k5 (by simpa using h4) k8, by
       have := Blks.cons (σ := σ) (O := O) id (b :: sub0) _ _ [] [] hob h1 (fun k hk => by
        rcases List.mem_cons.1 hk with rfl | hk
        ·exact .inl rfl
        ·exact .inr hk) k7 .nil
       simpa using this⟩
   ·cases e
  ·cases e
 | _ => simp [St.outC0] at e
theorem z2h (s : SimW G X σ tm w O Im) : ∀ {cs : List SC} {vs : List Value} {ds : List D} {ids : List Nat}, RelCl w.heap Im O cs vs → σ.outCs cs = some (ds, ids) → ∃ fp, RelCs w.heap Im ds vs fp ∧ Blks σ O ids fp ∧ ds.length = cs.length
 | [], vs, ds, ids, r, e => by simp only [St.outCs, Option.some.injEq, Prod.mk.injEq] at e; obtain ⟨rfl, rfl⟩ := e; exact ⟨[], .nil _, .nil, rfl⟩
 | c :: cs, vs, ds, ids, r, e => by
  cases r with
  | cons _ v _ vs' r1 r2 =>
   simp only [St.outCs] at e
   split at e
   ·rename_i d i ds' is h1 h2
    simp only [Option.some.injEq, Prod.mk.injEq] at e; obtain ⟨rfl, rfl⟩ := e
    obtain ⟨f1, g1, b1⟩ := x1n s r1 h1
    obtain ⟨f2, g2, b2, hl⟩ := z2h s r2 h2
    exact ⟨f1 ++ f2, .cons _ _ _ _ _ _ g1 g2, b1.app b2, by simp [hl]⟩
   ·cases e
theorem u3y (s : SimW G X σ tm w O Im) {c : SC} {v : Value} {d : D} {ids : List Nat} (r : RelC w.heap Im O c v) (e : σ.outC c = some (d, ids)) : ∃ fp, RelD w.heap Im d v fp ∧ Blks σ O ids fp := by
 unfold St.outC at e
 split at e
 ·rename_i id
  split at e
  ·rename_i cells hob
   simp only [Option.map_eq_some_iff, Prod.mk.injEq] at e
   obtain ⟨⟨ds, is⟩, e, rfl, rfl⟩ := e
   obtain ⟨l, hl, hr, hb⟩ := s.obj id _ hob
   cases r with
   | p _ _ r =>
    cases r with
    | qd _ _ _ _ h1 => rw [h1] at hl; cases hl
    | q _ _ _ b cap sz h1 =>
     rw [h1] at hl; cases hl
     cases hr with
     | box _ _ c e' k1 k2 k3 =>
      obtain ⟨fp, g1, g2, g3⟩ := z2h s k2 e
      have hcl := k2.len
      simp only [Array.length_toList] at hcl
      exact ⟨b :: fp, by simpa using RelD.x ds b c e' fp k1 (by omega) g1, .cons _ [b] _ _ _ _ hob h1 (fun k hk => by simp at hk; subst hk; exact .inl rfl) (by simp) g2⟩
  ·cases e
 ·exact x1n s r e
theorem u2g (s : SimW G X σ tm w O Im) : ∀ {cs : List SC} {vs : List Value} {ds : List D} {ids : List Nat}, RelCl w.heap Im O cs vs → σ.outEs cs = some (ds, ids) → ∃ fp, RelCs w.heap Im ds vs fp ∧ Blks σ O ids fp ∧ ds.length = cs.length
 | [], vs, ds, ids, r, e => by simp only [St.outEs, Option.some.injEq, Prod.mk.injEq] at e; obtain ⟨rfl, rfl⟩ := e; exact ⟨[], .nil _, .nil, rfl⟩
 | c :: cs, vs, ds, ids, r, e => by
  cases r with
  | cons _ v _ vs' r1 r2 =>
   simp only [St.outEs] at e
   split at e
   ·rename_i d i ds' is h1 h2
    simp only [Option.some.injEq, Prod.mk.injEq] at e; obtain ⟨rfl, rfl⟩ := e
    obtain ⟨f1, g1, b1⟩ := u3y s r1 h1
    obtain ⟨f2, g2, b2, hl⟩ := u2g s r2 h2
    exact ⟨f1 ++ f2, .cons _ _ _ _ _ _ g1 g2, b1.app b2, by simp [hl]⟩
   ·cases e
end
section
variable {P : Program} {G : Nat → Option (List D)} {X : Ctx} {σ : St} {tm : Array Value} {w : World} {O : Nat → LS} {Im : Nat → Prop}
def x0h (X : Ctx) (σ : St) (w : World) (O : Nat → LS) (Im : Nat → Prop) (b : Nat) : Prop :=
 ¬ Im b ∧ b < w.heap.size ∧ (X.own b ∨ X.w0.heap.size ≤ b) ∧ ∀ u o l', σ.objs u = some o → O u = .live l' → ¬ Own o l' b
structure Added (σ : St) (O : Nat → LS) (σ' : St) (O' : Nat → LS) (fp : List Nat) : Prop where
 slots : σ'.slots = σ.slots
 next : σ.next ≤ σ'.next
 free : ∀ u, σ'.next ≤ u → O' u = .free
 old : ∀ u, O u ≠ .free → O' u = O u
 own : ∀ u o l b, σ'.objs u = some o → O' u = .live l → Own o l b → b ∈ fp ∨ ∃ u o l, σ.objs u = some o ∧ O u = .live l ∧ Own o l b
theorem Added.refl (hf : ∀ u, σ.next ≤ u → O u = .free) : Added σ O σ O [] := ⟨rfl, Nat.le_refl _, hf, fun _ _ => rfl, fun u o l b h1 h2 h3 => .inr ⟨u, o, l, h1, h2, h3⟩⟩
theorem Added.trans {σ1 σ2 : St} {O1 O2 : Nat → LS} {f1 f2 : List Nat} (a : Added σ O σ1 O1 f1) (b : Added σ1 O1 σ2 O2 f2) : Added σ O σ2 O2 (f1 ++ f2) := by
 refine ⟨b.slots.trans a.slots, Nat.le_trans a.next b.next, b.free, fun u hu => ?_, fun u o l k h1 h2 h3 => ?_⟩
 ·have := a.old u hu
  rw [b.old u (by rw [this]; exact hu), this]
 ·rcases b.own u o l k h1 h2 h3 with h | ⟨u', o', l', g1, g2, g3⟩
  ·exact .inl (List.mem_append_right _ h)
  ·exact (a.own u' o' l' k g1 g2 g3).imp (List.mem_append_left _) id
theorem Added.moves {σ' : St} {O' : Nat → LS} {fp : List Nat} (a : Added σ O σ' O' fp) (h : Array Obj) (Im : Nat → Prop) : Moves h h Im Im O O' := ⟨fun _ h => h, fun _ _ => rfl, fun u hu => .inl (a.old u hu)⟩
theorem x0h.later {σ' : St} {O' : Nat → LS} {fp : List Nat} (a : Added σ O σ' O' fp) {b : Nat} (hb : b ∉ fp) (h : x0h X σ w O Im b) : x0h X σ' w O' Im b := by
 refine ⟨h.1, h.2.1, h.2.2.1, fun u o l h1 h2 h3 => ?_⟩
 rcases a.own u o l b h1 h2 h3 with h' | ⟨u', o', l', g1, g2, g3⟩
 ·exact hb h'
 ·exact h.2.2.2 u' o' l' g1 g2 g3

theorem u3k (s : SimW G X σ tm w O Im) (hf : ∀ u, σ.next ≤ u → O u = .free) {d : D} {v : Value} {fp : List Nat} (r : RelD w.heap Im d v fp) (hn : fp.Nodup) (hfp : ∀ b ∈ fp, x0h X σ w O Im b) (hnx : ∀ c, d ≠ .x c) :
 ∃ O', SimW G X (σ.addD0 d).1 tm w O' Im ∧ Added σ O (σ.addD0 d).1 O' fp ∧ RelC w.heap Im O' (σ.addD0 d).2 v := by
 have hnn : ∀ (l : Loc) (u : Nat), O u ≠ .free → upd O σ.next (.live l) u = O u := fun l u hu => yf _ _ _ _ (fun e => hu (e ▸ hf _ (Nat.le_refl _)))
 have hfr : ∀ (l : Loc) (o : VO) (u : Nat), (σ.new o).next ≤ u → upd O σ.next (.live l) u = .free := fun l o u hu => by
  have : σ.next + 1 ≤ u := hu
  rw [yf _ _ _ _ (by omega)]; exact hf u (by omega)
 cases r with
 | o0 sz a =>
  refine ⟨upd O σ.next (.live ⟨none, 0, sz, []⟩), s.adopt (l := ⟨none, 0, sz, []⟩) (hf _ (Nat.le_refl _)) (vo := .arr sz [] false) (.an _ _ _) (fun b h => by simp [Own] at h) rfl (by funext u; simp [St.addD0, St.new, upd]), ⟨rfl, Nat.le_succ _, hfr _ _, hnn _, ?_⟩, .rn _ 0 sz a (xf _ _ _)⟩
  intro u o l b h1 h2 h3
  by_cases e : u = σ.next
  ·subst e
   rw [xf] at h2; cases h2
   simp [St.addD0, St.new] at h1; subst h1
   simp [Own] at h3
  ·rw [yf _ _ _ _ e] at h2
   exact .inr ⟨u, o, l, by simpa [St.addD0, St.new, e] using h1, h2, h3⟩
 | o sz rows b cap ad sc c e h1 h2 h3 h4 h5 h6 h7 h8 =>
  obtain ⟨q1, q2, q3, q4⟩ := hfp b (by simp)
  refine ⟨upd O σ.next (.live ⟨some b, cap, sz, []⟩), s.adopt (l := ⟨some b, cap, sz, []⟩) (hf _ (Nat.le_refl _)) (vo := .arr sz rows false) ?_ ?_ rfl (by funext u; simp [St.addD0, St.new, upd]), ⟨rfl, Nat.le_succ _, hfr _ _, hnn _, ?_⟩, ?_⟩
  ·exact .arr sz rows false b cap c e (0, 0) h1 (fun _ => rfl) h2 (by omega) h5 h6 h8 ⟨fun h => (by cases h), fun h => absurd h q1⟩
  ·intro b' hb'; simp only [Own, Option.some.injEq, List.not_mem_nil, or_false] at hb'; subst hb'; exact ⟨q1, q2, q3, q4⟩
  ·intro u o l b' g1 g2 g3
   by_cases e : u = σ.next
   ·subst e
    rw [xf] at g2; cases g2
    simp [St.addD0, St.new] at g1; subst g1
    simp only [Own, Option.some.injEq, List.not_mem_nil, or_false] at g3
    exact .inl (by simp [g3])
   ·rw [yf _ _ _ _ e] at g2
    exact .inr ⟨u, o, l, by simpa [St.addD0, St.new, e] using g1, g2, g3⟩
  ·exact .r _ _ _ b cap sz ad sc (xf _ _ _) h3 (by omega) (by simpa using h7)
 | t0 sz a =>
  refine ⟨upd O σ.next (.live ⟨none, 0, sz, []⟩), s.adopt (l := ⟨none, 0, sz, []⟩) (hf _ (Nat.le_refl _)) (vo := .tre sz [] none) (.tn _ _) (fun b h => by simp [Own] at h) rfl (by funext u; simp [St.addD0, St.new, upd]), ⟨rfl, Nat.le_succ _, hfr _ _, hnn _, ?_⟩, .rn _ 0 sz a (xf _ _ _)⟩
  intro u o l b h1 h2 h3
  by_cases e : u = σ.next
  ·subst e
   rw [xf] at h2; cases h2
   simp [St.addD0, St.new] at h1; subst h1
   simp [Own] at h3
  ·rw [yf _ _ _ _ e] at h2
   exact .inr ⟨u, o, l, by simpa [St.addD0, St.new, e] using h1, h2, h3⟩
 | t sz rows b cap ad sc c e fp h1 h2 h3 h4 h5 h6 h7 h8 =>
  obtain ⟨q1, q2, q3, q4⟩ := hfp b (by simp)
  have hOwn : ∀ k, Own (.tre sz rows none) ⟨some b, cap, sz, fp⟩ k → k ∈ b :: fp := by
   intro k hk
   rcases hk with hk | hk
   ·simp only [Option.some.injEq] at hk; simp [hk]
   ·exact List.mem_cons_of_mem _ hk
  refine ⟨upd O σ.next (.live ⟨some b, cap, sz, fp⟩), s.adopt (l := ⟨some b, cap, sz, fp⟩) (hf _ (Nat.le_refl _)) (vo := .tre sz rows none) ?_ ?_ rfl (by funext u; simp [St.addD0, St.new, upd]), ⟨rfl, Nat.le_succ _, hfr _ _, hnn _, ?_⟩, ?_⟩
  ·exact .tre sz rows none b cap c e fp h1 h2 (by omega) h5 h6 q1 hn h8 trivial
  ·intro b' hb'; exact hfp b' (hOwn b' hb')
  ·intro u o l b' g1 g2 g3
   by_cases e : u = σ.next
   ·subst e
    rw [xf] at g2; cases g2
    simp [St.addD0, St.new] at g1; subst g1
    exact .inl (hOwn b' g3)
   ·rw [yf _ _ _ _ e] at g2
    exact .inr ⟨u, o, l, by simpa [St.addD0, St.new, e] using g1, g2, g3⟩
  ·exact .r _ _ _ b cap sz ad sc (xf _ _ _) h3 (by omega) (by simpa using h7)
 | w v h => exact ⟨O, s, .refl hf, .dead _ h⟩
 | v _ h => exact ⟨O, s, .refl hf, .d _ _ (.v _ h)⟩
 | x cells => exact absurd rfl (hnx cells)
 | i => exact ⟨O, s, .refl hf, .d _ _ (.i _ _)⟩
 | b => exact ⟨O, s, .refl hf, .d _ _ (.b _)⟩
 | s => exact ⟨O, s, .refl hf, .d _ _ (.s _)⟩
 | np => exact ⟨O, s, .refl hf, .d _ _ .np⟩
 | nf => exact ⟨O, s, .refl hf, .d _ _ .nf⟩
 | l0 sz a cap => exact ⟨O, s, .refl hf, .d _ _ (.l0 sz a cap)⟩
 | l sz rows b off cap c e fr h1 h2 h3 h4 h5 => exact ⟨O, s, .refl hf, .d _ _ (.l sz rows b off cap c e fr h1 h2 h3 h4 h5)⟩
 | k cells b c e fr h1 h2 h3 => exact ⟨O, s, .refl hf, .d _ _ (.k cells b c e fr h1 h2 h3)⟩
 | f fn caps cv h1 h2 => exact ⟨O, s, .refl hf, .d _ _ (.f fn caps cv h1 h2)⟩
theorem y1a : ∀ {ds : List D} {vs : List Value} {fp : List Nat} {σ : St} {O : Nat → LS}, SimW G X σ tm w O Im → (∀ u, σ.next ≤ u → O u = .free) → RelCs w.heap Im ds vs fp → fp.Nodup → (∀ b ∈ fp, x0h X σ w O Im b) →
 ∃ O', SimW G X (σ.addDs ds).1 tm w O' Im ∧ Added σ O (σ.addDs ds).1 O' fp ∧ RelCl w.heap Im O' (σ.addDs ds).2 (vs.take ds.length)
 | [], vs, fp, σ, O, s, hf, r, hn, hfp => by cases r; exact ⟨O, s, .refl hf, .nil⟩
 | d :: ds, vs, fp, σ, O, s, hf, r, hn, hfp => by
  cases r with
  | cons _ v f1 _ vs' f2 r1 r2 =>
   obtain ⟨n1, n2, n3⟩ := List.nodup_append.1 hn
   have step : ∃ O', SimW G X (σ.addD0 d).1 tm w O' Im ∧ Added σ O (σ.addD0 d).1 O' f1 ∧ RelC w.heap Im O' (σ.addD0 d).2 v := by
    by_cases hx : ∃ c, d = .x c
    ·obtain ⟨c, rfl⟩ := hx
     have hv := r1.one.2
     refine ⟨O, s, ⟨rfl, Nat.le_refl _, hf, fun _ _ => rfl, fun u o l b h1 h2 h3 => .inr ⟨u, o, l, h1, h2, h3⟩⟩, .dead _ hv⟩
    ·exact u3k s hf r1 n1 (fun b hb => hfp b (by simp [hb])) (fun c e => hx ⟨c, e⟩)
   obtain ⟨O1, s1, a1, q1⟩ := step
   obtain ⟨O2, s2, a2, q2⟩ := y1a (ds := ds) s1 a1.free r2 n2 (fun b hb => (hfp b (by simp [hb])).later a1 (fun h => n3 b h b hb rfl))
   exact ⟨O2, s2, a1.trans a2, .cons _ _ _ _ (q1.moves (a2.moves w.heap Im)) q2⟩
theorem v4d (s : SimW G X σ tm w O Im) (hf : ∀ u, σ.next ≤ u → O u = .free) {d : D} {v : Value} {fp : List Nat} (r : RelD w.heap Im d v fp) (hn : fp.Nodup) (hfp : ∀ b ∈ fp, x0h X σ w O Im b) :
 ∃ O', SimW G X (σ.addD d).1 tm w O' Im ∧ Added σ O (σ.addD d).1 O' fp ∧ RelC w.heap Im O' (σ.addD d).2 v := by
 by_cases hx : ∃ c, d = .x c
 ·obtain ⟨c, rfl⟩ := hx
  cases r with
  | x cells b cc e fp h1 h2 h3 =>
   obtain ⟨n1, n2⟩ := List.nodup_cons.1 hn
   obtain ⟨O1, s1, a1, q1⟩ := y1a s hf h3 n2 (fun k hk => hfp k (by simp [hk]))
   obtain ⟨p1, p2, p3, p4⟩ := (hfp b (by simp)).later a1 n1
   have hl1 := q1.len
   have htk : (cc.toList.take c.length) = cc.toList := by rw [← h2, ← Array.length_toList, List.take_length]
   rw [htk] at q1 hl1
   simp only [Array.length_toList] at hl1
   generalize hσ : σ.addDs c = r at *
   obtain ⟨σ1, cs⟩ := r
   have hfree1 : O1 σ1.next = .free := a1.free _ (Nat.le_refl _)
   have hnn : ∀ (u : Nat), O1 u ≠ .free → upd O1 σ1.next (.live ⟨some b, 1, cs.length, []⟩) u = O1 u := fun u hu => yf _ _ _ _ (fun e => hu (e ▸ hfree1))
   have q1' : RelCl w.heap Im (upd O1 σ1.next (.live ⟨some b, 1, cs.length, []⟩)) cs cc.toList := q1.moves ⟨fun _ h => h, fun _ _ => rfl, fun u hu => .inl (hnn u hu)⟩
   refine ⟨upd O1 σ1.next (.live ⟨some b, 1, cs.length, []⟩), ?_, ?_, ?_⟩
   ·simp only [St.addD, hσ]
    exact s1.adopt (l := ⟨some b, 1, cs.length, []⟩) hfree1 (vo := .box cs) (.box _ b cc e h1 q1' p1) (fun b' hb' => by simp only [Own, Option.some.injEq, List.not_mem_nil, or_false] at hb'; subst hb'; exact ⟨p1, p2, p3, p4⟩) rfl (by funext u; simp [St.new, upd])
   ·simp only [St.addD, hσ]
    have a2 : Added σ1 O1 (σ1.new (.box cs)) (upd O1 σ1.next (.live ⟨some b, 1, cs.length, []⟩)) [b] := by
     refine ⟨rfl, Nat.le_succ _, fun u hu => ?_, hnn, fun u o l b' g1 g2 g3 => ?_⟩
     ·have : σ1.next + 1 ≤ u := hu
      rw [yf _ _ _ _ (by omega)]; exact a1.free u (by show σ1.next ≤ u; omega)
     ·by_cases e : u = σ1.next
      ·subst e
       rw [xf] at g2; cases g2
       simp [St.new] at g1; subst g1
       simp only [Own, Option.some.injEq, List.not_mem_nil, or_false] at g3
       exact .inl (by simp [g3])
      ·rw [yf _ _ _ _ e] at g2
       exact .inr ⟨u, o, l, by simpa [St.new, e] using g1, g2, g3⟩
    have := a1.trans a2
    exact ⟨this.slots, this.next, this.free, this.old, fun u o l k g1 g2 g3 => (this.own u o l k g1 g2 g3).imp (fun h => by simp at h ⊢; exact h.symm) id⟩
   ·simp only [St.addD, hσ]
    have := RelP.q (h := w.heap) (Im := Im) (O := upd O1 σ1.next (.live ⟨some b, 1, cs.length, []⟩)) σ1.next 0 0 b 1 cs.length (xf _ _ _)
    exact .p _ _ (by simpa using this)
 ·have e : σ.addD d = σ.addD0 d := by cases d <;> simp_all [St.addD]
  rw [e]
  exact u3k s hf r hn hfp (fun c e => hx ⟨c, e⟩)
theorem w3k : ∀ {ds : List D} {vs : List Value} {fp : List Nat} {σ : St} {O : Nat → LS}, SimW G X σ tm w O Im → (∀ u, σ.next ≤ u → O u = .free) → RelCs w.heap Im ds vs fp → fp.Nodup → (∀ b ∈ fp, x0h X σ w O Im b) →
 ∃ O', SimW G X (σ.addEs ds).1 tm w O' Im ∧ Added σ O (σ.addEs ds).1 O' fp ∧ RelCl w.heap Im O' (σ.addEs ds).2 (vs.take ds.length)
 | [], vs, fp, σ, O, s, hf, r, hn, hfp => by cases r; exact ⟨O, s, .refl hf, .nil⟩
 | d :: ds, vs, fp, σ, O, s, hf, r, hn, hfp => by
  cases r with
  | cons _ v f1 _ vs' f2 r1 r2 =>
   obtain ⟨n1, n2, n3⟩ := List.nodup_append.1 hn
   obtain ⟨O1, s1, a1, q1⟩ := v4d s hf r1 n1 (fun b hb => hfp b (by simp [hb]))
   obtain ⟨O2, s2, a2, q2⟩ := w3k (ds := ds) s1 a1.free r2 n2 (fun b hb => (hfp b (by simp [hb])).later a1 (fun h => n3 b h b hb rfl))
   exact ⟨O2, s2, a1.trans a2, .cons _ _ _ _ (q1.moves (a2.moves w.heap Im)) q2⟩
theorem z0p : ∀ (ds : List D) (σ : St) (v : Nat), v < σ.next → (σ.addDs ds).1.objs v = σ.objs v ∧ σ.next ≤ (σ.addDs ds).1.next
 | [], σ, v, h => ⟨rfl, Nat.le_refl _⟩
 | d :: ds, σ, v, h => by
  have h1 : (σ.addD0 d).1.objs v = σ.objs v ∧ σ.next ≤ (σ.addD0 d).1.next := by
   unfold St.addD0
   split
   ·exact ⟨by simp [St.new]; intro e; omega, Nat.le_succ _⟩
   ·exact ⟨by simp [St.new]; intro e; omega, Nat.le_succ _⟩
   ·exact ⟨rfl, Nat.le_refl _⟩
   ·exact ⟨rfl, Nat.le_refl _⟩
   ·exact ⟨rfl, Nat.le_refl _⟩
  obtain ⟨g1, g2⟩ := z0p ds (σ.addD0 d).1 v (by omega)
  exact ⟨g1.trans h1.1, Nat.le_trans h1.2 g2⟩
theorem u4d (d : D) (σ : St) (v : Nat) (h : v < σ.next) : (σ.addD d).1.objs v = σ.objs v ∧ σ.next ≤ (σ.addD d).1.next := by
 unfold St.addD
 split
 ·rename_i cells
  obtain ⟨g1, g2⟩ := z0p cells σ v h
  refine ⟨?_, Nat.le_succ_of_le g2⟩
  simp only [St.new]
  rw [if_neg (by omega)]; exact g1
 ·have := z0p [d] σ v h
  exact this
theorem v3k : ∀ (ds : List D) (σ : St) (v : Nat), v < σ.next → (σ.addEs ds).1.objs v = σ.objs v ∧ σ.next ≤ (σ.addEs ds).1.next
 | [], σ, v, h => ⟨rfl, Nat.le_refl _⟩
 | d :: ds, σ, v, h => by
  obtain ⟨h1, h2⟩ := u4d d σ v h
  obtain ⟨g1, g2⟩ := v3k ds (σ.addD d).1 v (by omega)
  exact ⟨g1.trans h1, Nat.le_trans h2 g2⟩
theorem SimW.kills : ∀ (ids : List Nat) {σ : St} {O : Nat → LS}, SimW G X σ tm w O Im → ∃ O', SimW G X (St.kills ids σ) tm w O' Im ∧ (∀ v, v ∉ ids → O' v = O v ∧ (St.kills ids σ).objs v = σ.objs v) ∧ (∀ v ∈ ids, (St.kills ids σ).objs v = none) ∧ (∀ v, O' v = O v ∨ O' v = .gone) ∧ (St.kills ids σ).next = σ.next ∧ (St.kills ids σ).slots = σ.slots
 | [], σ, O, s => ⟨O, s, fun v _ => ⟨rfl, rfl⟩, fun v h => (by cases h), fun v => .inl rfl, rfl, rfl⟩
 | m :: ms, σ, O, s => by
  obtain ⟨O', s', h1, h2, h3, h4, h5⟩ := SimW.kills ms (s.kill m)
  refine ⟨O', s', fun v hv => ?_, fun v hv => ?_, fun v => ?_, h4, h5⟩
  ·obtain ⟨g1, g2⟩ := h1 v (fun h => hv (List.mem_cons_of_mem _ h))
   have hne : v ≠ m := fun e => hv (by simp [e])
   exact ⟨by rw [g1, yf _ _ _ _ hne], by show (St.kills ms (σ.setO m none)).objs v = _; rw [g2]; simp [St.setO, hne]⟩
  ·by_cases hms : v ∈ ms
   ·exact h2 v hms
   ·rcases List.mem_cons.1 hv with rfl | h
    ·show (St.kills ms (σ.setO v none)).objs v = none
     rw [(h1 v hms).2]; simp [St.setO]
    ·exact absurd h hms
  ·rcases h3 v with h | h
   ·by_cases e : v = m
    ·subst e; right; rw [h, xf]
    ·left; rw [h, yf _ _ _ _ e]
   ·exact .inr h
theorem z3z (σ : St) (u : Nat) (o : Option VO) (o1 : VO) (hu : u < σ.next) : (σ.setO u o).new o1 = (σ.new o1).setO u o := by
 have key : ∀ v, (if v = σ.next then some o1 else if v = u then o else σ.objs v) = (if v = u then o else if v = σ.next then some o1 else σ.objs v) := by
  intro v
  by_cases e1 : v = u
  ·have : ¬ v = σ.next := by omega
   rw [if_neg this, if_pos e1, if_pos e1]
  ·rw [if_neg e1, if_neg e1]
 show St.mk _ _ _ = St.mk _ _ _
 congr 1
 funext v
 exact key v
theorem z3f (d : D) (σ : St) (u : Nat) (o : Option VO) (hu : u < σ.next) : (σ.setO u o).addD0 d = ((σ.addD0 d).1.setO u o, (σ.addD0 d).2) := by
 cases d <;> simp only [St.addD0, z3z _ _ _ _ hu] <;> rfl
theorem u3e : ∀ (ds : List D) (σ : St) (u : Nat) (o : Option VO), u < σ.next → (σ.setO u o).addDs ds = ((σ.addDs ds).1.setO u o, (σ.addDs ds).2)
 | [], σ, u, o, h => rfl
 | d :: ds, σ, u, o, h => by
  have h1 : u < (σ.addD0 d).1.next := by have := (z0p [d] σ u h).2; simp only [St.addDs] at this; omega
  simp only [St.addDs, z3f d σ u o h, u3e ds _ u o h1]
theorem x4z (d : D) (σ : St) (u : Nat) (o : Option VO) (hu : u < σ.next) : (σ.setO u o).addD d = ((σ.addD d).1.setO u o, (σ.addD d).2) := by
 cases d with
 | x cells =>
  have h1 : u < (σ.addDs cells).1.next := by have := (z0p cells σ u hu).2; omega
  simp only [St.addD, u3e cells σ u o hu]
  rw [z3z _ _ _ _ h1]; rfl
 | _ => simp only [St.addD]; exact z3f _ σ u o hu
theorem v3e : ∀ (ds : List D) (σ : St) (u : Nat) (o : Option VO), u < σ.next → (σ.setO u o).addEs ds = ((σ.addEs ds).1.setO u o, (σ.addEs ds).2)
 | [], σ, u, o, h => rfl
 | d :: ds, σ, u, o, h => by
  have h1 : u < (σ.addD d).1.next := by have := (u4d d σ u h).2; omega
  simp only [St.addEs, x4z d σ u o h, v3e ds _ u o h1]
structure Ghost (G : Nat → Option (List D)) (X : Ctx) (σ : St) (tm : Array Value) (w : World) (O : Nat → LS) (Im : Nat → Prop) (σ' : St) : Prop where
 ex : ∃ O' Im', SimW G X σ' tm w O' Im' ∧ (∀ u, σ'.next ≤ u → O' u = .free) ∧ (∀ b, Im b → Im' b) ∧ (∀ {x : SV} {v : Value}, RelV w.heap Im O x v → RelV w.heap Im' O' x v) ∧ σ'.slots = σ.slots
theorem Ghost.refl (s : SimW G X σ tm w O Im) (hf : ∀ u, σ.next ≤ u → O u = .free) : Ghost G X σ tm w O Im σ := ⟨O, Im, s, hf, fun _ h => h, fun r => r, rfl⟩
theorem ghF_ok (s : SimW G X σ tm w O Im) (hf : ∀ u, σ.next ≤ u → O u = .free) (u i : Nat) : Ghost G X σ tm w O Im (σ.ghF u i) := by
 unfold St.ghF
 split
 ·rename_i sz rows hob
  split
  ·rename_i ds hi
   obtain ⟨l, hl, hr, hb⟩ := s.obj u _ hob
   have hil : i < rows.length := (List.getElem?_eq_some_iff.1 hi).1
   have hunx : u < σ.next := Nat.lt_of_not_le fun h => by rw [hf u h] at hl; cases hl
   cases hr with
   | tn => simp at hil
   | tre _ _ _ b cap c e sub k1 k2 k3 k4 k5 k6 k7 k8 k9 =>
    have hds : ds.length = sz := k2 ds (List.mem_of_getElem? hi)
    have hset : rows.set i ds = rows := by
     obtain ⟨h1, h2⟩ := List.getElem?_eq_some_iff.1 hi
     rw [← h2]; simp
    have hvl : rows.length * sz ≤ c.toList.length := by have := Nat.mul_le_mul_right sz k3; simp only [Array.length_toList]; omega
    have hks : i * sz + sz ≤ rows.length * sz := by
     have := Nat.mul_le_mul_right sz (show i + 1 ≤ rows.length from hil)
     rw [Nat.add_mul] at this; omega
    have hvv : ((c.toList.drop (i * sz)).take sz).length = sz := by simp at hvl ⊢; omega
    obtain ⟨f1, f2, f3, rfl, r2, rb⟩ := RelCs.row_at (r0 := ds) k2 hil hds hvl (by rw [hset]; exact k8)
    have hones : ∀ v ∈ (c.toList.drop (i * sz)).take sz, v.oneCell' = true := r2.onesF (by rw [hvv, hds])
    have rw1 := rb (List.replicate sz .w) [] (by simp) (v4z sz (by rw [hvv]; exact Nat.le_refl _) hones)
    simp only [List.nil_append] at rw1
    obtain ⟨n0, n1⟩ := List.nodup_cons.1 k7
    obtain ⟨na, nb, nc⟩ := List.nodup_append.1 n1
    obtain ⟨nb1, nb2, nb3⟩ := List.nodup_append.1 nb
    have hsub : ∀ k, k ∈ f1 ++ f3 → k ∈ f1 ++ (f2 ++ f3) := fun k hk => by simp at hk ⊢; rcases hk with h | h <;> simp [h]
    have hnd : (b :: (f1 ++ f3)).Nodup := by
     refine List.nodup_cons.2 ⟨fun h => n0 (hsub _ h), List.nodup_append.2 ⟨na, nb2, fun x hx y hy => nc x hx y (by simp [hy])⟩⟩
    have hown1 : ∀ (o' : VO), (∀ a d, o' = .tre sz rows (some (a, d)) → True) → ∀ k, k ∈ b :: (f1 ++ f3) → ¬ Im k ∧ k < w.heap.size ∧ (X.own k ∨ X.w0.heap.size ≤ k) ∧ ∀ u' o'' l'', u' ≠ u → σ.objs u' = some o'' → O u' = .live l'' → ¬ Own o'' l'' k := by
     intro _ _ k hk
     have hk' : Own (.tre sz rows none) ⟨some b, cap, sz, f1 ++ (f2 ++ f3)⟩ k := by
      rcases List.mem_cons.1 hk with rfl | hk
      ·exact .inl rfl
      ·exact .inr (hsub k hk)
     obtain ⟨q1, q2, q3⟩ := hb k hk'
     exact ⟨q1, q2, q3, fun u' o'' l'' hne ho'' hl'' h => s.disj u' u o'' _ l'' _ k hne ho'' hob hl'' hl h hk'⟩
    have hOwn : ∀ (foc : Option (Nat × List SC)) k, Own (.tre sz rows foc) ⟨some b, cap, sz, f1 ++ f3⟩ k → k ∈ b :: (f1 ++ f3) := by
     intro foc k hk
     rcases hk with hk | hk
     ·simp only [Option.some.injEq] at hk; simp [hk]
     ·exact List.mem_cons_of_mem _ hk
    -- without the row
    obtain ⟨s1, hs1⟩ := s.reloc (o' := .tre sz rows (some (i, List.replicate sz .dead))) (s1 := f1 ++ f3) hob hl
     (.tre sz rows _ b cap c e (f1 ++ f3) k1 k2 k3 k4 k5 k6 hnd rw1 ⟨hil, by have := w4c (O := O) r2 (by rw [hvv, hds]); rw [hds] at this; exact this⟩)
     (fun k hk => hown1 (.box []) (fun _ _ _ => trivial) k (hOwn _ k hk))
    have hf1 : ∀ v, σ.next ≤ v → upd O u (.live ⟨some b, cap, sz, f1 ++ f3⟩) v = .free := fun v hv => by rw [yf _ _ _ _ (by omega)]; exact hf v hv
    have hnx1 : (σ.setO u (some (.tre sz rows (some (i, List.replicate sz .dead))))).next = σ.next := rfl
    -- what was in the row
    have hfresh : ∀ k ∈ f2, x0h X (σ.setO u (some (.tre sz rows (some (i, List.replicate sz .dead))))) w (upd O u (.live ⟨some b, cap, sz, f1 ++ f3⟩)) Im k := by
     intro k hk
     have hk' : Own (.tre sz rows none) ⟨some b, cap, sz, f1 ++ (f2 ++ f3)⟩ k := .inr (by simp [hk])
     obtain ⟨q1, q2, q3⟩ := hb k hk'
     refine ⟨q1, q2, q3, fun u' o'' l'' ho'' hl'' h => ?_⟩
     by_cases e' : u' = u
     ·subst e'
      rw [xf] at hl''; cases hl''
      simp [St.setO] at ho''; subst ho''
      rcases List.mem_cons.1 (hOwn _ k h) with rfl | h
      ·exact n0 (by simp [hk])
      ·rcases List.mem_append.1 h with h | h
       ·exact nc k h k (by simp [hk]) rfl
       ·exact nb3 k hk k h rfl
     ·rw [yf _ _ _ _ e'] at hl''
      exact s.disj u' u o'' _ l'' _ k e' (by simpa [St.setO, e'] using ho'') hob hl'' hl h hk'
    obtain ⟨O2, s2, a2, q2⟩ := w3k s1 hf1 r2 nb1 hfresh
    have hsame : (σ.setO u (some (.tre sz rows (some (i, List.replicate sz .dead))))).addEs ds = (((σ.addEs ds).1.setO u (some (.tre sz rows (some (i, List.replicate sz .dead))))), (σ.addEs ds).2) := v3e ds σ u _ hunx
    rw [hsame] at s2 a2 q2
    simp only at s2 a2 q2
    have hO2u : O2 u = .live ⟨some b, cap, sz, f1 ++ f3⟩ := by rw [a2.old u (by rw [xf]; simp), xf]
    have hob2 : ((σ.addEs ds).1.setO u (some (.tre sz rows (some (i, List.replicate sz .dead))))).objs u = some (.tre sz rows (some (i, List.replicate sz .dead))) := by simp [St.setO]
    rw [hds, List.take_take, Nat.min_self] at q2
    obtain ⟨l2, hl2, hr2, hb2⟩ := s2.obj u _ hob2
    rw [hO2u] at hl2; cases hl2
    obtain ⟨s3, hs3⟩ := s2.reloc (o' := .tre sz rows (some (i, (σ.addEs ds).2))) (s1 := f1 ++ f3) hob2 hO2u
     (.tre sz rows _ b cap c e (f1 ++ f3) k1 k2 k3 k4 k5 k6 hnd rw1 ⟨hil, q2⟩)
     (fun k hk => by
       obtain ⟨g1, g2, g3⟩ := hb2 k hk
       exact ⟨g1, g2, g3, fun u' o'' l'' hne ho'' hl'' h => s2.disj u' u o'' _ l'' _ k hne ho'' hob2 hl'' hO2u h hk⟩)
    have hfin : ((σ.addEs ds).1.setO u (some (.tre sz rows (some (i, List.replicate sz .dead))))).setO u (some (.tre sz rows (some (i, (σ.addEs ds).2)))) = (σ.addEs ds).1.setO u (some (.tre sz rows (some (i, (σ.addEs ds).2)))) := by
     simp only [St.setO, St.mk.injEq, true_and, and_true]
     funext v
     by_cases e' : v = u <;> simp [e']
    rw [hfin] at s3
    refine ⟨⟨_, Im, s3, ?_, fun _ h => h, fun r => ?_, ?_⟩⟩
    ·intro v hv
     have hv' : (σ.addEs ds).1.next ≤ v := hv
     have := (v3k ds σ u hunx).2
     rw [yf _ _ _ _ (by omega)]
     exact a2.free v hv
    ·exact ((r.resub hs1).moves (a2.moves w.heap Im)).resub hs3
    ·show (σ.addEs ds).1.slots = σ.slots
     exact a2.slots
  ·exact .refl s hf
 ·exact .refl s hf
theorem ghU_ok (s : SimW G X σ tm w O Im) (hf : ∀ u, σ.next ≤ u → O u = .free) (u : Nat) : Ghost G X σ tm w O Im (σ.ghU u) := by
 unfold St.ghU
 split
 ·rename_i sz rows i cs hob
  split
  ·rename_i ds ids hout
   split
   ·rename_i hc
    obtain ⟨hnd, hsome⟩ := hc
    obtain ⟨l, hl, hr, hb⟩ := s.obj u _ hob
    have hnd' := w0o hnd
    obtain ⟨hnu, hnids⟩ := List.nodup_cons.1 hnd'
    have hunx : u < σ.next := Nat.lt_of_not_le fun h => by rw [hf u h] at hl; cases hl
    cases hr with
    | tre _ _ _ b cap c e sub k1 k2 k3 k4 k5 k6 k7 k8 k9 =>
     obtain ⟨hil, q2⟩ := k9
     obtain ⟨fp, r2, hB, hlen⟩ := u2g s q2 hout
     have hvl : rows.length * sz ≤ c.toList.length := by have := Nat.mul_le_mul_right sz k3; simp only [Array.length_toList]; omega
     have hks : i * sz + sz ≤ rows.length * sz := by
      have := Nat.mul_le_mul_right sz (show i + 1 ≤ rows.length from hil)
      rw [Nat.add_mul] at this; omega
     have hvv : ((c.toList.drop (i * sz)).take sz).length = sz := by simp at hvl ⊢; omega
     have hds : ds.length = sz := by rw [hlen, q2.len, hvv]
     obtain ⟨f1, f2, f3, hfs, _, rb⟩ := RelCs.row_at (r0 := List.replicate sz .w) k2 hil (by simp) hvl k8
     have hf2 : f2 = [] := by
      rename_i r0' _
      have hw : ∀ {n : Nat} {vs : List Value} {f : List Nat}, RelCs w.heap Im (List.replicate n .w) vs f → f = [] := by
       intro n
       induction n with
       | zero => intro vs f r; cases r; rfl
       | succ n ih => intro vs f r; rw [List.replicate_succ] at r; cases r with | cons _ _ _ _ _ _ r1 r2 => cases r1; exact ih r2
      exact hw ‹_›
     subst hf2
     simp only [List.nil_append] at hfs
     subst hfs
     have rnew := rb ds fp hds r2
     have hfpn := hB.nodup s hnids
     have hfpo : ∀ k ∈ fp, ¬ Im k ∧ k < w.heap.size ∧ (X.own k ∨ X.w0.heap.size ≤ k) := fun k hk => by
      obtain ⟨id, o, l', _, g1, g2, g3⟩ := hB.mem k hk
      exact s.ownblk g1 g2 g3
     have hOwnU : ∀ k, k ∈ b :: (f1 ++ f3) → Own (.tre sz rows (some (i, cs))) ⟨some b, cap, sz, f1 ++ f3⟩ k := by
      intro k hk
      rcases List.mem_cons.1 hk with rfl | hk
      ·exact .inl rfl
      ·exact .inr hk
     have hdis : ∀ k ∈ fp, k ∉ b :: (f1 ++ f3) := by
      intro k hk hk'
      obtain ⟨id, o, l', hid, g1, g2, g3⟩ := hB.mem k hk
      exact s.disj id u o _ l' _ k (fun e => hnu (e ▸ hid)) g1 hob g2 hl g3 (hOwnU k hk')
     obtain ⟨n0, n1⟩ := List.nodup_cons.1 k7
     obtain ⟨na, nb, nc⟩ := List.nodup_append.1 n1
     have hnew : (b :: (f1 ++ (fp ++ f3))).Nodup := by
      refine List.nodup_cons.2 ⟨fun h => ?_, List.nodup_append.2 ⟨na, List.nodup_append.2 ⟨hfpn, nb, fun x hx y hy e => ?_⟩, fun x hx y hy e => ?_⟩⟩
      ·simp only [List.mem_append] at h
       rcases h with h | h | h
       ·exact n0 (by simp [h])
       ·exact hdis b h (by simp)
       ·exact n0 (by simp [h])
      ·subst e; exact hdis x hx (by simp [hy])
      ·subst e
       rcases List.mem_append.1 hy with hy | hy
       ·exact hdis x hy (by simp [hx])
       ·exact nc x hx x hy rfl
     obtain ⟨O1, s1, p1, p2, p3, p4, p5⟩ := SimW.kills ids s
     have hob1 : (St.kills ids σ).objs u = some (.tre sz rows (some (i, cs))) := by rw [(p1 u hnu).2]; exact hob
     have hl1 : O1 u = .live ⟨some b, cap, sz, f1 ++ f3⟩ := by rw [(p1 u hnu).1]; exact hl
     obtain ⟨s2, hs2⟩ := s1.reloc (o' := .tre sz (rows.set i ds) none) (s1 := f1 ++ (fp ++ f3)) hob1 hl1
      (.tre sz (rows.set i ds) none b cap c e _ k1 (fun q hq => by
        rcases List.mem_or_eq_of_mem_set hq with hq | rfl
        ·exact k2 q hq
        ·exact hds) (by simpa using k3) k4 k5 k6 hnew rnew trivial)
      (fun k hk => by
        have hk' : k ∈ b :: (f1 ++ (fp ++ f3)) := by
         rcases hk with hk | hk
         ·simp only [Option.some.injEq] at hk; simp [hk]
         ·exact List.mem_cons_of_mem _ hk
        have hcase : k ∈ fp ∨ k ∈ b :: (f1 ++ f3) := by simp at hk' ⊢; rcases hk' with h | h | h | h <;> simp [h]
        have hobj1 : ∀ v o'', v ≠ u → (St.kills ids σ).objs v = some o'' → v ∉ ids ∧ σ.objs v = some o'' ∧ O1 v = O v := by
         intro v o'' hv ho''
         by_cases hvi : v ∈ ids
         ·rw [p2 v hvi] at ho''; cases ho''
         ·exact ⟨hvi, by rw [← (p1 v hvi).2]; exact ho'', (p1 v hvi).1⟩
        rcases hcase with h | h
        ·obtain ⟨q1, q2, q3⟩ := hfpo k h
         refine ⟨q1, q2, q3, fun v o'' l'' hv ho'' hl'' hOv => ?_⟩
         obtain ⟨g1, g2, g3⟩ := hobj1 v o'' hv ho''
         rw [g3] at hl''
         obtain ⟨id, o, l', hid, e1, e2, e3⟩ := hB.mem k h
         exact s.disj v id o'' o l'' l' k (fun e => g1 (e ▸ hid)) g2 e1 hl'' e2 hOv e3
        ·obtain ⟨q1, q2, q3⟩ := hb k (hOwnU k h)
         refine ⟨q1, q2, q3, fun v o'' l'' hv ho'' hl'' hOv => ?_⟩
         obtain ⟨g1, g2, g3⟩ := hobj1 v o'' hv ho''
         rw [g3] at hl''
         exact s.disj v u o'' _ l'' _ k hv g2 hob hl'' hl hOv (hOwnU k h))
     refine ⟨⟨_, Im, s2, ?_, fun _ h => h, fun r => ?_, ?_⟩⟩
     ·intro v hv
      have hv' : σ.next ≤ v := by have : (St.kills ids σ).next ≤ v := hv; omega
      rw [yf _ _ _ _ (by omega)]
      have hvi : v ∉ ids := fun h => by
       have := List.all_eq_true.1 hsome v (by simp [h])
       obtain ⟨o, ho⟩ := Option.isSome_iff_exists.1 this
       obtain ⟨l', hl', _⟩ := s.obj v o ho
       rw [hf v hv'] at hl'; cases hl'
      rw [(p1 v hvi).1]; exact hf v hv'
     ·exact (r.moves ⟨fun _ h => h, fun _ _ => rfl, fun v _ => p3 v⟩).resub hs2
     ·exact p5
   ·exact .refl s hf
  ·exact .refl s hf
 ·exact .refl s hf
theorem ghZ_ok (s : SimW G X σ tm w O Im) (hf : ∀ u, σ.next ≤ u → O u = .free) (m : Nat) : Ghost G X σ tm w O Im (σ.ghZ m) := by
 unfold St.ghZ
 split
 ·rename_i sz rows h
  obtain ⟨Im', hi, s'⟩ := s.freeze h
  exact ⟨O, Im', s', hf, hi, fun r => r.moves ⟨hi, fun _ _ => rfl, fun _ _ => .inl rfl⟩, rfl⟩
 ·rename_i sz rows hob
  obtain ⟨l, hl, hr, hb⟩ := s.obj m _ hob
  have hmnx : m < σ.next := Nat.lt_of_not_le fun h => by rw [hf m h] at hl; cases hl
  have hobj : ∀ u o2, (σ.setO m (some (.arr sz (rows.map (List.map D.fw)) true))).objs u = some o2 → (u = m ∧ o2 = .arr sz (rows.map (List.map D.fw)) true) ∨ (u ≠ m ∧ σ.objs u = some o2) := by
   intro u o2 h
   by_cases e : u = m
   ·subst e; simp [St.setO] at h; exact .inl ⟨rfl, h.symm⟩
   ·exact .inr ⟨e, by simpa [St.setO, e] using h⟩
  cases hr with
  | tn _ cap =>
   refine ⟨O, Im, ⟨s.ext, s.ownlt, s.imlt, s.im0, s.im1, ?_, ?_, ?_, s.slot, s.glob⟩, hf, fun _ h => h, fun r => r, rfl⟩
   ·intro u hu l'
    by_cases e : u = m
    ·subst e; simp [St.setO] at hu
    ·exact s.dead u (by simpa [St.setO, e] using hu) l'
   ·intro u o2 h
    rcases hobj u o2 h with ⟨rfl, rfl⟩ | ⟨e, h⟩
    ·exact ⟨_, hl, .an _ _ _, fun k hk => hk.elim⟩
    ·exact s.obj u o2 h
   ·intro u u' o2 o2' l1 l2 k hne h h' hlu hlu' hk
    rcases hobj u o2 h with ⟨e1, e2⟩ | ⟨e, hh⟩
    ·subst e1 e2; exact hk.elim
    ·rcases hobj u' o2' h' with ⟨e1, e2⟩ | ⟨e', hh'⟩
     ·subst e1 e2; exact fun h => h.elim
     ·exact s.disj u u' o2 o2' l1 l2 k hne hh hh' hlu hlu' hk
  | tre _ _ _ b cap c e sub k1 k2 k3 k4 k5 k6 k7 k8 k9 =>
   let Im' : Nat → Prop := fun k => Im k ∨ k ∈ b :: sub
   have hOw : ∀ k, k ∈ b :: sub → Own (.tre sz rows none) ⟨some b, cap, sz, sub⟩ k := by
    intro k hk
    rcases List.mem_cons.1 hk with rfl | hk
    ·exact .inl rfl
    ·exact .inr hk
   have hs : ∀ u, SameL (O u) (upd O m (.live ⟨some b, cap, sz, []⟩) u) := by
    intro u
    by_cases e : u = m
    ·subst e; rw [xf]; exact .inr ⟨b, cap, sz, sub, [], hl, rfl⟩
    ·rw [yf _ _ _ _ e]; exact .inl rfl
   have mv : Moves w.heap w.heap Im Im' O O := ⟨fun _ h => .inl h, fun _ _ => rfl, fun _ _ => .inl rfl⟩
   refine ⟨upd O m (.live ⟨some b, cap, sz, []⟩), Im', ⟨s.ext, s.ownlt, ?_, fun k hk => .inl (s.im0 k hk), ?_, ?_, ?_, ?_, fun t => ((s.slot t).moves mv).resub hs, fun g cs hg => (s.glob g cs hg).moves mv⟩, ?_, fun _ h => .inl h, fun r => (r.moves mv).resub hs, rfl⟩
   ·rintro k (hk | hk)
    ·exact s.imlt k hk
    ·exact (hb k (hOw k hk)).2.1
   ·rintro k (hk | hk)
    ·exact s.im1 k hk
    ·exact .inr (hb k (hOw k hk)).2.2
   ·intro u hu l'
    by_cases e : u = m
    ·subst e; simp [St.setO] at hu
    ·rw [yf _ _ _ _ e]; exact s.dead u (by simpa [St.setO, e] using hu) l'
   ·intro u o2 h
    rcases hobj u o2 h with ⟨e1, e2⟩ | ⟨e, h⟩
    ·subst e1 e2
     refine ⟨_, xf _ _ _, .arr sz _ true b cap c _ (0, 0) k1 (fun h => by cases h) (fun r hr => ?_) (by simpa using k3) k4 k5 ?_ ⟨fun _ => .inr (by simp), fun _ => rfl⟩, fun k hk => hk.elim⟩
     ·obtain ⟨r0, hr0, rfl⟩ := List.mem_map.1 hr
      simpa using k2 r0 hr0
     ·rw [← List.map_flatten]
      exact k8.fwd (fun _ h => .inl h) (fun k hk => .inr (by simp [hk]))
    ·obtain ⟨l', g1, g2, g3⟩ := s.obj u o2 h
     have hni : ∀ k, Own o2 l' k → ¬ Im' k := by
      rintro k hk (h' | h')
      ·exact (g3 k hk).1 h'
      ·exact s.disj u m o2 _ l' _ k e h hob g1 hl hk (hOw k h')
     exact ⟨l', by rw [yf _ _ _ _ e]; exact g1, (g2.moves mv (fun k hk => ⟨rfl, hni k hk⟩)).resub hs, fun k hk => ⟨hni k hk, (g3 k hk).2⟩⟩
   ·intro u u' o2 o2' l1 l2 k hne h h' hlu hlu' hk
    rcases hobj u o2 h with ⟨e1, e2⟩ | ⟨e, hh⟩
    ·subst e1 e2; exact hk.elim
    ·rcases hobj u' o2' h' with ⟨e1, e2⟩ | ⟨e', hh'⟩
     ·subst e1 e2; exact fun h => h.elim
     ·rw [yf _ _ _ _ e] at hlu
      rw [yf _ _ _ _ e'] at hlu'
      exact s.disj u u' o2 o2' l1 l2 k hne hh hh' hlu hlu' hk
   ·intro v hv
    have hv' : σ.next ≤ v := hv
    rw [yf _ _ _ _ (by omega)]; exact hf v hv'
 ·exact .refl s hf
theorem Ghost.trans {σ1 σ2 : St} (h : Ghost G X σ tm w O Im σ1) (h2 : ∀ O' Im', SimW G X σ1 tm w O' Im' → (∀ u, σ1.next ≤ u → O' u = .free) → Ghost G X σ1 tm w O' Im' σ2) : Ghost G X σ tm w O Im σ2 := by
 obtain ⟨O', Im', s', hf', hi, hr, hsl⟩ := h.ex
 obtain ⟨O2, Im2, s2, hf2, hi2, hr2, hsl2⟩ := (h2 O' Im' s' hf').ex
 exact ⟨O2, Im2, s2, hf2, fun b hb => hi2 b (hi b hb), fun r => hr2 (hr r), hsl2.trans hsl⟩
theorem y2i : ∀ (gs : List GC) {σ : St} {O : Nat → LS} {Im : Nat → Prop}, SimW G X σ tm w O Im → (∀ u, σ.next ≤ u → O u = .free) → Ghost G X σ tm w O Im (σ.frz gs)
 | [], σ, O, Im, s, hf => .refl s hf
 | g :: gs, σ, O, Im, s, hf => by
  have h1 : Ghost G X σ tm w O Im (σ.gh1 g) := by
   cases g with
   | z m => exact ghZ_ok s hf m
   | f u i => exact ghF_ok s hf u i
   | u u => exact ghU_ok s hf u
  exact h1.trans fun O' Im' s' hf' => y2i gs s' hf'
end
section
variable {P : Program} {G : Nat → Option (List D)} {X : Ctx} {σ : St} {tm : Array Value} {w w' : World} {O : Nat → LS} {Im : Nat → Prop}
theorem RelCs.ones {h : Array Obj} : ∀ {ds : List D} {vs : List Value} {fp : List Nat}, RelCs h Im ds vs fp → ∀ v ∈ vs.take ds.length, v.oneCell' = true
 | _, _, _, .nil vs, v, hv => by simp at hv
 | _, _, _, .cons d v0 f ds vs fs r rs, v, hv => by
  simp only [List.length_cons, List.take_succ_cons, List.mem_cons] at hv
  rcases hv with rfl | hv
  ·exact r.one.2
  ·exact rs.ones v hv
theorem SimW.moved (s : SimW G X σ tm w O Im) {F : Nat → Prop} (hext : Ext F w w') (hF : ∀ b, b < w.heap.size → F b → ¬ Im b ∧ (X.own b ∨ X.w0.heap.size ≤ b)) {Im'' : Nat → Prop} (h1 : ∀ b, Im b → Im'' b)
 (h2 : ∀ b, Im'' b → Im b ∨ ((F b ∧ b < w.heap.size) ∨ w.heap.size ≤ b) ∧ b < w'.heap.size)
 (hobj : ∀ u o l, σ.objs u = some o → O u = .live l → RelO w'.heap Im'' O o l ∧ ∀ b, Own o l b → ¬ Im'' b) : SimW G X σ tm w' O Im'' := by
 have hkeep : ∀ b, Im b → w'.heap[b]? = w.heap[b]? := fun b hb => hext.block b (s.imlt b hb) (fun hf => (hF b (s.imlt b hb) hf).1 hb)
 have m : Moves w.heap w'.heap Im Im'' O O := ⟨h1, hkeep, fun _ _ => .inl rfl⟩
 refine ⟨s.ext.trans' hext.os hext.tape hext.output hext.size (fun b hb hnb => hext.block b (Nat.lt_of_lt_of_le hb s.ext.size) (fun hf => ?_)), s.ownlt, ?_, fun b hb => h1 b (s.im0 b hb), ?_, s.dead, ?_, s.disj, fun t => (s.slot t).moves m, fun g c hg => (s.glob g c hg).moves m⟩
 ·rcases (hF b (Nat.lt_of_lt_of_le hb s.ext.size) hf).2 with h | h
  ·exact hnb h
  ·omega
 ·intro b hb
  rcases h2 b hb with h | h
  ·exact Nat.lt_of_lt_of_le (s.imlt b h) hext.size
  ·exact h.2
 ·intro b hb
  rcases h2 b hb with h | ⟨⟨h, hl⟩ | h, _⟩
  ·exact s.im1 b h
  ·exact .inr (hF b hl h).2
  ·exact .inr (.inr (Nat.le_trans s.ext.size h))
 ·intro u o ho
  obtain ⟨l, hl, hr, hb⟩ := s.obj u o ho
  obtain ⟨g1, g2⟩ := hobj u o l ho hl
  exact ⟨l, hl, g1, fun b e => ⟨g2 b e, Nat.lt_of_lt_of_le (hb b e).2.1 hext.size, (hb b e).2.2⟩⟩
end
section
variable {P : Program} {G : Nat → Option (List D)} {X : Ctx} {σ σ' : St} {sv : SV} {a : Act} {w : World} {O : Nat → LS} {Im : Nat → Prop} {o : Oper}
theorem w3i (s : SimW G X σ a.tmps w O Im) {sz : Nat} : ∀ (n : Nat) {cs : List SC} {vs : List Value} {rows : List (List D)} {ids : List Nat}, RelCl w.heap Im O cs vs → vs.length = n * sz → rowsE σ sz n cs = some (rows, ids) →
 ∃ fp, RelCs w.heap Im rows.flatten vs fp ∧ Blks σ O ids fp ∧ rows.length = n ∧ ∀ r ∈ rows, r.length = sz
 | 0, cs, vs, rows, ids, r, hl, e => by
  simp only [rowsE, Option.some.injEq, Prod.mk.injEq] at e
  obtain ⟨rfl, rfl⟩ := e
  exact ⟨[], .nil _, .nil, rfl, fun r hr => by cases hr⟩
 | n + 1, cs, vs, rows, ids, r, hl, e => by
  simp only [rowsE] at e
  split at e
  ·rename_i d i ds is h1 h2
   split at e
   ·rename_i hd
    simp only [Option.some.injEq, Prod.mk.injEq] at e
    obtain ⟨rfl, rfl⟩ := e
    have hl' : vs.length = n * sz + sz := by rw [hl, Nat.add_mul, Nat.one_mul]
    obtain ⟨f1, g1, b1, _⟩ := u2g s (r.take sz) h1
    obtain ⟨f2, g2, b2, l2, u2⟩ := w3i s n (r.drop sz) (by simp; omega) h2
    refine ⟨f1 ++ f2, ?_, b1.app b2, by simp [l2], fun q hq => ?_⟩
    ·rw [List.flatten_cons]
     have := g1.longer (vs.drop sz)
     rw [List.take_append_drop] at this
     exact this.app (by omega) (by rw [hd]; exact g2)
    ·rcases List.mem_cons.1 hq with rfl | hq
     ·exact hd
     ·exact u2 q hq
   ·cases e
  ·cases e
theorem Post.fresh_tre (s : SimW G X σ a.tmps w O Im) (hfall : O σ.next = .free) {ids : List Nat} {fp : List Nat} (hB : Blks σ O ids fp) (hnd : u0j ids = true) (hsome : (ids.all fun k => (σ.obj k).isSome) = true) {sz cap len : Nat} {rows : List (List D)} {c : Array Value} {e : TypeId}
 (hu : ∀ r ∈ rows, r.length = sz) (hl : rows.length ≤ cap) (hm : cap ≤ maxLen) (hs : c.size = cap * sz) (hr : RelCs w.heap Im rows.flatten c.toList fp) {w1 : World} (hw1 : w1.heap = w.heap) (h1 : SimW G X σ a.tmps w1 O Im) (hlen : len = rows.length) :
 Post G X a.tmps σ O ((St.kills ids σ).new (.tre sz rows none)) (.one (.r σ.next 0 len)) (.slice (some ⟨w.heap.size, 0, none⟩) len cap) (w1.alloc (.cells c e)) := by
 subst hlen
 have hsz : w1.heap.size = w.heap.size := by rw [hw1]
 have hidn : ∀ i ∈ ids, O i ≠ .free := fun i hi h => by
  obtain ⟨o, ho⟩ := Option.isSome_iff_exists.1 (List.all_eq_true.1 hsome i hi)
  obtain ⟨l, hl', _⟩ := s.obj i o ho
  rw [h] at hl'; cases hl'
 have hnid : σ.next ∉ ids := fun h => hidn _ h hfall
 obtain ⟨O1, s1, p1, p2, p3, p4, p5⟩ := SimW.kills ids h1
 have hO1 : O1 (St.kills ids σ).next = .free := by rw [p4, (p1 _ hnid).1]; exact hfall
 have hh : (w1.alloc (.cells c e)).heap[w.heap.size]? = some (.cells c e (0, 0)) := by rw [← hsz]; exact heap_alloc_new w1 _
 have hold : ∀ b, b < w.heap.size → (w1.alloc (.cells c e)).heap[b]? = w.heap[b]? := fun b hb => by rw [Go.RowKit.Below.heap_alloc w1 _ b (by omega), hw1]
 have hfpo : ∀ k ∈ fp, ¬ Im k ∧ k < w.heap.size ∧ (X.own k ∨ X.w0.heap.size ≤ k) := fun k hk => by
  obtain ⟨id, o, l, _, g1, g2, g3⟩ := hB.mem k hk
  exact s.ownblk g1 g2 g3
 have hnb : ¬ Im w.heap.size := fun h => Nat.lt_irrefl _ (s.imlt _ h)
 have hnd2 : (w.heap.size :: fp).Nodup := List.nodup_cons.2 ⟨fun h => Nat.lt_irrefl _ (hfpo _ h).2.1, hB.nodup s (w0o hnd)⟩
 have hx := (s1.alloc (.cells c e)).adopt (n := (St.kills ids σ).next) (l := ⟨some w.heap.size, cap, sz, fp⟩) hO1 (vo := .tre sz rows none)
  (.tre sz rows none w.heap.size cap c e fp hh hu hl hm hs hnb hnd2 (hr.keep (fun _ h => h) (fun b hb => hold b (hb.elim (fun h => (hfpo b h).2.1) (s.imlt b)))) trivial)
  (fun b hb => by
    have hcase : b = w.heap.size ∨ b ∈ fp := by
     rcases hb with hb | hb
     ·simp only [Option.some.injEq] at hb; exact .inl hb.symm
     ·exact .inr hb
    rcases hcase with rfl | hb
    ·refine ⟨hnb, by simp [hsz], .inr s.ext.size, fun u o l' ho hl' h => ?_⟩
     by_cases hi : u ∈ ids
     ·rw [p2 u hi] at ho; cases ho
     ·rw [(p1 u hi).2] at ho; rw [(p1 u hi).1] at hl'
      exact Nat.lt_irrefl _ (s.ownblk ho hl' h).2.1
    ·obtain ⟨q1, q2, q3⟩ := hfpo b hb
     refine ⟨q1, by simp; omega, q3, fun u o l' ho hl' h => ?_⟩
     by_cases hi : u ∈ ids
     ·rw [p2 u hi] at ho; cases ho
     ·rw [(p1 u hi).2] at ho; rw [(p1 u hi).1] at hl'
      obtain ⟨id, o2, l2, hid, e1, e2, e3⟩ := hB.mem b hb
      exact s.disj u id o o2 l' l2 b (fun e => hi (e ▸ hid)) ho e1 hl' e2 h e3)
  (σ' := (St.kills ids σ).new (.tre sz rows none)) rfl (by funext u; simp [St.new, upd])
 refine ⟨_, Im, hx, ?_, .inr ⟨?_, fun u hu h => ?_⟩⟩
 ·rw [← p4]
  exact .one _ _ (.r _ _ _ w.heap.size cap sz _ _ (xf _ _ _) hl (by omega) (.inl (by simp)))
 ·show (St.kills ids σ).next + 1 = σ.next + 1
  rw [p4]
 ·rw [yf _ _ _ _ (by rw [p4]; exact hu), (p1 u (fun hi => hidn u hi h)).1]; exact h
theorem y5c {ty el : TypeId} {i : TypeInfo} {z : Value} {zc : List SC} {szs : List Nat} {n : Nat} {parts : Array (Nat × Operand)} {ods : List (Nat × Od)} (ho : o.op = .buildSlice ty n parts) (hu : P.underlying ty = some (.slice el)) (hi : P.info? el = some i) (hz : i.zero = some z)
 (hn : n * i.size ≤ 2 ^ 24) (hn2 : n ≤ 2 ^ 24) (hzs : z.cells.size = i.size) (hc : u0b szs z.cells.toList = some zc) (hl : lowSP P el parts.toList = some ods) (s : SimW G X σ a.tmps w O Im) (hf : O σ.next = .free)
 (e : σ.bslW G i.size n zc ods = some (σ', sv)) : OkV ((execOp a.eval o).run P w) fun v w' => Post G X a.tmps σ O σ' sv v w' := by
 unfold St.bslW at e
 simp only [Option.bind_eq_some_iff] at e
 obtain ⟨cs, e, ⟨rows, ids⟩, e2, e3⟩ := e
 split at e3
 ·rename_i hc2
  simp only [Option.some.injEq, Prod.mk.injEq] at e3
  obtain ⟨rfl, rfl⟩ := e3
  have hm := u1r (zw (h := w.heap) (Im := Im) (O := O) hc) n
  obtain ⟨cells', g1, g2, g3⟩ := y2d s (fun k => some (k * i.size, i.size)) parts.toList (mul1 i.size ods) _ cs _ (u2h i.size hl) hm e
  rw [hzs] at g1
  have hrun := v2y (P := P) (w := w) hu hi hz hn (parts.map fun p => (p.1, a.eval p.2)) cells' (by simpa using g1)
  have hsz : cells'.size = n * i.size := by rw [g3, size_madeCells, hzs]
  obtain ⟨fp, q1, q2, q3, q4⟩ := w3i s n g2 (by simpa using hsz) e2
  refine .inl ⟨.slice (some ⟨w.heap.size, 0, none⟩) n n, w.alloc (.cells cells' el), ?_, ?_⟩
  ·simp [execOp, ho, hrun]
  ·exact Post.fresh_tre s hf q2 hc2.1 hc2.2 q4 (by omega) (by simp only [maxLen]; omega) hsz q1 rfl s q3.symm
 ·cases e3
theorem u2i {σk : St} {Ok : Nat → LS} (sk : SimW G X σk a.tmps w Ok Im) (hfree : Ok σk.next = .free) {t ty e : TypeId} {i : TypeInfo} {z : Value} (ht : P.underlying t = some (.slice e)) (hi : P.info? e = some i) (hz : i.zero = some z) (hzs : z.cells.size = i.size)
 {rows news : List (List D)} (hur : ∀ r ∈ rows, r.length = i.size) (hun : ∀ r ∈ news, r.length = i.size) {ad : Option Addr} {m c : Nat} {nv : List Value} {fpn : List Nat} (hm : news.length = m) (hrn : RelCs w.heap Im news.flatten nv fpn) (hnl : nv.length = m * i.size)
 (hy : news = [] ∨ ∃ b, ad = some b ∧ ∀ (j : Nat) (u : Value), nv[j]? = some u → w.cell? (b.add j) = some u) (hb : (rows.length + m) * i.bytes ≤ 2 ^ 47) (hmx : rows.length + m ≤ maxLen)
 {base : Option Addr} {cp : Nat} {sub : List Nat} (hx : (cp = 0 ∧ rows = [] ∧ sub = []) ∨ ∃ b bk cap cur tyc, base = some b ∧ rows.length ≤ cp ∧ cp ≤ cap ∧ cap ≤ maxLen ∧ (b = ⟨bk, 0, none⟩ ∨ cp = 0) ∧ w.heap[bk]? = some (.cells cur tyc (0, 0)) ∧ cur.size = cap * i.size ∧ x0h X σk w Ok Im bk ∧ bk ∉ sub ++ fpn ∧
  RelCs w.heap Im rows.flatten cur.toList sub) (hnd : (sub ++ fpn).Nodup) (hfr : ∀ k ∈ sub ++ fpn, x0h X σk w Ok Im k) :
 ∃ v w' O', (Builtin.append_ #[t, t] ty #[.slice base rows.length cp, .slice ad m c]).run P w = .ok v w' ∧ SimW G X (σk.new (.tre i.size (rows ++ news) none)) a.tmps w' O' Im ∧ RelV w'.heap Im O' (.one (.r σk.next 0 (rows.length + m))) v ∧ ∀ u, u ≠ σk.next → O' u = Ok u := by
 have hua : ∀ r ∈ rows ++ news, r.length = i.size := fun r hr => (List.mem_append.1 hr).elim (hur r) (hun r)
 have hy' : m = 0 ∨ ∃ b, ad = some b ∧ ∀ (j : Nat) (u : Value), nv[j]? = some u → w.cell? (b.add j) = some u := hy.imp (fun h => by rw [← hm, h]; rfl) id
 have hfirst := y0o (P := P) (c := c) hnl hy'
 have hnf : nv.length = news.flatten.length := by rw [hnl, wa hun, hm]
 have h1 : ∀ u ∈ nv, u.oneCell' = true := hrn.onesF hnf
 have hm63 : ((rows.length + m : Nat) : Int) ≤ 9223372036854775807 := by simp only [maxLen] at hmx; omega
 have hlen : (rows ++ news).length = rows.length + m := by simp [hm]
 have fin : ∀ (w' : World) (B cap' : Nat) (c' : Array Value) (tyc : TypeId), SimW G X σk a.tmps w' Ok Im → w'.heap[B]? = some (.cells c' tyc (0, 0)) → rows.length + m ≤ cap' → cap' ≤ maxLen → c'.size = cap' * i.size →
  RelCs w'.heap Im (rows ++ news).flatten c'.toList (sub ++ fpn) → x0h X σk w' Ok Im B → B ∉ sub ++ fpn → (∀ k ∈ sub ++ fpn, x0h X σk w' Ok Im k) → ∀ cp', rows.length + m ≤ cp' → cp' ≤ cap' →
  SimW G X (σk.new (.tre i.size (rows ++ news) none)) a.tmps w' (upd Ok σk.next (.live ⟨some B, cap', i.size, sub ++ fpn⟩)) Im ∧
  RelV w'.heap Im (upd Ok σk.next (.live ⟨some B, cap', i.size, sub ++ fpn⟩)) (.one (.r σk.next 0 (rows.length + m))) (.slice (some ⟨B, 0, none⟩) (rows.length + m) cp') := by
  intro w' B cap' c' tyc s' hB hle hcm hcs hrel hfB hBn hfr' cp' hcp1 hcp2
  refine ⟨s'.adopt (l := ⟨some B, cap', i.size, sub ++ fpn⟩) hfree (vo := .tre i.size (rows ++ news) none) (.tre i.size _ none B cap' c' tyc _ hB hua (by omega) hcm hcs hfB.1 (List.nodup_cons.2 ⟨hBn, hnd⟩) hrel trivial) (fun k hk => ?_) rfl (by funext u; simp [St.new, upd]), ?_⟩
  ·rcases hk with hk | hk
   ·simp only [Option.some.injEq] at hk; subst hk; exact hfB
   ·exact hfr' k hk
  ·exact .one _ _ (.r _ _ _ B cap' i.size _ _ (xf _ _ _) hcp1 (by omega) (.inl (by simp)))
 have joined : ∀ (olds rest : List Value), olds.length = rows.length * i.size → RelCs w.heap Im rows.flatten olds sub → RelCs w.heap Im (rows ++ news).flatten (olds ++ (nv ++ rest)) (sub ++ fpn) := by
  intro olds rest hol hro
  rw [List.flatten_append]
  have hfl : rows.flatten.length = olds.length := by rw [wa hur, hol]
  refine (hro.longer _).app (by rw [hfl]; simp) ?_
  rw [hfl, List.drop_left]
  exact hrn.longer rest
 have grown : ∀ (old : Nat) (olds : List Value), olds.length = rows.length * i.size → RelCs w.heap Im rows.flatten olds sub → old < rows.length + m →
  SimW G X (σk.new (.tre i.size (rows ++ news) none)) a.tmps (w.drew.alloc (.cells (olds.toArray ++ nv.toArray ++ Builtin.zeroCells z.cells (grownCap w (rows.length + m) old e - (rows.length + m))) e)) (upd Ok σk.next (.live ⟨some w.heap.size, grownCap w (rows.length + m) old e, i.size, sub ++ fpn⟩)) Im ∧
  RelV (w.drew.alloc (.cells (olds.toArray ++ nv.toArray ++ Builtin.zeroCells z.cells (grownCap w (rows.length + m) old e - (rows.length + m))) e)).heap Im (upd Ok σk.next (.live ⟨some w.heap.size, grownCap w (rows.length + m) old e, i.size, sub ++ fpn⟩)) (.one (.r σk.next 0 (rows.length + m))) (.slice (some ⟨w.heap.size, 0, none⟩) (rows.length + m) (grownCap w (rows.length + m) old e)) := by
  intro old olds hol hro hlt
  have hge := grownCap_ge w (rows.length + m) old e
  have hle := grownCap_le_maxLen w (rows.length + m) old e hmx
  have hheap : ∀ (ob : Obj) b, b < w.heap.size → (w.drew.alloc ob).heap[b]? = w.heap[b]? := fun ob b hb => Go.RowKit.Below.heap_alloc w.drew _ b hb
  refine fin _ w.heap.size _ _ e ((sk.drawn _).alloc _) (heap_alloc_new w.drew _) hge hle ?_ ?_ ?_ ?_ ?_ _ hge (Nat.le_refl _)
  ·simp only [Array.size_append, List.size_toArray, size_zeroCells, hzs, hol, hnl, ← Nat.add_mul]; congr 1; omega
  ·have := joined olds (Builtin.zeroCells z.cells (grownCap w (rows.length + m) old e - (rows.length + m))).toList hol hro
   refine RelCs.keep (fun _ h => h) (by simpa [List.append_assoc] using this) (fun b hb => hheap _ b (hb.elim (fun h => (hfr b h).2.1) (sk.imlt b)))
  ·exact ⟨fun h => Nat.lt_irrefl _ (sk.imlt _ h), by simp, .inr sk.ext.size, fun u o l' ho hl' h => Nat.lt_irrefl _ (sk.ownblk ho hl' h).2.1⟩
  ·exact fun h => Nat.lt_irrefl _ (hfr _ h).2.1
  ·intro k hk
   obtain ⟨q1, q2, q3, q4⟩ := hfr k hk
   exact ⟨q1, by simp; omega, q3, q4⟩
 have updn : ∀ (l : Loc) (u : Nat), u ≠ σk.next → upd Ok σk.next (.live l) u = Ok u := fun l u hu => yf _ _ _ _ hu
 rcases hx with ⟨rfl, rfl, rfl⟩ | ⟨b, bk, cap, cur, tyc, rfl, hlc, hcc, hcm, hbb, hbk, hcs, hfB, hBn, hrc⟩
 ·by_cases h0 : m = 0
  ·subst h0
   obtain rfl : news = [] := List.eq_nil_of_length_eq_zero hm
   obtain rfl : nv = [] := List.eq_nil_of_length_eq_zero (by simpa using hnl)
   refine ⟨_, w, upd Ok σk.next (.live ⟨none, 0, i.size, []⟩), w0j (P := P) (w' := w) ht hi hfirst (by simp) (fun b hb => by simp [storeCells]) (fun _ => rfl), ?_, ?_, updn _⟩
   ·exact sk.adopt hfree (vo := .tre i.size [] none) (.tn _ _) (fun b hb => by simp [Own] at hb) rfl (by funext u; simp [St.new, upd])
   ·exact .one _ _ (.rn _ 0 i.size _ (xf _ _ _))
  ·obtain ⟨b, rfl, hcell⟩ := hy'.resolve_left h0
   obtain ⟨g1, g2⟩ := grown 0 [] (by simp) (.nil _) (by simp; omega)
   simp only [List.length_nil, Nat.zero_add] at g1 g2 ⊢
   cases base with
   | none =>
    have hr := run_append_nil (P := P) w t ty e i z ht hi hz b m c nv hnl hcell (by omega) (by simpa using hm63) (by simp at hb; omega)
    exact ⟨_, _, _, hr, by simpa using g1, by simpa using g2, updn _⟩
   | some b0 =>
    have hr := run_append_grow (P := P) w t ty e i z ht hi hz b0 0 0 [] (by simp) (fun j v hv => by simp at hv) b m c nv hnl hcell (by omega) (by simpa using hm63) (growslice_fits (by omega) (by simpa using hb))
    simp only [Nat.zero_add] at hr
    exact ⟨_, _, _, hr, by simpa using g1, by simpa using g2, updn _⟩
 ·by_cases hroom : rows.length + m ≤ cp
  ·by_cases hcp : cp = 0
   ·subst hcp
    obtain rfl : rows = [] := List.eq_nil_of_length_eq_zero (by omega)
    obtain rfl : m = 0 := by simp at hroom; omega
    obtain rfl : news = [] := List.eq_nil_of_length_eq_zero hm
    obtain rfl : nv = [] := List.eq_nil_of_length_eq_zero (by simpa using hnl)
    refine ⟨_, w, upd Ok σk.next (.live ⟨some bk, cap, i.size, []⟩), w0j (P := P) ht hi hfirst (by simp) (fun b hb => by simp [storeCells]) (fun _ => rfl), ?_, ?_, updn _⟩
    ·refine sk.adopt (l := ⟨some bk, cap, i.size, []⟩) hfree (vo := .tre i.size [] none) ?_ ?_ rfl (by funext u; simp [St.new, upd])
     ·exact .tre i.size [] none bk cap cur tyc [] hbk (by simp) (by simp) hcm hcs hfB.1 (by simp) (.nil _) trivial
     ·intro k hk
      rcases hk with hk | hk
      ·simp only [Option.some.injEq] at hk; subst hk; exact hfB
      ·cases hk
    ·exact .one _ _ (.r _ _ _ bk cap i.size _ _ (xf _ _ _) (by simp) (by simp) (.inr rfl))
   ·obtain rfl := hbb.resolve_right hcp
    have hfit : rows.length * i.size + nv.length ≤ cur.size := by
     rw [hnl, hcs, ← Nat.add_mul]; exact Nat.mul_le_mul_right _ (by omega)
    have hst := run_storeCells_at P bk (rows.length * i.size) tyc nv 0 cur w hbk (by simpa using hfit) h1
    simp only [Nat.add_zero] at hst
    have hrows0 := joined (cur.toList.take (rows.length * i.size)) (cur.toList.drop (rows.length * i.size + nv.length)) (by simp; omega) (hrc.takeF _ (by rw [wa hur]; exact Nat.le_refl _))
    rw [← List.append_assoc] at hrows0
    generalize hc' : (cur.toList.take (rows.length * i.size) ++ nv ++ cur.toList.drop (rows.length * i.size + nv.length)) = c' at hst hrows0
    have hcl : c'.length = cur.size := by rw [← hc']; simp only [List.length_append, List.length_take, List.length_drop, Array.length_toList]; omega
    have hkk : ∀ k, k ≠ bk → (w.setRow bk c'.toArray).heap[k]? = w.heap[k]? := fun k hk => setRow_other w bk k _ hk
    have s2 : SimW G X σk a.tmps (w.setRow bk c'.toArray) Ok Im := by
     refine sk.world (sk.ext.trans' rfl rfl rfl (by simp) (fun k hk1 hk2 => hkk k (fun e2 => by subst e2; rcases hfB.2.2.1 with h | h; exact hk2 h; omega))) (by simp) ?_
     intro k _ hk
     refine hkk k (fun e2 => ?_)
     subst e2
     rcases hk with hk | ⟨u, o, l, h2, h3, h4⟩
     ·exact hfB.1 hk
     ·exact hfB.2.2.2 u o l h2 h3 h4
    have hrows : RelCs (w.setRow bk c'.toArray).heap Im (rows ++ news).flatten c' (sub ++ fpn) := hrows0.keep (fun _ h => h) (fun k hk => hkk k (fun e2 => by
     subst e2
     rcases hk with hk | hk
     ·exact hBn hk
     ·exact hfB.1 hk))
    obtain ⟨q1, q2⟩ := fin (w.setRow bk c'.toArray) bk cap c'.toArray tyc s2 (setRow_heap w bk cur _ tyc (0, 0) hbk) (by omega) hcm (by simp [hcl, hcs]) (by simpa using hrows) ⟨hfB.1, by simpa using hfB.2.1, hfB.2.2.1, hfB.2.2.2⟩ hBn (fun k hk => by
     obtain ⟨q1, q2, q3, q4⟩ := hfr k hk
     exact ⟨q1, by simpa using q2, q3, q4⟩) cp hroom hcc
    exact ⟨_, w.setRow bk c'.toArray, _, w0j (P := P) ht hi hfirst hroom (fun b hb => by cases hb; rw [Addr.add_lit, Nat.zero_add]; exact hst) (fun h => by cases h), q1, q2, updn _⟩
  ·have h0 : m ≠ 0 := by omega
   obtain ⟨by', rfl, hcell⟩ := hy'.resolve_left h0
   have holds : ∃ olds : List Value, olds.length = rows.length * i.size ∧ RelCs w.heap Im rows.flatten olds sub ∧ ∀ (j : Nat) (v : Value), olds[j]? = some v → w.cell? (b.add j) = some v := by
    by_cases hcp : cp = 0
    ·obtain rfl : rows = [] := List.eq_nil_of_length_eq_zero (by omega)
     cases hrc
     exact ⟨[], by simp, .nil _, fun j v hv => by simp at hv⟩
    ·obtain rfl := hbb.resolve_right hcp
     refine ⟨cur.toList.take (rows.length * i.size), ?_, hrc.takeF _ (by rw [wa hur]; exact Nat.le_refl _), ?_⟩
     ·have hcl2 : cur.toList.length = cap * i.size := by simpa using hcs
      rw [List.length_take, hcl2]
      exact Nat.min_eq_left (Nat.mul_le_mul_right _ (by omega))
     ·intro j v hv
      rw [Addr.add_lit]
      exact ws (o := 0) (n := rows.length * i.size) hbk j v (by simpa using hv)
   obtain ⟨olds, hol, hro, hoc⟩ := holds
   have hr := run_append_grow (P := P) w t ty e i z ht hi hz b rows.length cp olds hol hoc by' m c nv hnl hcell (by omega) hm63 (growslice_fits (by omega) (by omega))
   obtain ⟨g1, g2⟩ := grown cp olds hol hro (by omega)
   exact ⟨_, _, _, hr, g1, g2, updn _⟩
theorem x2w (s : SimW G X σ a.tmps w O Im) {id len sz : Nat} {rows : List (List D)} {v : Value} (r : RelC w.heap Im O (.r id 0 len) v) (hob : σ.objs id = some (.tre sz rows none)) (hlen : len = rows.length) :
 (∀ r ∈ rows, r.length = sz) ∧ ∃ ad c nv fp l, v = .slice ad rows.length c ∧ RelCs w.heap Im rows.flatten nv fp ∧ nv.length = rows.length * sz ∧ (rows = [] ∨ ∃ b, ad = some b ∧ ∀ (j : Nat) (u : Value), nv[j]? = some u → w.cell? (b.add j) = some u) ∧ O id = .live l ∧ (∀ k ∈ fp, Own (.tre sz rows none) l k) ∧ fp.Nodup := by
 obtain ⟨l, hl, hr, hb⟩ := s.obj id _ hob
 cases r with
 | rd _ _ _ _ h1 => rw [h1] at hl; cases hl
 | rn _ cap sz' a0 h1 =>
  rw [h1] at hl; cases hl
  cases hr
  exact ⟨fun r hr => by simp at hr, a0, 0, [], [], _, rfl, .nil _, by simp, .inl rfl, h1, fun k hk => by simp at hk, .nil⟩
 | @r _ _ _ b cap sz' ad c sub0 h1 h2 h3 h4 =>
  rw [h1] at hl; cases hl
  subst hlen
  cases hr with
  | tre _ _ _ _ _ cur e _ k1 k2 k3 k4 k5 k6 k7 k8 k9 =>
   have hcs : rows.length * sz ≤ cur.toList.length := by have := Nat.mul_le_mul_right sz k3; simp only [Array.length_toList]; omega
   refine ⟨k2, some ad, c, cur.toList.take (rows.length * sz), sub0, _, rfl, k8.takeF _ (by rw [show (holeR sz rows none) = rows from rfl, wa k2]; exact Nat.le_refl _), by rw [List.length_take]; omega, ?_, h1, fun k hk => .inr hk, (List.nodup_cons.1 k7).2⟩
   rcases h4 with rfl | rfl
   ·right
    refine ⟨_, rfl, fun j u hu => ?_⟩
    simp only [Nat.zero_mul]
    rw [Addr.add_lit]
    exact ws (o := 0) (n := rows.length * sz) k1 j u (by simpa using hu)
   ·left; exact List.eq_nil_of_length_eq_zero (by omega)
theorem v5c {ty el : TypeId} {i : TypeInfo} {z : Value} {x y : Operand} {ox oy : Od} {sv' : SV} (ho : o.op = .call { callee := .builtin .append, args := #[x, y], argTypes := #[ty, ty] }) (hu : P.underlying ty = some (.slice el)) (hi : P.info? el = some i) (hz : i.zero = some z)
 (hzs : z.cells.size = i.size) (hx : lowOd P ty x = some ox) (hy : lowOd P ty y = some oy) (s : SimW G X σ a.tmps w O Im) (hf : O σ.next = .free) (e2 : σ.appW i.size i.bytes (σ.ev G oy) (σ.ev G ox) = some (σ', sv')) :
 OkV ((execOp a.eval o).run P w) fun v w' => Post G X a.tmps σ O σ' sv' v w' := by
 have ry := ud s hy
 have rx := ud s hx
 generalize hvx : a.eval x = vx at rx
 generalize hvy : a.eval y = vy at ry
 generalize σ.ev G ox = sx at rx e2
 generalize σ.ev G oy = sy at ry e2
 have sktot : ∀ (ids : List Nat) (fp : List Nat), Blks σ O ids fp → (∀ k ∈ ids, (σ.objs k).isSome = true) → ∃ Ok, SimW G X (St.kills ids σ) a.tmps w Ok Im ∧ Ok σ.next = .free ∧ (∀ k ∈ fp, x0h X (St.kills ids σ) w Ok Im k) ∧ (∀ u, O u = .free → Ok u = .free) ∧ (St.kills ids σ).next = σ.next := by
  intro ids fp hB hsome
  have hidn : ∀ i ∈ ids, O i ≠ .free := fun i hi h => by
   obtain ⟨o, ho⟩ := Option.isSome_iff_exists.1 (hsome i hi)
   obtain ⟨l, hl', _⟩ := s.obj i o ho
   rw [h] at hl'; cases hl'
  obtain ⟨O1, s1, p1, p2, p3, p4, p5⟩ := SimW.kills ids s
  refine ⟨O1, s1, ?_, fun k hk => ?_, fun u hu => ?_, p4⟩
  ·rw [(p1 _ (fun h => hidn _ h hf)).1]; exact hf
  ·obtain ⟨id, o2, l2, hid, e1, e2, e3⟩ := hB.mem k hk
   obtain ⟨q1, q2, q3⟩ := s.ownblk e1 e2 e3
   refine ⟨q1, q2, q3, fun u o l' ho hl' h => ?_⟩
   by_cases hi : u ∈ ids
   ·rw [p2 u hi] at ho; cases ho
   ·rw [(p1 u hi).2] at ho; rw [(p1 u hi).1] at hl'
    exact s.disj u id o o2 l' l2 k (fun e => hi (e ▸ hid)) ho e1 hl' e2 h e3
  ·rw [(p1 u (fun hi => hidn u hi hu)).1]; exact hu
 have fin : ∀ {σ2 : St} {rows : List (List D)} {n : Nat}, σ2.next = σ.next → ∀ {v w'} (O' : Nat → LS) (Ok : Nat → LS), (∀ u, O u = .free → Ok u = .free) → SimW G X (σ2.new (.tre i.size rows none)) a.tmps w' O' Im → RelV w'.heap Im O' (.one (.r σ2.next 0 n)) v → (∀ u, u ≠ σ2.next → O' u = Ok u) → Post G X a.tmps σ O (σ2.new (.tre i.size rows none)) (.one (.r σ.next 0 n)) v w' := by
  intro σ2 rows n hnx v w' O' Ok hk hs hr ho'
  refine ⟨O', Im, hs, by rw [← hnx]; exact hr, .inr ⟨by show σ2.next + 1 = σ.next + 1; rw [hnx], fun u hu h => ?_⟩⟩
  rw [ho' u (by rw [hnx]; exact hu)]; exact hk u h
 unfold St.appW at e2
 split at e2
 ·split at e2
  ·rename_i id' off' len'
   split at e2
   ·rename_i s' rows' hob'
    split at e2
    ·rename_i hc
     obtain ⟨⟨rfl, hoff, hlen⟩, hfit⟩ := hc
     cases e2
     subst hoff
     obtain ⟨hun, ad, c, nv, fp, l, hv, hrn, hnl, hcell, hl, hown, hnd⟩ := x2w s ry.one_inv hob' hlen
     subst hv
     have hB : Blks σ O [id'] fp := by have := Blks.cons (σ := σ) (O := O) id' fp _ _ [] [] hob' hl hown hnd .nil; simpa using this
     obtain ⟨Ok, sk, hfk, hfr, hko, hnk⟩ := sktot [id'] fp hB (fun k hk => by simp at hk; subst hk; rw [show σ.objs k = _ from hob']; rfl)
     have := rx.one_inv
     cases this with | nl _ a0 =>
     have hkk : St.kills [id'] σ = σ.setO id' none := rfl
     rw [hkk] at sk hnk hfr
     obtain ⟨v, w', O', h1, h2, h3, h4⟩ := u2i (rows := []) (news := rows') (ty := o.type) (c := c) (ad := ad) (base := a0) (cp := 0) (sub := []) (σk := σ.setO id' none) sk hfk hu hi hz hzs (by simp) hun rfl hrn hnl hcell (by simpa using hfit.1) (by simpa using hfit.2) (.inl ⟨rfl, rfl, rfl⟩) (by simpa using hnd) (by simpa using hfr)
     simp only [List.length_nil, Nat.zero_add, List.nil_append] at h1 h2 h3
     refine .inl ⟨v, w', ?_, fin hnk O' Ok hko h2 h3 h4⟩
     simp [execOp, ho, resolve, invoke, builtin, hvx, hvy, h1]
    ·cases e2
   ·cases e2
  ·cases e2
 ·rename_i id off len
  split at e2
  ·rename_i s0 rows id' off' len' hob
   split at e2
   ·rename_i s' rows' hob'
    split at e2
    ·rename_i hc
     obtain ⟨⟨rfl, hoff', hlen'⟩, ⟨rfl, hoff, hlen⟩, hne, hfit⟩ := hc
     cases e2
     subst hoff hoff'
     obtain ⟨hun, ad, c, nv, fp, l, hv, hrn, hnl, hcell, hl, hown, hnd⟩ := x2w s ry.one_inv hob' hlen'
     subst hv
     obtain ⟨lx, hlx, hrx, hbx⟩ := s.obj id _ hob
     have rr := rx.one_inv
     have hsm : ∀ k ∈ [id, id'], (σ.objs k).isSome = true := fun k hk => by
      simp at hk
      rcases hk with rfl | rfl
      ·rw [show σ.objs k = _ from hob]; rfl
      ·rw [show σ.objs k = _ from hob']; rfl
     have hkk : St.kills [id, id'] σ = (σ.setO id none).setO id' none := rfl
     have hBy : Blks σ O [id'] fp := by have := Blks.cons (σ := σ) (O := O) id' fp _ _ [] [] hob' hl hown hnd .nil; simpa using this
     cases rr with
     | rd _ _ _ _ g1 _ => rw [g1] at hlx; cases hlx
     | rn _ cap sz' a0 g1 =>
      rw [g1] at hlx; cases hlx
      cases hrx
      have hB : Blks σ O [id, id'] fp := .skip _ _ _ hBy
      obtain ⟨Ok, sk, hfk, hfr, hko, hnk⟩ := sktot [id, id'] fp hB hsm
      rw [hkk] at sk hnk hfr
      obtain ⟨v, w', O', h1, h2, h3, h4⟩ := u2i (rows := []) (news := rows') (ty := o.type) (c := c) (ad := ad) (base := a0) (cp := 0) (sub := []) (σk := (σ.setO id none).setO id' none) sk hfk hu hi hz hzs (by simp) hun rfl hrn hnl hcell (by simpa using hfit.1) (by simpa using hfit.2) (.inl ⟨rfl, rfl, rfl⟩) (by simpa using hnd) (by simpa using hfr)
      refine .inl ⟨v, w', ?_, fin hnk O' Ok hko h2 h3 h4⟩
      simp only [List.length_nil] at h1
      simp [execOp, ho, resolve, invoke, builtin, hvx, hvy, h1]
     | @r _ _ _ b cap sz' ad' c' subx g1 g2 g3 g4 =>
      rw [g1] at hlx; cases hlx
      subst hlen
      cases hrx with
      | tre _ _ _ _ _ cur tyc _ k1 k2 k3 k4 k5 k6 k7 k8 k9 =>
       have hOx : ∀ k ∈ b :: subx, Own (.tre i.size rows none) ⟨some b, cap, i.size, subx⟩ k := fun k hk => by
        rcases List.mem_cons.1 hk with rfl | hk
        ·exact .inl rfl
        ·exact .inr hk
       have hB : Blks σ O [id, id'] ((b :: subx) ++ fp) := .cons id (b :: subx) _ _ _ _ hob g1 hOx k7 hBy
       have hndall := hB.nodup s (by simp [hne])
       obtain ⟨Ok, sk, hfk, hfr, hko, hnk⟩ := sktot [id, id'] _ hB hsm
       rw [hkk] at sk hnk hfr
       obtain ⟨hb1, hb2⟩ := List.nodup_cons.1 (show (b :: (subx ++ fp)).Nodup by simpa using hndall)
       obtain ⟨v, w', O', h1, h2, h3, h4⟩ := u2i (rows := rows) (news := rows') (ty := o.type) (c := c) (ad := ad) (base := some ad') (cp := c') (sub := subx) (σk := (σ.setO id none).setO id' none) sk hfk hu hi hz hzs k2 hun rfl hrn hnl hcell hfit.1 hfit.2
        (.inr ⟨ad', b, cap, cur, tyc, rfl, g2, by omega, k4, by simpa using g4, k1, k5, hfr b (by simp), hb1, k8⟩) hb2 (fun k hk => hfr k (by simp at hk ⊢; rcases hk with h | h <;> simp [h]))
       refine .inl ⟨v, w', ?_, fin hnk O' Ok hko h2 h3 h4⟩
       simp [execOp, ho, resolve, invoke, builtin, hvx, hvy, h1]
    ·cases e2
   ·cases e2
  ·cases e2
 ·cases e2
theorem low_bsl {sz n : Nat} {z : List SC} {ods : List (Nat × Od)} (hl : lowOp P o = some (.bsl sz n z ods)) : ∃ ty el i zv prts, o.op = .buildSlice ty n prts ∧ P.underlying ty = some (.slice el) ∧ P.info? el = some i ∧ i.zero = some zv ∧ i.size = sz ∧ n * i.size ≤ 2 ^ 24 ∧ n ≤ 2 ^ 24 ∧ zv.cells.size = i.size ∧ u0b (szsOf P el) zv.cells.toList = some z ∧ lowSP P el prts.toList = some ods := by
 unfold lowOp at hl
 split at hl
 case h_20 t n parts hop =>
  split at hl
  ·rename_i el hu
   split at hl
   ·rename_i z hz
    simp only [Option.bind_eq_some_iff] at hz
    obtain ⟨i, hi, hz⟩ := hz
    have hc1 : P.cellsOf el = i.size := by simp [Program.cellsOf, hi]
    rw [hc1] at hl
    split at hl
    ·rename_i hc
     simp only [Option.map_eq_some_iff, Option.bind_eq_some_iff] at hl
     obtain ⟨zc, h1, ods, h2, hl⟩ := hl
     cases hl
     exact ⟨_, _, _, _, _, hop, hu, hi, hz, rfl, hc.1.1, hc.1.2, hc.2, h1, h2⟩
    ·cases hl
   ·cases hl
  ·cases hl
 all_goals
  exfalso
  (repeat' split at hl) <;> first
    | (cases hl; done)
    | (simp only [Option.map_eq_some_iff, Option.bind_eq_some_iff, reduceCtorEq, and_false, exists_false] at hl; done)
    | (unfold z0k at hl; split at hl <;> simp only [Option.map_eq_some_iff, Option.bind_eq_some_iff, reduceCtorEq, and_false, exists_false] at hl; done)
    | (unfold lowBi at hl; (repeat' split at hl) <;> first | (cases hl; done) | (simp only [Option.map_eq_some_iff, Option.bind_eq_some_iff, reduceCtorEq, and_false, exists_false] at hl; done))

end
end Go.V
