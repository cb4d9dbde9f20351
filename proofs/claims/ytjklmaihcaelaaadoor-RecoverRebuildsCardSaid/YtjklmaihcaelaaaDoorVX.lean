/- Functions that change what a pointer leads to: what is shown holds of the machine; conditions as stated. -/
import Derived.Test.YtjklmaihcaelaaaDoorVI
set_option linter.unusedVariables false
set_option linter.unusedSimpArgs false
namespace Go.V
open Go
def St.outM (σ : St) (m : Nat) : SC → Option (D × List Nat)
 | .nl sz => some (if m = 1 then .l sz [] else if m = 2 then .t sz [] else .o sz [], [])
 | .d d => some (d, [])
 | .r id off len => σ.outC0 (.r id off len)
 | _ => none
def St.outMs (σ : St) : List Nat → List SC → Option (List D × List Nat)
 | _, [] => some ([], [])
 | ms, c :: cs => match σ.outM (ms.headD 0) c, σ.outMs ms.tail cs with | some (d, i), some (ds, is) => some (d :: ds, i ++ is) | _, _ => none
def St.outX (σ : St) (ms : List Nat) : Ptr → Option (List D × List Nat)
 | .q id 0 0 => match σ.obj id with
  | some (.box cells) => (σ.outMs ms cells).map fun r => (r.1, id :: r.2)
  | _ => none
 | _ => none
def endT0 (res : List RVar) (n : Nat) (ms : List Nat) (R : List D → List RV → Prop) (σ : St) : Prop :=
 ∃ vs, resVs σ res = some vs ∧ ∃ p, asPtr (σ.get 1000000) = some p ∧ ∃ c, σ.outX ms p = some c ∧ ∃ r, σ.outs vs = some r ∧ u0j (c.2 ++ r.2) = true ∧ c.1.length = n ∧ R c.1 r.1
def endT (res : List RVar) (n : Nat) (ms : List Nat) (R : List D → List RV → Prop) : Ex → St → Prop
 | .exit _, _ => False
 | _, σ => ∃ fs, endT0 res n ms R (σ.frz fs)
def ptrX : SV := .one (.p (.q 0 0 0))
def locX (b n : Nat) : Nat → LS := fun u => if u = 0 then .live ⟨some b, 1, n, []⟩ else .free
def FnX (P : Program) (G : Nat → Option (List D)) (f : Nat) (args : List SV) (ds : List D) (R : List D → List RV → Prop) : Prop :=
 fOk P f = true ∧ ∀ (w : World) (Im : Nat → Prop) (vals : List Value) (b : Nat) (fp : List Nat), GOk G w.heap Im → (∀ k, Im k → k < w.heap.size) → RelD w.heap Im (.x ds) (.pointer (some ⟨b, 0, none⟩)) fp → fp.Nodup → (∀ k ∈ fp, ¬ Im k ∧ k < w.heap.size) →
  RelVs w.heap Im (locX b ds.length) args vals →
  Calls P f vals.toArray w fun e w' => ∃ vs c rs Im' fp1 fp2, e = .returned (packV vs) ∧ R c rs ∧ c.length = ds.length ∧ Ext (· ∈ fp) w w' ∧ (∀ k, Im k → Im' k) ∧ (∀ k, Im' k → Im k ∨ k ∈ fp ∨ w.heap.size ≤ k) ∧ (∀ k, Im' k → k < w'.heap.size) ∧
   RelD w'.heap Im' (.x c) (.pointer (some ⟨b, 0, none⟩)) fp1 ∧ RelRs w'.heap Im' rs vs fp2 ∧ (fp1 ++ fp2).Nodup ∧ ∀ k ∈ fp1 ++ fp2, ¬ Im' k ∧ k < w'.heap.size ∧ (k ∈ fp ∨ w.heap.size ≤ k)
def dd (n : Nat) : List SC := List.replicate n .dead
def St.initX (args : List SV) (n : Nat) : St := ⟨fun t => if t = 1000000 then ptrX else args.getD t .dead, fun u => if u = 0 then some (.box (dd n)) else none, 1⟩
def St.startX (args : List SV) (ds : List D) : St := (((St.initX args ds.length).addDs ds).1).setO 0 (some (.box ((St.initX args ds.length).addDs ds).2))
def isX (u : Nat) : SV → Bool
 | .one (.p (.q k 0 0)) => k == u
 | _ => false
def St.inVsX (σ : St) (u : Nat) : List SV → Option (List SV)
 | [] => some []
 | v :: r => match (if isX u v = true then some ptrX else σ.inV false v), σ.inVsX u r with | some a, some as => some (a :: as) | _, _ => none
def St.boxX (σ : St) (u : Nat) (ids : List Nat) (n : Nat) : St := (St.kills ids σ).setO u (some (.box (dd n)))
def St.callX (σ : St) (u : Nat) (c : List D) (rs : List RV) : St × List SV := (((σ.addDs c).1).setO u (some (.box (σ.addDs c).2))).addRs rs

section
variable {P : Program} {G : Nat → Option (List D)} {X : Ctx} {σ : St} {tm : Array Value} {w w' : World} {O : Nat → LS} {Im : Nat → Prop}
theorem u3r {h : Array Obj} {Im : Nat → Prop} {O : Nat → LS} : ∀ (n : Nat) {vs : List Value}, vs.length = n → (∀ v ∈ vs, v.oneCell' = true) → RelCl h Im O (dd n) vs
 | 0, [], _, _ => .nil
 | n + 1, v :: vs, hl, hv => .cons _ _ _ _ (.dead v (hv v (by simp))) (u3r n (by simpa using hl) (fun v h => hv v (by simp [h])))
 | 0, _ :: _, hl, _ => by simp at hl
 | n + 1, [], hl, _ => by simp at hl
theorem SimW.setbox (s : SimW G X σ tm w O Im) {u b : Nat} {old cells : List SC} (ho : σ.objs u = some (.box old)) (hl : O u = .live ⟨some b, 1, cells.length, []⟩) {c : Array Value} {e : TypeId} (hb : w.heap[b]? = some (.cells c e (0, 0))) (hr : RelCl w.heap Im O cells c.toList) :
 SimW G X (σ.setO u (some (.box cells))) tm w O Im :=
 s.write (o := .box old) (o' := .box cells) (b := b) ho hl (.inl rfl) (fun _ => Iff.rfl) rfl rfl rfl rfl (fun _ _ => rfl) (.box cells b c e hb hr (s.ownblk ho hl (.inl rfl)).1)
theorem u5g (s : SimW G X σ tm w O Im) {m : Nat} {c : SC} {v : Value} {d : D} {ids : List Nat} (r : RelC w.heap Im O c v) (e : σ.outM m c = some (d, ids)) : ∃ fp, RelD w.heap Im d v fp ∧ Blks σ O ids fp := by
 cases c with
 | nl sz =>
  simp only [St.outM, Option.some.injEq, Prod.mk.injEq] at e
  obtain ⟨rfl, rfl⟩ := e
  cases r with
  | nl _ a0 =>
   split
   ·exact ⟨[], .l0 sz a0 0, .nil⟩
   ·split
    ·exact ⟨[], .t0 sz a0, .nil⟩
    ·exact ⟨[], .o0 sz a0, .nil⟩
 | d d' => exact x1n s r e
 | r id off len => exact x1n s r e
 | _ => cases e
theorem v2g (s : SimW G X σ tm w O Im) : ∀ {ms : List Nat} {cs : List SC} {vs : List Value} {ds : List D} {ids : List Nat}, RelCl w.heap Im O cs vs → σ.outMs ms cs = some (ds, ids) → ∃ fp, RelCs w.heap Im ds vs fp ∧ Blks σ O ids fp ∧ ds.length = cs.length
 | _, [], vs, ds, ids, r, e => by simp only [St.outMs, Option.some.injEq, Prod.mk.injEq] at e; obtain ⟨rfl, rfl⟩ := e; exact ⟨[], .nil _, .nil, rfl⟩
 | ms, c :: cs, vs, ds, ids, r, e => by
  cases r with
  | cons _ v _ vs' r1 r2 =>
   simp only [St.outMs] at e
   split at e
   ·rename_i d i ds' is h1 h2
    simp only [Option.some.injEq, Prod.mk.injEq] at e; obtain ⟨rfl, rfl⟩ := e
    obtain ⟨f1, g1, b1⟩ := u5g s r1 h1
    obtain ⟨f2, g2, b2, hl⟩ := v2g s r2 h2
    exact ⟨f1 ++ f2, .cons _ _ _ _ _ _ g1 g2, b1.app b2, by simp [hl]⟩
   ·cases e
theorem w5g (s : SimW G X σ tm w O Im) {ms : List Nat} {p : Ptr} {b : Nat} {c : List D × List Nat} (r : RelP w.heap Im O p (.pointer (some ⟨b, 0, none⟩))) (e : σ.outX ms p = some c) : ∃ fp, RelD w.heap Im (.x c.1) (.pointer (some ⟨b, 0, none⟩)) fp ∧ Blks σ O c.2 fp := by
 generalize hv : Value.pointer (some ⟨b, 0, none⟩) = v at r ⊢
 unfold St.outX at e
 split at e
 ·rename_i id
  split at e
  ·rename_i cells hob
   simp only [Option.map_eq_some_iff] at e
   obtain ⟨⟨ds, is⟩, e, rfl⟩ := e
   obtain ⟨l, hl, hr, hb⟩ := s.obj id _ hob
   cases r with
   | qd _ _ _ _ h1 => rw [h1] at hl; cases hl
   | q _ _ _ b' cap sz h1 =>
    rw [h1] at hl; cases hl
    cases hr with
    | box _ _ c e' k1 k2 k3 =>
     obtain ⟨fp, g1, g2, g3⟩ := v2g s k2 e
     have hcl := k2.len
     simp only [Array.length_toList] at hcl
     exact ⟨b' :: fp, by simpa using RelD.x ds b' c e' fp k1 (by omega) g1, .cons _ [b'] _ _ _ _ hob h1 (fun k hk => by simp at hk; subst hk; exact .inl rfl) (by simp) g2⟩
  ·cases e
 ·cases e
theorem FnX.of {f : Nat} {F : VFn} (ms : List Nat) {args : List SV} {ds : List D} {R : List D → List RV → Prop} (hf : lowF P f = some F.strip) (hok : fOk P f = true) (hn : args.length ≤ F.ntmps) (hm : F.ntmps ≤ 1000000)
 (h : wpv P G F.body (endT F.results ds.length ms R) (St.startX args ds)) : FnX P G f args ds R := by
 refine ⟨hok, fun w Im vals b fp hg him hd0 hnd hfp hr => ?_⟩
 unfold lowF at hf
 simp only [Option.bind_eq_some_iff, Option.map_eq_some_iff] at hf
 obtain ⟨fn, h1, c, h2, vc, h3, res, h4, hf⟩ := hf
 obtain ⟨nt, vb, res'⟩ := F
 simp only [VFn.strip, VFn.mk.injEq] at hf
 obtain ⟨rfl, rfl, rfl⟩ := hf
 have hlen : vals.length = args.length := by
  have : ∀ {xs : List SV} {ys : List Value}, RelVs w.heap Im (locX b ds.length) xs ys → ys.length = xs.length := by
   intro xs
   induction xs with
   | nil => intro ys r; cases r; rfl
   | cons x xs ih => intro ys r; cases r with | cons _ _ _ _ _ r => simp [ih r]
  exact this hr
 have hat : ∀ {xs : List SV} {ys : List Value}, RelVs w.heap Im (locX b ds.length) xs ys → ∀ t, RelV w.heap Im (locX b ds.length) (xs.getD t .dead) (ys.getD t undef) := by
  intro xs
  induction xs with
  | nil => intro ys r t; exact .dead _
  | cons x xs ih => intro ys r t; cases r with
   | cons _ v _ vs r1 r2 => cases t with
    | zero => simpa using r1
    | succ t => simpa using ih r2 t
 let X : Ctx := ⟨w, (· ∈ fp), Im, fun k => if k = 0 then .pointer (some ⟨b, 0, none⟩) else undef⟩
 have hn' : args.length ≤ fn.ntmps := hn
 have hm' : fn.ntmps ≤ 1000000 := hm
 have hsz : (vals.toArray ++ Array.replicate (fn.ntmps - vals.toArray.size) undef).size = fn.ntmps := by simp [hlen]; omega
 generalize htm : vals.toArray ++ Array.replicate (fn.ntmps - vals.toArray.size) undef = tm at hsz
 cases hd0 with
 | x _ _ cc e fp1 k1 k2 k3 =>
 have hones : ∀ v ∈ cc.toList, v.oneCell' = true := fun v hv => k3.ones v (by rw [← k2, ← Array.length_toList, List.take_length]; exact hv)
 have hdd : RelCl w.heap Im (locX b ds.length) (dd ds.length) cc.toList := u3r ds.length (by simpa using k2) hones
 have hl0 : ∀ u l, locX b ds.length u = .live l → u = 0 ∧ l = ⟨some b, 1, ds.length, []⟩ := by
  intro u l hl
  unfold locX at hl
  by_cases e : u = 0
  ·rw [if_pos e] at hl; cases hl; exact ⟨e, rfl⟩
  ·rw [if_neg e] at hl; cases hl
 have ho0 : ∀ u o, (St.initX args ds.length).objs u = some o → u = 0 ∧ o = .box (dd ds.length) := by
  intro u o ho
  simp only [St.initX] at ho
  by_cases e : u = 0
  ·rw [if_pos e] at ho; cases ho; exact ⟨e, rfl⟩
  ·rw [if_neg e] at ho; cases ho
 have s0 : SimW G X (St.initX args ds.length) tm w (locX b ds.length) Im := by
  refine ⟨.refl _ _, fun k hk => (hfp k hk).2, him, fun _ h => h, fun _ h => .inl h, ?_, ?_, ?_, ?_, hg⟩
  ·intro u hu l hl
   obtain ⟨rfl, _⟩ := hl0 u l hl
   simp [St.initX] at hu
  ·intro u o ho
   obtain ⟨rfl, rfl⟩ := ho0 u o ho
   refine ⟨⟨some b, 1, ds.length, []⟩, rfl, ?_, ?_⟩
   ·have := RelO.box (h := w.heap) (Im := Im) (O := locX b ds.length) (dd ds.length) b cc e k1 hdd (hfp b (by simp)).1
    simpa [dd] using this
   ·intro k hk
    simp only [Own, Option.some.injEq, List.not_mem_nil, or_false] at hk; subst hk
    exact ⟨(hfp b (by simp)).1, (hfp b (by simp)).2, .inl (show b ∈ b :: fp1 by simp)⟩
  ·intro u u' o o' l l' k hne ho ho'
   exact absurd ((ho0 u o ho).1.trans (ho0 u' o' ho').1.symm) hne
  ·intro t
   show RelV _ _ _ (if t = 1000000 then ptrX else args.getD t .dead) _
   by_cases e : t = 1000000
   ·rw [if_pos e, e]
    have : tmAt X.gh tm 1000000 = .pointer (some ⟨b, 0, none⟩) := (z1z X.gh tm (t := 0) (by omega)).trans rfl
    rw [this]
    have := RelP.q (h := w.heap) (Im := Im) (O := locX b ds.length) 0 0 0 b 1 ds.length rfl
    exact .one _ _ (.p _ _ (by simpa using this))
   ·rw [if_neg e]
    by_cases hlt : t < 1000000
    ·rw [y1z _ _ hlt]
     have := hat hr t
     have e2 : tm.getD t undef = vals.getD t undef := by
      rw [← htm]
      simp only [Array.getD_eq_getD_getElem?, List.getD_eq_getElem?_getD, Array.getElem?_append, Array.getElem?_replicate, List.getElem?_toArray, List.size_toArray]
      split
      ·rfl
      ·rename_i hlt
       rw [List.getElem?_eq_none (by omega)]
       split <;> rfl
     rw [e2]; exact this
    ·have : args.getD t .dead = .dead := by simp [List.getD_eq_getElem?_getD, List.getElem?_eq_none (show args.length ≤ t by omega)]
     rw [this]; exact .dead _
 obtain ⟨hnb, hn1⟩ := List.nodup_cons.1 hnd
 have hfr0 : ∀ u, (St.initX args ds.length).next ≤ u → locX b ds.length u = .free := fun u hu => by
  have : 1 ≤ u := hu
  simp [locX]; omega
 obtain ⟨O1, s1, a1, q1⟩ := y1a s0 hfr0 k3 hn1 (fun k hk => ⟨(hfp k (by simp [hk])).1, (hfp k (by simp [hk])).2, .inl (show k ∈ b :: fp1 by simp [hk]), fun u o l' ho hl hk2 => by
  obtain ⟨rfl, rfl⟩ := ho0 u o ho
  obtain ⟨_, rfl⟩ := hl0 0 l' hl
  simp only [Own, Option.some.injEq, List.not_mem_nil, or_false] at hk2
  exact hnb (hk2 ▸ hk)⟩)
 have htk : cc.toList.take ds.length = cc.toList := by rw [← k2, ← Array.length_toList, List.take_length]
 rw [htk] at q1
 have hcl : ((St.initX args ds.length).addDs ds).2.length = ds.length := by have := q1.len; simp at this; omega
 have hO1 : O1 0 = .live ⟨some b, 1, ((St.initX args ds.length).addDs ds).2.length, []⟩ := by
  rw [a1.old 0 (by simp [locX]), hcl]; rfl
 have ho1 : ((St.initX args ds.length).addDs ds).1.objs 0 = some (.box (dd ds.length)) := by
  rw [(z0p ds _ 0 (Nat.zero_lt_one)).1]; rfl
 have s2 : SimW G X (St.startX args ds) tm w O1 Im := s1.setbox ho1 hO1 k1 q1
 refine (calls_of_wp h1 h2 (wp_mono (w2f (X := X) c vb h3 _ _ _ _ h ⟨O1, Im, htm ▸ s2, a1.free, rfl, htm ▸ hsz⟩) ?_)).mono (fun e w' h => h)
 rintro e' a w' ⟨x, σ', hx, hq, O', Im', s', hfree, hdf, hs⟩
 have fin : (∃ fs, endT0 res ds.length ms R (σ'.frz fs)) → a.defers = [] ∧ ∃ v, (results fn a.tmps).run P w' = .ok v w' ∧ ∃ vs c rs Im' fp1' fp2, Ending.returned v = .returned (packV vs) ∧ R c rs ∧ c.length = ds.length ∧ Ext (· ∈ b :: fp1) w w' ∧ (∀ k, Im k → Im' k) ∧ (∀ k, Im' k → Im k ∨ k ∈ b :: fp1 ∨ w.heap.size ≤ k) ∧ (∀ k, Im' k → k < w'.heap.size) ∧
  RelD w'.heap Im' (.x c) (.pointer (some ⟨b, 0, none⟩)) fp1' ∧ RelRs w'.heap Im' rs vs fp2 ∧ (fp1' ++ fp2).Nodup ∧ ∀ k ∈ fp1' ++ fp2, ¬ Im' k ∧ k < w'.heap.size ∧ (k ∈ b :: fp1 ∨ w.heap.size ≤ k) := by
  rintro ⟨fs, svs, e1, p, ep, c1, ec, ⟨rs, ids⟩, e2, e3, e4, e5⟩
  refine ⟨hdf, ?_⟩
  obtain ⟨O3, Im2, s3, hfree3, _, _, _⟩ := (y2i fs s' hfree).ex
  obtain ⟨vs, r1, hrun⟩ := z0w (a := a) s3 h4 e1
  obtain ⟨fp2, r2, hb2⟩ := u2z s3 r1 e2
  have hgp := s3.slot 1000000
  have e6 : tmAt X.gh a.tmps 1000000 = .pointer (some ⟨b, 0, none⟩) := (z1z X.gh a.tmps (t := 0) (by rw [hs]; exact hm')).trans rfl
  rw [e6] at hgp
  obtain ⟨fp1', r3, hb1⟩ := w5g s3 (y0l hgp ep) ec
  have hres : (results fn a.tmps).run P w' = .ok (packV vs) w' := by
   have hm : (fn.results.mapM (resM a.tmps)).run P w' = .ok vs.toArray w' := by
    rw [Array.mapM_eq_mapM_toList]
    simp [hrun]
   unfold results
   simp only [Sem.run_bind]
   have hm2 : (fn.results.mapM fun r => match r with | .tmp t => (pure (a.tmps.getD t undef) : Sem Value) | .cell c t => do loadVar t (← asAddr (a.tmps.getD c undef))) = fn.results.mapM (resM a.tmps) := by
    congr 1
   refine Eq.trans (congrArg (fun m : Sem (Array Value) => (m.run P w').andThen fun a w' => Sem.run P (pure (if h : a.size = 1 then a[0] else Value.tuple a)) w') hm2) ?_
   simp only [hm]
   simp only [Result.andThen_ok, Sem.run_pure]
   rw [v2z]
  have hbb := hb1.app hb2
  refine ⟨packV vs, hres, vs, c1.1, rs, Im2, fp1', fp2, rfl, e5, e4, s3.ext, s3.im0, fun k hk => ?_, s3.imlt, r3, r2, hbb.nodup s3 (w0o e3), ?_⟩
  ·rcases s3.im1 k hk with h | h | h
   ·exact .inl h
   ·exact .inr (.inl h)
   ·exact .inr (.inr h)
  ·intro k hk
   obtain ⟨id, o, l, _, g1, g2, g3⟩ := hbb.mem k hk
   obtain ⟨q1, q2, q3⟩ := s3.ownblk g1 g2 g3
   exact ⟨q1, q2, q3⟩
 cases x <;> cases e' <;> simp only [exRel] at hx
 ·exact fin hq
 ·exact hq.elim
 ·exact fin hq
theorem w3j (s : SimW G X σ tm w O Im) {O0 : Nat → LS} {u b n cap : Nat} (hu : O0 u = .live ⟨some b, cap, n, []⟩) (hO : ∀ v, O v = O0 v ∨ O v = .gone) : ∀ {cs : List SV} {vs : List Value} {as : List SV}, RelVs w.heap Im O0 cs vs → σ.inVsX u cs = some as → RelVs w.heap Im (locX b n) as vs
 | [], vs, as, r, e => by simp only [St.inVsX, Option.some.injEq] at e; subst e; cases r; exact .nil
 | c :: cs, vs, as, r, e => by
  cases r with
  | cons _ v _ vs' r1 r2 =>
   simp only [St.inVsX] at e
   split at e
   ·rename_i a as' h1 h2
    simp only [Option.some.injEq] at e; subst e
    refine .cons _ _ _ _ ?_ (w3j s hu hO r2 h2)
    split at h1
    ·rename_i hx
     simp only [Option.some.injEq] at h1; subst h1
     unfold isX at hx
     split at hx
     ·rename_i k
      have hk : k = u := by simpa using hx
      subst hk
      cases r1 with
      | one _ _ r1 =>
       cases r1 with
       | p _ _ r1 =>
        cases r1 with
        | qd _ _ _ _ h _ => rw [hu] at h; cases h
        | q _ _ _ b' cap' sz' h =>
         rw [hu] at h; cases h
         have := RelP.q (h := w.heap) (Im := Im) (O := locX b n) 0 0 0 b 1 n rfl
         simp only [Nat.zero_mul, Nat.add_zero] at this ⊢
         exact .one _ _ (.p _ _ this)
     ·cases hx
    ·have m0 : Moves w.heap w.heap Im Im O0 O := ⟨fun _ h => h, fun _ _ => rfl, fun v _ => hO v⟩
     have := u4n s (lend := false) (r1.moves m0) h1
     exact this.moves ⟨fun k hk => hk.elim id (fun h => by cases h.1), fun _ _ => rfl, fun v hv => absurd rfl hv⟩
   ·cases e
theorem CallV.t {f : Nat} {svs args : List SV} {ds : List D} {R : List D → List RV → Prop} {K : St → SV → Prop} {u : Nat} {cells : List SC} {ids : List Nat} {ms : List Nat} (h : FnX P G f args ds R) (hu : σ.obj u = some (.box cells)) (ho : σ.outMs ms cells = some (ds, ids))
 (hn : u0j (u :: ids) = true) (hlt : ((u :: ids).all fun i => decide (i < σ.next)) = true) (ha : (St.kills (u :: ids) σ).inVsX u svs = some args)
 (hk : ∀ c rs, R c rs → K ((σ.boxX u ids ds.length).callX u c rs).1 (packS ((σ.boxX u ids ds.length).callX u c rs).2)) : CallV P G f svs σ K := by
 refine .inl ⟨h.1, fun X tm w O Im vals s hf hr => ?_⟩
 obtain ⟨l, hl, hro, hown⟩ := s.obj u _ hu
 cases hro with
 | box _ b cc e k1 k2 k3 =>
 obtain ⟨fpc, r1, hb1, hlen⟩ := v2g s k2 ho
 have hcl : cc.size = ds.length := by have := k2.len; simp at this; omega
 have hB : Blks σ O (u :: ids) (b :: fpc) := .cons u [b] _ _ _ _ hu hl (fun k hk => by simp at hk; subst hk; exact .inl rfl) (by simp) hb1
 have hnd : (b :: fpc).Nodup := hB.nodup s (w0o hn)
 have hfp : ∀ k ∈ b :: fpc, ¬ Im k ∧ k < w.heap.size ∧ (X.own k ∨ X.w0.heap.size ≤ k) := fun k hk => by
  obtain ⟨id, o, l, _, g1, g2, g3⟩ := hB.mem k hk
  exact s.ownblk g1 g2 g3
 have hx : RelD w.heap Im (.x ds) (.pointer (some ⟨b, 0, none⟩)) (b :: fpc) := .x ds b cc e fpc k1 hcl r1
 have hcells : cells.length = ds.length := hlen.symm
 obtain ⟨Ok, sk, _, _, hok, _⟩ := SimW.kills (u :: ids) s
 have hargs : RelVs w.heap Im (locX b ds.length) args vals := by
  refine w3j (O0 := O) (u := u) (cap := 1) sk (by rw [hl, hcells]) hok hr ha
 refine (h.2 w Im vals b (b :: fpc) s.glob s.imlt hx hnd (fun k hk => ⟨(hfp k hk).1, (hfp k hk).2.1⟩) hargs).mono ?_
 rintro e' w' ⟨vs, c, rs, Im', fp1, fp2, rfl, hR, hcn, hext, i1, i2, i3, hxc, hrs, hnd2, hfp2⟩
 have hkk := hk c rs hR
 obtain ⟨n1, n2⟩ := List.nodup_cons.1 (w0o hn)
 obtain ⟨O1, s1, p1, p2, p3, p4⟩ := SimW.kills ids s
 have hlt' : ∀ i ∈ u :: ids, i < σ.next := fun i hi => by simpa using List.all_eq_true.1 hlt i hi
 have hu1 : (St.kills ids σ).objs u = some (.box cells) := by rw [(p1 u n1).2]; exact hu
 have hO1u : O1 u = .live ⟨some b, 1, (dd ds.length).length, []⟩ := by rw [(p1 u n1).1, hl]; simp [dd, hcells]
 have hones : ∀ v ∈ cc.toList, v.oneCell' = true := k2.one
 have s2 : SimW G X (σ.boxX u ids ds.length) tm w O1 Im := s1.setbox hu1 hO1u k1 (u3r _ (by simpa using hcl) hones)
 let F : Nat → Prop := (· ∈ b :: fpc)
 let Im'' : Nat → Prop := fun k => Im k ∨ Im' k
 have hnew : ∀ k, k ∈ fp1 ++ fp2 → ¬ Im'' k := fun k hk h => (hfp2 k hk).1 (h.elim (i1 k) id)
 have hIm : ∀ k, Im'' k ↔ Im' k := fun k => ⟨fun h => h.elim (i1 k) id, .inr⟩
 cases hxc with
 | x _ _ c2 e2 fpd m1 m2 m3 =>
 have hbn : ¬ Im'' b := hnew b (by simp)
 have hones2 : ∀ v ∈ c2.toList, v.oneCell' = true := fun v hv => m3.ones v (by rw [← m2, ← Array.length_toList, List.take_length]; exact hv)
 have hobjs : ∀ v o, (σ.boxX u ids ds.length).objs v = some o → (v = u ∧ o = .box (dd ds.length)) ∨ (v ≠ u ∧ v ∉ ids ∧ σ.objs v = some o ∧ O1 v = O v) := by
  intro v o ho
  by_cases e : v = u
  ·subst e; left; simp [St.boxX, St.setO] at ho; exact ⟨rfl, ho.symm⟩
  ·right
   have ho' : (St.kills ids σ).objs v = some o := by simpa [St.boxX, St.setO, e] using ho
   by_cases hi : v ∈ ids
   ·rw [p2 v hi] at ho'; cases ho'
   ·exact ⟨e, hi, by rw [← (p1 v hi).2]; exact ho', (p1 v hi).1⟩
 have s3 : SimW G X (σ.boxX u ids ds.length) tm w' O1 Im'' := by
  refine s2.moved (F := F) hext (fun k _ hk => ⟨(hfp k hk).1, (hfp k hk).2.2⟩) (fun k h => .inl h) (fun k hk => ?_) ?_
  ·by_cases hik : Im k
   ·exact .inl hik
   ·right
    have hk' : Im' k := (hIm k).1 hk
    refine ⟨?_, i3 k hk'⟩
    rcases i2 k hk' with h | h | h
    ·exact absurd h hik
    ·exact .inl ⟨h, (hfp k h).2.1⟩
    ·exact .inr h
  ·intro v o l ho hlv
   rcases hobjs v o ho with ⟨rfl, rfl⟩ | ⟨hvu, hvi, hov, hOv⟩
   ·rw [hO1u] at hlv; cases hlv
    refine ⟨.box _ b c2 e2 m1 (u3r _ (by simp [m2, hcn]) hones2) hbn, fun k hk => ?_⟩
    simp only [Own, Option.some.injEq, List.not_mem_nil, or_false] at hk; subst hk; exact hbn
   ·rw [hOv] at hlv
    have hnf : ∀ k, Own o l k → ¬ F k := by
     intro k hk hF
     obtain ⟨id, o2, l2, hid, g1, g2, g3⟩ := hB.mem k hF
     have hne : v ≠ id := fun e => by subst e; rcases List.mem_cons.1 hid with h | h; exact hvu h; exact hvi h
     exact s.disj v id o o2 l l2 k hne hov g1 hlv g2 hk g3
    have hni : ∀ k, Own o l k → ¬ Im'' k := by
     intro k hk h
     obtain ⟨q1, q2, q3⟩ := s.ownblk hov hlv hk
     rcases i2 k ((hIm k).1 h) with h | h | h
     ·exact q1 h
     ·exact hnf k hk h
     ·omega
    obtain ⟨l', g1, g2, g3⟩ := s2.obj v o ho
    rw [hOv, hlv] at g1; cases g1
    exact ⟨g2.moves ⟨fun k h => .inl h, fun k hk => hext.block k (s.imlt k hk) (fun hF => (hfp k hF).1 hk), fun _ _ => .inl rfl⟩ (fun k hk => ⟨hext.block k (g3 k hk).2.1 (hnf k hk), hni k hk⟩), hni⟩
 have hfree1 : ∀ v, (σ.boxX u ids ds.length).next ≤ v → O1 v = .free := by
  intro v hv
  have hv' : σ.next ≤ v := by
   have : (σ.boxX u ids ds.length).next = σ.next := by show (St.kills ids σ).next = _; exact p4.1
   omega
  rw [(p1 v (fun h => by have := hlt' v (by simp [h]); omega)).1]
  exact hf v hv'
 have hfb : ∀ k ∈ fp2 ++ fpd, x0h X (σ.boxX u ids ds.length) w' O1 Im'' k := by
  intro k hk
  have hk' : k ∈ (b :: fpd) ++ fp2 := by simp at hk ⊢; rcases hk with h | h <;> simp [h]
  obtain ⟨q1, q2, q3⟩ := hfp2 k hk'
  refine ⟨hnew k hk', q2, ?_, ?_⟩
  ·rcases q3 with h | h
   ·exact (hfp k h).2.2
   ·exact .inr (Nat.le_trans s.ext.size h)
  ·intro v o l ho hlv hbk
   rcases hobjs v o ho with ⟨rfl, rfl⟩ | ⟨hvu, hvi, hov, hOv⟩
   ·rw [hO1u] at hlv; cases hlv
    simp only [Own, Option.some.injEq, List.not_mem_nil, or_false] at hbk; subst hbk
    obtain ⟨m1', m2', m3'⟩ := List.nodup_append.1 hnd2
    rcases List.mem_append.1 hk with h | h
    ·exact m3' b (by simp) b h rfl
    ·exact (List.nodup_cons.1 m1').1 h
   ·rw [hOv] at hlv
    obtain ⟨g1, g2, g3⟩ := s.ownblk hov hlv hbk
    rcases q3 with h | h
    ·obtain ⟨id, o2, l2, hid, e1, e2, e3⟩ := hB.mem k h
     have hne : v ≠ id := fun e => by subst e; rcases List.mem_cons.1 hid with h | h; exact hvu h; exact hvi h
     exact s.disj v id o o2 l l2 k hne hov e1 hlv e2 hbk e3
    ·omega
 obtain ⟨nd1, nd2, nd3⟩ := List.nodup_append.1 hnd2
 have m3' : RelCs w'.heap Im'' c c2.toList fpd := m3.keep (fun k h => .inr h) (fun _ _ => rfl)
 obtain ⟨O4, s4, a4, q4⟩ := y1a s3 hfree1 m3' (List.nodup_cons.1 nd1).2 (fun k hk => hfb k (by simp [hk]))
 have htk : c2.toList.take c.length = c2.toList := by rw [← m2, ← Array.length_toList, List.take_length]
 rw [htk] at q4
 have hcl4 : ((σ.boxX u ids ds.length).addDs c).2.length = ds.length := by have := q4.len; simp at this; omega
 have hune : O1 u ≠ .free := by rw [hO1u]; simp
 have hO4u : O4 u = .live ⟨some b, 1, ((σ.boxX u ids ds.length).addDs c).2.length, []⟩ := by rw [a4.old u hune, hO1u, hcl4]; simp [dd]
 have hunx : u < (σ.boxX u ids ds.length).next := by
  have : (σ.boxX u ids ds.length).next = σ.next := by show (St.kills ids σ).next = _; exact p4.1
  have := hlt' u (by simp)
  omega
 have hob4 : ((σ.boxX u ids ds.length).addDs c).1.objs u = some (.box (dd ds.length)) := by
  rw [(z0p c _ u hunx).1]; simp [St.boxX, St.setO]
 have s5 := s4.setbox hob4 hO4u m1 q4
 have hrs' : RelRs w'.heap Im'' rs vs fp2 := hrs.up (fun k h => .inr h)
 obtain ⟨O6, s6, a6, q6⟩ := w2j s5 a4.free hrs' nd2 (fun k hk => by
  have hnk : k ∉ fpd := fun h => nd3 k (by simp [h]) k hk rfl
  obtain ⟨g1, g2, g3, g4⟩ := (hfb k (by simp [hk])).later a4 hnk
  refine ⟨g1, g2, g3, fun v o l ho hlv hbk => ?_⟩
  by_cases e : v = u
  ·subst e
   simp [St.setO] at ho; subst ho
   exact g4 v _ l hob4 hlv hbk
  ·exact g4 v o l (by simpa [St.setO, e] using ho) hlv hbk)
 exact ⟨_, _, _, O6, Im'', rfl, hkk, s6, a6.free, v0y q6⟩
def St.preX (σ : St) (u : Nat) (ms : List Nat) (ids : List Nat) (svs : List SV) : Option (List SV × List D) := match σ.obj u with
 | some (.box cells) => match σ.outMs ms cells with
  | some (ds, ids') => if ids' = ids ∧ u0j (u :: ids) = true ∧ ((u :: ids).all fun i => decide (i < σ.next)) = true then ((St.kills (u :: ids) σ).inVsX u svs).map fun as => (as, ds) else none
  | none => none
 | _ => none
theorem CallV.t' {f : Nat} {svs args : List SV} {ds : List D} {R : List D → List RV → Prop} {K : St → SV → Prop} {u : Nat} {ids : List Nat} {ms : List Nat} (h : FnX P G f args ds R) (hp : σ.preX u ms ids svs = some (args, ds))
 (hk : ∀ c rs, R c rs → K ((σ.boxX u ids ds.length).callX u c rs).1 (packS ((σ.boxX u ids ds.length).callX u c rs).2)) : CallV P G f svs σ K := by
 unfold St.preX at hp
 split at hp
 ·rename_i cells hu
  split at hp
  ·rename_i ds' ids' ho
   split at hp
   ·rename_i hc
    obtain ⟨rfl, h1, h2⟩ := hc
    simp only [Option.map_eq_some_iff, Prod.mk.injEq] at hp
    obtain ⟨as, ha, rfl, rfl⟩ := hp
    exact CallV.t h hu ho h1 h2 ha hk
   ·cases hp
  ·cases hp
 ·cases hp
theorem CallV.frz {f : Nat} {svs : List SV} {K : St → SV → Prop} (fs : List GC) (h : CallV P G f svs (σ.frz fs) K) : CallV P G f svs σ K := by
 have hrel : ∀ {h : Array Obj} {Im Im' : Nat → Prop} {O O' : Nat → LS}, (∀ {x : SV} {v : Value}, RelV h Im O x v → RelV h Im' O' x v) → ∀ {xs : List SV} {vs : List Value}, RelVs h Im O xs vs → RelVs h Im' O' xs vs := by
  intro h Im Im' O O' hr xs
  induction xs with
  | nil => intro vs r; cases r; exact .nil
  | cons x xs ih => intro vs r; cases r with | cons _ _ _ _ r1 r2 => exact .cons _ _ _ _ (hr r1) (ih r2)
 rcases h with ⟨hok, h⟩ | h
 ·refine .inl ⟨hok, fun X tm w O Im vals s hf hr => ?_⟩
  obtain ⟨O', Im', s', hf', _, hv, _⟩ := (y2i fs s hf).ex
  exact h X tm w O' Im' vals s' hf' (hrel hv hr)
 ·refine .inr fun X tm w O Im vals s hf hr => ?_
  obtain ⟨O', Im', s', hf', _, hv, _⟩ := (y2i fs s hf).ex
  exact h X tm w O' Im' vals s' hf' (hrel hv hr)
end
end Go.V
