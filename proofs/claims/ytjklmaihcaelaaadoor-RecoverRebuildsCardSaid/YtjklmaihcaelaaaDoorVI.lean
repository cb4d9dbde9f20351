/- slices.Insert of one element: what is shown holds of the machine; conditions as stated. -/
import Derived.Test.YtjklmaihcaelaaaDoorVC
import Derived.Lib.Overlaps
set_option linter.unusedVariables false
set_option linter.unusedSimpArgs false
namespace Go.V
open Go
section
variable {P : Program} {G : Nat → Option (List D)} {X : Ctx} {σ σ' : St} {tm : Array Value} {w w' : World} {O : Nat → LS} {Im Im' : Nat → Prop}
def OvlOk (P : Program) (f : Nat) : Prop := ∃ fn tS tR e, P.funcs[f]? = some fn ∧ (fn.name == "runtime.NumGoroutine") = false ∧ fn.body.isNone = true ∧ Extern.findNext fn = none ∧ Extern.find fn = some (Extern.SlicesOverlaps.overlaps #[tS, tS] #[tR]) ∧
 P.underlying tS = some (.slice e) ∧ (P.info? e).isSome = true ∧ (P.cellsOf e != 0) = true
theorem x5g {f id id' off off' len len' cp sz sz' : Nat} {rows rows' : List (List D)} {K : St → SV → Prop} (ho : OvlOk P f) (hne : id ≠ id') (h1 : σ.obj id = some (.arr sz rows false)) (h2 : σ.obj id' = some (.arr sz' rows' false)) (hs : sz' ≠ 0)
 (hl : 0 < len) (hl' : 0 < len') (hK : K σ (.one (.d (.b false)))) : CallV P G f [.one (.r id off len), .one (.rc id' off' len' cp)] σ K := by
 refine .inr fun X tm w O Im vals s hf hr => ?_
 obtain ⟨fn, tS, tR, e, q1, q2, q3, q4, q5, q6, q7, q8⟩ := ho
 obtain ⟨i, q7⟩ := Option.isSome_iff_exists.1 q7
 cases hr with
 | cons _ v _ vs r1 hr =>
  cases hr with
  | cons _ v' _ vs' r2 hr =>
   cases hr
   obtain ⟨l, g1, g2, g3⟩ := s.obj id _ h1
   obtain ⟨l', k1, k2, k3⟩ := s.obj id' _ h2
   cases r1.one_inv with
   | rd _ _ _ _ e1 _ => rw [e1] at g1; cases g1
   | rn => omega
   | r _ _ _ b cap s0 ad c e1 e2 e3 e4 =>
    rw [e1] at g1; cases g1
    cases r2.one_inv with
    | rcd _ _ _ _ _ e5 _ => rw [e5] at k1; cases k1
    | rcn => omega
    | rc _ _ _ _ b' cap' s0' ad' e5 e6 e7 e8 =>
     rw [e5] at k1; cases k1
     obtain rfl := e4.resolve_right (by omega)
     obtain rfl := e8.resolve_right (by omega)
     cases g2 with
     | arr _ _ _ _ _ cur ty fr m1 m2 m3 m4 m5 m6 m7 m8 =>
      obtain rfl := m2 rfl
      cases k2 with
      | arr _ _ _ _ _ cur' ty' fr' n1 n2 n3 n4 n5 n6 n7 n8 =>
       obtain rfl := n2 rfl
       have hb : b ≠ b' := fun h => s.disj id id' _ _ _ _ b hne h1 h2 e1 e5 (.inl rfl) (by rw [h]; exact .inl rfl)
       have hsz : ∀ w, (Go.sizeOf e).run P w = .ok i.size w := fun w => by simp [sizeOf, typeInfo, q7]
       have hcap : 0 < cap' := by omega
       have hcs : cur'.size ≠ 0 := by rw [n6]; have := Nat.mul_pos hcap (Nat.pos_of_ne_zero hs); omega
       have hrun : (callFunc f [Value.slice (some ⟨b, off * sz, none⟩) len c, Value.slice (some ⟨b', off' * sz', none⟩) len' cp].toArray).run P w = .ok (.value (.bool false)) w := by
        rw [run_callFunc_extern q1 q2 q3 q4 q5,
         Lib.run_overlaps_apart w tS tR e q6 i.size hsz ⟨b, off * sz, none⟩ ⟨b', off' * sz', none⟩ len c len' cp hb ty ty' cur.size cur'.size (by simp [World.shape?, m1]) (by simp [World.shape?, n1]) hcs (by simp [World.frozen?, m1]) (by simp [World.frozen?, m1])]
        rfl
       exact ⟨_, w, σ, _, O, Im, hrun, hK, s, hf, .one _ _ (.d _ _ (.b _))⟩
def Ptr.lo (n : Nat) : Ptr → Prop
 | .q id _ _ => id < n
 | .l .. => True
def SC.lo (n : Nat) : SC → Prop
 | .r id _ _ => id < n
 | .rc id _ _ _ => id < n
 | .p x => x.lo n
 | .c _ caps => ∀ x ∈ caps, x.lo n
 | .d _ => True
 | .nl _ => True
 | .dead => True
mutual
def SV.lo (n : Nat) : SV → Prop
 | .one c => c.lo n
 | .agg cs => ∀ c ∈ cs, c.lo n
 | .tup vs => SV.los n vs
 | .dead => True
 | .und => True
def SV.los (n : Nat) : List SV → Prop
 | [] => True
 | v :: vs => SV.lo n v ∧ SV.los n vs
end
section
variable {h h' : Array Obj} {O' O'' : Nat → LS} {n : Nat}
theorem RelP.lo {x : Ptr} {v : Value} (r : RelP h Im O x v) (hf : ∀ u, n ≤ u → O u = .free) : x.lo n := by
 cases r with
 | qd id i j v h1 _ => exact Nat.lt_of_not_le fun hl => by rw [hf id hl] at h1; cases h1
 | q id i j b cap sz h1 => exact Nat.lt_of_not_le fun hl => by rw [hf id hl] at h1; cases h1
 | l => exact trivial
theorem RelC.lo {x : SC} {v : Value} (r : RelC h Im O x v) (hf : ∀ u, n ≤ u → O u = .free) : x.lo n := by
 cases r with
 | d | nl | dead => exact trivial
 | rd id _ _ _ h1 | r id _ _ _ _ _ _ _ h1 | rn id _ _ _ h1 | rcd id _ _ _ _ h1 | rc id _ _ _ _ _ _ _ h1 | rcn id _ _ _ h1 => exact Nat.lt_of_not_le fun hl => by rw [hf id hl] at h1; cases h1
 | p x v r => exact r.lo hf
 | c fn caps cv h1 h2 =>
  intro x hx
  obtain ⟨j, hj, rfl⟩ := List.mem_iff_getElem.1 hx
  obtain ⟨v, _, r⟩ := h2 j _ (List.getElem?_eq_getElem hj)
  exact r.lo hf
theorem RelCl.lo : ∀ {cs : List SC} {vs : List Value}, RelCl h Im O cs vs → (∀ u, n ≤ u → O u = .free) → ∀ c ∈ cs, c.lo n
 | _, _, .nil, _, c, hc => by cases hc
 | _, _, .cons c v cs vs r rs, hf, c', hc => by
  rcases List.mem_cons.1 hc with rfl | hc
  ·exact r.lo hf
  ·exact rs.lo hf c' hc
mutual
theorem RelV.lo : ∀ {x : SV} {v : Value}, RelV h Im O x v → (∀ u, n ≤ u → O u = .free) → SV.lo n x
 | _, _, .one c v r, hf => by rw [SV.lo]; exact r.lo hf
 | _, _, .agg cs cv r, hf => by rw [SV.lo]; exact r.lo hf
 | _, _, .tup vs tv r, hf => by rw [SV.lo]; exact RelVs.lo r hf
 | _, _, .dead v, _ => by rw [SV.lo]; exact trivial
 | _, _, .und, _ => by rw [SV.lo]; exact trivial
theorem RelVs.lo : ∀ {x : List SV} {v : List Value}, RelVs h Im O x v → (∀ u, n ≤ u → O u = .free) → SV.los n x
 | _, _, .nil, _ => by rw [SV.los]; exact trivial
 | _, _, .cons x v xs vs r rs, hf => by rw [SV.los]; exact ⟨RelV.lo r hf, RelVs.lo rs hf⟩
end
theorem RelP.ren {x : Ptr} {v : Value} (r : RelP h Im O x v) (hx : x.lo n) (ho : ∀ u, u < n → O' u = O u ∨ O' u = .gone) : RelP h Im O' x v := by
 cases r with
 | qd id i j v h1 h2 => exact .qd id i j v (by rcases ho id hx with e | e <;> simp [e, h1]) h2
 | q id i j b cap sz h1 =>
  rcases ho id hx with e | e
  ·exact .q id i j b cap sz (by rw [e, h1])
  ·exact .qd _ _ _ _ e rfl
 | l sz rows i j b off c e fr h1 h2 h3 h4 => exact .l sz rows i j b off c e fr h1 h2 h3 h4
theorem RelC.ren {x : SC} {v : Value} (r : RelC h Im O x v) (hx : x.lo n) (ho : ∀ u, u < n → O' u = O u ∨ O' u = .gone) : RelC h Im O' x v := by
 cases r with
 | d d v r => exact .d d v r
 | nl sz a => exact .nl sz a
 | dead v h => exact .dead v h
 | rd id off len v h1 h2 => exact .rd id off len v (by rcases ho id hx with e | e <;> simp [e, h1]) h2
 | r id off len b cap sz a c h1 h2 h3 h4 =>
  rcases ho id hx with e | e
  ·exact .r id off len b cap sz a c (by rw [e, h1]) h2 h3 h4
  ·exact .rd _ _ _ _ e rfl
 | rn id cap sz a h1 =>
  rcases ho id hx with e | e
  ·exact .rn id cap sz a (by rw [e, h1])
  ·exact .rd _ _ _ _ e rfl
 | rcd id off len cp v h1 h2 => exact .rcd id off len cp v (by rcases ho id hx with e | e <;> simp [e, h1]) h2
 | rc id off len cp b cap sz a h1 h2 h3 h4 =>
  rcases ho id hx with e | e
  ·exact .rc id off len cp b cap sz a (by rw [e, h1]) h2 h3 h4
  ·exact .rcd _ _ _ _ _ e rfl
 | rcn id cap sz a h1 =>
  rcases ho id hx with e | e
  ·exact .rcn id cap sz a (by rw [e, h1])
  ·exact .rcd _ _ _ _ _ e rfl
 | p x v r => exact .p x v (r.ren hx ho)
 | c fn caps cv h1 h2 => exact .c fn caps cv h1 fun j x hj => let ⟨v, hv, q⟩ := h2 j x hj; ⟨v, hv, q.ren (hx x (List.mem_of_getElem? hj)) ho⟩
theorem RelCl.ren : ∀ {cs : List SC} {vs : List Value}, RelCl h Im O cs vs → (∀ c ∈ cs, c.lo n) → (∀ u, u < n → O' u = O u ∨ O' u = .gone) → RelCl h Im O' cs vs
 | _, _, .nil, _, _ => .nil
 | _, _, .cons c v cs vs q rs, hx, ho => .cons c v cs vs (q.ren (hx c (by simp)) ho) (rs.ren (fun c' h => hx c' (by simp [h])) ho)
mutual
theorem RelV.ren : ∀ {x : SV} {v : Value}, RelV h Im O x v → SV.lo n x → (∀ u, u < n → O' u = O u ∨ O' u = .gone) → RelV h Im O' x v
 | _, _, .one c v r, hx, ho => .one c v (r.ren (by rw [SV.lo] at hx; exact hx) ho)
 | _, _, .agg cs cv r, hx, ho => .agg cs cv (r.ren (by rw [SV.lo] at hx; exact hx) ho)
 | _, _, .tup vs tv r, hx, ho => .tup vs tv (RelVs.ren r (by rw [SV.lo] at hx; exact hx) ho)
 | _, _, .dead v, _, _ => .dead v
 | _, _, .und, _, _ => .und
theorem RelVs.ren : ∀ {x : List SV} {v : List Value}, RelVs h Im O x v → SV.los n x → (∀ u, u < n → O' u = O u ∨ O' u = .gone) → RelVs h Im O' x v
 | _, _, .nil, _, _ => .nil
 | _, _, .cons x v xs vs r rs, hx, ho => .cons x v xs vs (RelV.ren r (by rw [SV.los] at hx; exact hx.1) ho) (RelVs.ren rs (by rw [SV.los] at hx; exact hx.2) ho)
end
end
theorem SimW.canon {σ : St} {w : World} {O O' : Nat → LS} {Im Im' : Nat → Prop} (s : SimW G X σ tm w O Im) (hf : ∀ u, σ.next ≤ u → O u = .free) {w' : World} (s' : SimW G X σ' tm w' O' Im') {id src sz : Nat} {R : List (List D)} (hid : id < σ.next) (hsl : σ'.slots = σ.slots) (hsrc : src = id ∨ src = σ.next)
 (h1 : σ'.objs src = some (.arr sz R false)) (h2 : ∀ u, u < σ.next → u ≠ id → σ'.objs u = σ.objs u) {len : Nat} {v : Value} (rv : RelC w'.heap Im' O' (.r src 0 len) v) :
 ∃ O'', SimW G X ((σ.setO id none).new (.arr sz R false)) tm w' O'' Im' ∧ (∀ u, σ.next + 1 ≤ u → O'' u = .free) ∧ RelC w'.heap Im' O'' (.r σ.next 0 len) v := by
 obtain ⟨ln, hln, hrn, hbn⟩ := s'.obj src _ h1
 let O'' : Nat → LS := fun u => if u < σ.next then (if u = id then .gone else O' u) else if u = σ.next then .live ln else .free
 have o1 : O'' id = .gone := by show (if id < σ.next then _ else _) = _; rw [if_pos hid, if_pos rfl]
 have o2 : O'' σ.next = .live ln := by show (if σ.next < σ.next then _ else _) = _; rw [if_neg (by omega), if_pos rfl]
 have o3 : ∀ u, u < σ.next → u ≠ id → O'' u = O' u := fun u hu he => by show (if u < σ.next then _ else _) = _; rw [if_pos hu, if_neg he]
 have o4 : ∀ u, σ.next + 1 ≤ u → O'' u = .free := fun u hu => by show (if u < σ.next then _ else _) = _; rw [if_neg (by omega), if_neg (by omega)]
 have ho : ∀ u, u < σ.next → O'' u = O' u ∨ O'' u = .gone := fun u hu => by
  by_cases e : u = id
  ·subst e; exact .inr o1
  ·exact .inl (o3 u hu e)
 have lt : ∀ u o, σ.objs u = some o → u < σ.next := fun u o hu => Nat.lt_of_not_le fun hl => by
  obtain ⟨l, hl', _⟩ := s.obj u o hu
  rw [hf u hl] at hl'; cases hl'
 have objs : ∀ u o, ((σ.setO id none).new (.arr sz R false)).objs u = some o → (u = σ.next ∧ o = .arr sz R false) ∨ (u < σ.next ∧ u ≠ id ∧ σ.objs u = some o ∧ σ'.objs u = some o) := by
  intro u o hu
  by_cases e : u = σ.next
  ·subst e
   have : some (VO.arr sz R false) = some o := by simpa [St.new, St.setO] using hu
   exact .inl ⟨rfl, (Option.some.inj this).symm⟩
  ·by_cases e2 : u = id
   ·subst e2; simp [St.new, St.setO, e] at hu
   ·have hu' : σ.objs u = some o := by simpa [St.new, St.setO, e, e2] using hu
    have := lt u o hu'
    exact .inr ⟨this, e2, hu', by rw [h2 u this e2]; exact hu'⟩
 have nsrc : ∀ u, u < σ.next → u ≠ id → u ≠ src := fun u hu he e => by rcases hsrc with h | h <;> omega
 refine ⟨O'', ⟨s'.ext, s'.ownlt, s'.imlt, s'.im0, s'.im1, ?_, ?_, ?_, ?_, s'.glob⟩, o4, ?_⟩
 ·intro u hu l hl
  by_cases e : u = σ.next
  ·subst e; simp [St.new, St.setO] at hu
  ·by_cases e2 : u = id
   ·subst e2; rw [o1] at hl; cases hl
   ·rcases Nat.lt_or_ge u σ.next with h | h
    ·rw [o3 u h e2] at hl
     refine s'.dead u ?_ l hl
     rw [h2 u h e2]
     simpa [St.new, St.setO, e, e2] using hu
    ·rw [o4 u (by omega)] at hl; cases hl
 ·intro u o hu
  rcases objs u o hu with ⟨rfl, rfl⟩ | ⟨g1, g2, g3, g4⟩
  ·refine ⟨ln, o2, ?_, hbn⟩
   cases hrn with
   | an => exact .an _ _ _
   | arr _ _ _ b cap c e fr k1 k2 k3 k4 k5 k6 k7 k8 => exact .arr sz R false b cap c e fr k1 k2 k3 k4 k5 k6 k7 k8
  ·obtain ⟨l, q1, q2, q3⟩ := s'.obj u o g4
   obtain ⟨l0, p1, p2, p3⟩ := s.obj u o g3
   refine ⟨l, by rw [o3 u g1 g2]; exact q1, ?_, q3⟩
   cases q2 with
   | bld T e l1 b sub k1 k2 k3 k4 => exact .bld T e l1 b sub k1 k2 k3 k4
   | an sz cap fz => exact .an _ _ _
   | arr sz rows fz b cap c e fr k1 k2 k3 k4 k5 k6 k7 k8 => exact .arr sz rows fz b cap c e fr k1 k2 k3 k4 k5 k6 k7 k8
   | box cells b c e k1 k2 k3 =>
    cases p2 with
    | box _ b0 c0 e0 m1 m2 m3 => exact .box cells b c e k1 (k2.ren (m2.lo hf) ho) k3
   | tn => exact .tn _ _
   | tre sz rows foc b cap c e sub k1 k2 k3 k4 k5 k6 k7 k8 k9 =>
    cases p2 with
    | tn => exact .tre sz [] none b cap c e sub k1 k2 k3 k4 k5 k6 k7 k8 trivial
    | tre _ _ _ b0 cap0 c0 e0 sub0 m1 m2 m3 m4 m5 m6 m7 m8 m9 =>
     refine .tre sz rows foc b cap c e sub k1 k2 k3 k4 k5 k6 k7 k8 ?_
     cases foc with
     | none => trivial
     | some kc => exact ⟨k9.1, k9.2.ren (m9.2.lo hf) ho⟩
 ·intro u u' o o' l l' b hne hu hu' hl hl' hb
  rcases objs u o hu with ⟨rfl, rfl⟩ | ⟨g1, g2, g3, g4⟩
  ·rw [o2] at hl; cases hl
   rcases objs u' o' hu' with ⟨rfl, _⟩ | ⟨k1, k2, k3, k4⟩
   ·exact absurd rfl hne
   ·rw [o3 u' k1 k2] at hl'
    exact s'.disj src u' _ o' _ l' b (fun e => nsrc u' k1 k2 e.symm) h1 k4 hln hl' hb
  ·rw [o3 u g1 g2] at hl
   rcases objs u' o' hu' with ⟨rfl, rfl⟩ | ⟨k1, k2, k3, k4⟩
   ·rw [o2] at hl'; cases hl'
    exact s'.disj u src o _ l _ b (nsrc u g1 g2) g4 h1 hl hln hb
   ·rw [o3 u' k1 k2] at hl'
    exact s'.disj u u' o o' l l' b hne g4 k4 hl hl' hb
 ·intro t
  have r := s'.slot t
  rw [hsl] at r
  exact r.ren ((s.slot t).lo hf) ho
 ·cases rv with
  | rd _ _ _ _ g1 _ => rw [g1] at hln; cases hln
  | rn _ cap sz' a g1 => rw [g1] at hln; cases hln; exact .rn _ cap _ a o2
  | r _ _ _ b cap sz' a c g1 g2 g3 g4 => rw [g1] at hln; cases hln; exact .r _ _ _ b cap _ a c o2 g2 g3 g4
def v1o (sz bytes : Nat) (z : List SC) (fo fr : Nat) : VFn := ⟨95, .room 0 (.seq (.reg [⟨(some 6), .mv (.c (.one (.nl sz))), none⟩]) (.seq (.reg [⟨(some 10), .mv (.t 0), none⟩, ⟨(some 11), .mv (.t 1), none⟩, ⟨(some 12), .sl sz (.t 10) (some (.t 11)) none, none⟩]) (.seq (.reg [⟨(some 13), .mv (.t 2), none⟩, ⟨(some 14), .len (.t 13), none⟩, ⟨(some 7), .mv (.t 14), none⟩]) (.seq (.seq (.reg [⟨(some 15), .mv (.t 7), none⟩, ⟨(some 16), .bin .i .eql (.t 15) (.c (.one (.d (.i .i64 0)))), none⟩]) (.cond (.t 16) (.seq (.reg [⟨(some 17), .mv (.t 0), none⟩, ⟨(some 6), .mv (.t 17), none⟩]) .ret) .skip)) (.seq (.reg [⟨(some 18), .mv (.t 0), none⟩, ⟨(some 19), .len (.t 18), none⟩, ⟨(some 8), .mv (.t 19), none⟩]) (.seq (.seq (.reg [⟨(some 20), .mv (.t 1), none⟩, ⟨(some 21), .mv (.t 8), none⟩, ⟨(some 22), .bin .i .eql (.t 20) (.t 21), none⟩]) (.cond (.t 22) (.seq (.reg [⟨(some 23), .mv (.t 0), none⟩, ⟨(some 24), .mv (.t 2), none⟩, ⟨(some 25), .app sz bytes (.t 23) (.t 24), none⟩, ⟨(some 6), .mv (.t 25), none⟩]) .ret) .skip)) (.seq (.seq (.reg [⟨(some 26), .mv (.t 8), none⟩, ⟨(some 27), .mv (.t 7), none⟩, ⟨(some 28), .bin .i .add (.t 26) (.t 27), none⟩, ⟨(some 29), .mv (.t 0), none⟩, ⟨(some 30), .cap (.t 29), none⟩, ⟨(some 31), .bin .i .gtr (.t 28) (.t 30), none⟩]) (.cond (.t 31) (.seq (.reg [⟨(some 32), .mv (.t 0), none⟩, ⟨(some 33), .mv (.t 1), none⟩, ⟨(some 34), .sl sz (.t 32) none (some (.t 33)), none⟩, ⟨(some 35), .mv (.t 8), none⟩, ⟨(some 36), .mv (.t 7), none⟩, ⟨(some 37), .bin .i .add (.t 35) (.t 36), none⟩, ⟨(some 38), .mv (.t 1), none⟩, ⟨(some 39), .bin .i .sub (.t 37) (.t 38), none⟩, ⟨(some 40), .appz sz bytes z (.t 34) (.t 39), none⟩, ⟨(some 9), .mv (.t 40), none⟩]) (.seq (.reg [⟨(some 41), .mv (.t 9), none⟩, ⟨(some 42), .mv (.t 1), none⟩, ⟨(some 43), .sl sz (.t 41) (some (.t 42)) none, none⟩, ⟨(some 44), .mv (.t 2), none⟩, ⟨(some 45), .cpy sz (.t 43) (.t 44), none⟩]) (.seq (.draw [⟨⟨(some 46), .mv (.t 9), none⟩, 0, [], none, []⟩, ⟨⟨(some 47), .mv (.t 1), none⟩, 0, [], none, []⟩, ⟨⟨(some 48), .mv (.t 7), none⟩, 0, [], none, []⟩, ⟨⟨(some 49), .bin .i .add (.t 47) (.t 48), none⟩, 6, [], none, []⟩, ⟨⟨(some 50), .sl sz (.t 46) (some (.t 49)) none, none⟩, 15, [], none, []⟩, ⟨⟨(some 51), .mv (.t 0), none⟩, 0, [], none, []⟩, ⟨⟨(some 52), .mv (.t 1), none⟩, 0, [], none, []⟩, ⟨⟨(some 53), .sl sz (.t 51) (some (.t 52)) none, none⟩, 96, [], none, []⟩, ⟨⟨(some 54), .cpy sz (.t 50) (.t 53), none⟩, 255, [], none, []⟩]) (.seq (.reg [⟨(some 55), .mv (.t 9), none⟩, ⟨(some 6), .mv (.t 55), none⟩]) .ret)))) .skip)) (.seq (.reg [⟨(some 56), .mv (.t 0), none⟩, ⟨(some 57), .mv (.t 8), none⟩, ⟨(some 58), .mv (.t 7), none⟩, ⟨(some 59), .bin .i .add (.t 57) (.t 58), none⟩, ⟨(some 60), .sl sz (.t 56) none (some (.t 59)), none⟩, ⟨(some 0), .mv (.t 60), none⟩]) (.seq (.seq (.reg [⟨(some 61), .mv (.t 2), none⟩, ⟨(some 62), .mv (.t 0), none⟩, ⟨(some 63), .mv (.t 1), none⟩, ⟨(some 64), .mv (.t 7), none⟩, ⟨(some 65), .bin .i .add (.t 63) (.t 64), none⟩, ⟨(some 66), .sl sz (.t 62) (some (.t 65)) none, none⟩, ⟨(some 67), .call fo [(.t 61), (.t 66)], none⟩, ⟨(some 68), .un .not (.t 67), none⟩]) (.cond (.t 68) (.seq (.draw [⟨⟨(some 69), .mv (.t 0), none⟩, 0, [], none, []⟩, ⟨⟨(some 70), .mv (.t 1), none⟩, 0, [], none, []⟩, ⟨⟨(some 71), .mv (.t 7), none⟩, 0, [], none, []⟩, ⟨⟨(some 72), .bin .i .add (.t 70) (.t 71), none⟩, 6, [], none, []⟩, ⟨⟨(some 73), .sl sz (.t 69) (some (.t 72)) none, none⟩, 15, [], none, []⟩, ⟨⟨(some 74), .mv (.t 0), none⟩, 0, [], none, []⟩, ⟨⟨(some 75), .mv (.t 1), none⟩, 0, [], none, []⟩, ⟨⟨(some 76), .sl sz (.t 74) (some (.t 75)) none, none⟩, 96, [], none, []⟩, ⟨⟨(some 77), .cpy sz (.t 73) (.t 76), none⟩, 255, [], none, []⟩]) (.seq (.reg [⟨(some 78), .mv (.t 0), none⟩, ⟨(some 79), .mv (.t 1), none⟩, ⟨(some 80), .sl sz (.t 78) (some (.t 79)) none, none⟩, ⟨(some 81), .mv (.t 2), none⟩, ⟨(some 82), .cpy sz (.t 80) (.t 81), none⟩]) (.seq (.reg [⟨(some 83), .mv (.t 0), none⟩, ⟨(some 6), .mv (.t 83), none⟩]) .ret))) .skip)) (.seq (.reg [⟨(some 84), .mv (.t 0), none⟩, ⟨(some 85), .mv (.t 8), none⟩, ⟨(some 86), .sl sz (.t 84) (some (.t 85)) none, none⟩, ⟨(some 87), .mv (.t 2), none⟩, ⟨(some 88), .cpy sz (.t 86) (.t 87), none⟩]) (.seq (.reg [⟨(some 89), .mv (.t 0), none⟩, ⟨(some 90), .mv (.t 1), none⟩, ⟨(some 91), .sl sz (.t 89) (some (.t 90)) none, none⟩, ⟨(some 92), .mv (.t 7), none⟩, ⟨(some 93), .call fr [(.t 91), (.t 92)], none⟩]) (.seq (.reg [⟨(some 94), .mv (.t 0), none⟩, ⟨(some 6), .mv (.t 94), none⟩]) .ret)))))))))))), [.t 6]⟩
theorem ins_l1 {α : Type} (l : List α) (v d : α) {i : Nat} (h : i ≤ l.length) : (l.take i ++ (v :: List.replicate (l.length - i) d)).take (i + 1) ++ ((l.drop i).take (l.length - i) ++ (l.take i ++ (v :: List.replicate (l.length - i) d)).drop (i + 1 + (l.length - i))) = l.take i ++ (v :: l.drop i) := by
 have e0 : (l.take i ++ [v]).length = i + 1 := by simp; omega
 have e1 : (l.take i ++ (v :: List.replicate (l.length - i) d)).take (i + 1) = l.take i ++ [v] := by
  rw [show l.take i ++ (v :: List.replicate (l.length - i) d) = (l.take i ++ [v]) ++ List.replicate (l.length - i) d from by simp]
  exact List.take_left' e0
 have e2 : (l.take i ++ (v :: List.replicate (l.length - i) d)).drop (i + 1 + (l.length - i)) = [] := List.drop_eq_nil_of_le (by simp; omega)
 have e3 : (l.drop i).take (l.length - i) = l.drop i := List.take_of_length_le (by simp)
 rw [e1, e2, e3]; simp
theorem ins_l2 {α : Type} (l : List α) {i : Nat} (h : i < l.length) : l.take (i + 1) ++ ((l.drop i).take (l.length - i) ++ l.drop (i + 1 + (l.length - i))) = l.take (i + 1) ++ l.drop i := by
 have e2 : l.drop (i + 1 + (l.length - i)) = [] := List.drop_eq_nil_of_le (by omega)
 have e3 : (l.drop i).take (l.length - i) = l.drop i := List.take_of_length_le (by simp)
 rw [e2, e3]; simp
theorem ins_l3 {α : Type} (l : List α) (v : α) {i : Nat} (h : i < l.length) : (l.take (i + 1) ++ l.drop i).take i ++ (([v].drop 0).take 1 ++ (l.take (i + 1) ++ l.drop i).drop (i + 1)) = l.take i ++ (v :: l.drop i) := by
 have e0 : (l.take (i + 1)).length = i + 1 := by simp; omega
 have e1 : (l.take (i + 1) ++ l.drop i).drop (i + 1) = l.drop i := List.drop_left' e0
 have e2 : (l.take (i + 1) ++ l.drop i).take i = l.take i := by
  rw [List.take_append_of_le_length (by omega), List.take_take, Nat.min_eq_left (by omega)]
 rw [e1, e2]; simp
theorem z3s {σ : St} {sz id id' off off' len len' k : Nat} {rows rows' R : List (List D)} {fz : Bool} (h : σ.obj id = some (.arr sz rows false)) (h' : σ.obj id' = some (.arr sz rows' fz)) (hk : min len' len = k) (h1 : off ≤ rows.length) (h2 : off' + k ≤ rows'.length)
 (hR : rows.take off ++ ((rows'.drop off').take k ++ rows.drop (off + k)) = R) : σ.cpy sz (.one (.r id' off' len')) (.one (.r id off len)) = some (σ.setO id (some (.arr sz R false)), k) := by
 have hk' : k ≤ len' := by omega
 simp only [St.cpy, St.srcOf, lenS, h, h', hk]
 rw [if_pos ⟨trivial, h1⟩, if_pos ⟨trivial, hk', h2⟩]
 simp only [Option.map_some, hR]
theorem u4z (t : Nat) (c : VCode) (Q : Ex → St → Prop) : wpv P G (.room t c) Q σ = ∃ id off len sz rows fz, σ.get t = .one (.r id off len) ∧ σ.obj id = some (.arr sz rows fz) ∧ ∀ cp, len ≤ cp → cp ≤ maxLen → wpv P G c Q (σ.put t (.one (.rc id off len cp))) := (rfl)
def insEnd (σ : St) (id sz : Nat) (R : List (List D)) : St → SV → Prop := fun σ' sv => σ'.slots = σ.slots ∧ ∃ src, (src = id ∨ src = σ.next) ∧ σ'.obj src = some (.arr sz R false) ∧ (∀ u, u < σ.next → u ≠ id → σ'.obj u = σ.obj u) ∧ sv.ur = .one (.r src 0 R.length)
theorem w1s {τ : St} (h : ∀ t, τ.get (t + 1000000) = σ.get t) : τ.lift.slots = σ.slots := funext fun t => h t
theorem get_up (σ : St) (svs : List SV) (t : Nat) : (if t + 1000000 < 1000000 then svs.getD (t + 1000000) .dead else σ.get (t + 1000000 - 1000000)) = σ.get t := by
 rw [if_neg (by omega), Nat.add_sub_cancel]
set_option maxRecDepth 100000 in
set_option maxHeartbeats 4000000 in
theorem x4b {f sz bytes fo fr id idv i : Nat} {z : List SC} {ds v : List D} {rows : List (List D)} (hl : lowF P f = some (v1o sz bytes z fo fr).strip) (hov : OvlOk P fo)
 (hz : ∀ σ : St, σ.toDs z = some ds) (hds : ds.length = sz) (hs : sz ≠ 0) (hne : id ≠ idv) (hlt1 : id < σ.next) (hlt2 : idv < σ.next) (h1 : σ.obj id = some (.arr sz rows false)) (h2 : σ.obj idv = some (.arr sz [v] false)) (hi : i ≤ rows.length) (hf : fits bytes (rows.length + 1)) :
 CallL P G f [.one (.r id 0 rows.length), .one (.d (.i .i64 (i : Int))), .one (.r idv 0 1)] σ (insEnd σ id sz (rows.take i ++ (v :: rows.drop i))) := by
 have hn1 : id ≠ σ.next := by omega
 have hn2 : idv ≠ σ.next := by omega
 have hm : rows.length + 1 ≤ maxLen := hf.2
 have hmx : rows.length + 1 ≤ 9223372036854775807 := hm
 have hw1 : IntKind.i64.wrap ((rows.length : Int) + 1) = ((rows.length + 1 : Nat) : Int) := by rw [IntKind.wrap_i64]; omega
 have hw2 : IntKind.i64.wrap ((i : Int) + 1) = ((i + 1 : Nat) : Int) := by rw [IntKind.wrap_i64]; omega
 refine CallL.x hl (by simp [v1o]) (by simp [v1o]) ?_
 simp only [v1o, u4z]
 refine ⟨id, 0, rows.length, sz, rows, false, ?_, h1, fun cp hc1 hc2 => ?_⟩
 ·simp only [go_sem, Nat.reduceLT, ↓reduceIte]
 simp only [go_sem, h1, h2, hi, hc1, Nat.reduceLT, Nat.reduceEqDiff, ↓reduceIte, Int.reduceLE, Int.reduceEq, Nat.reduceAdd, Nat.reduceSub, Nat.reduceLeDiff, reduceCtorEq, Int.reduceBEq, true_and]
 intro _ _
 by_cases hin : i = rows.length
 ·subst hin
  simp only [go_sem, h1, h2, hi, hc1, hf, Nat.reduceLT, Nat.reduceEqDiff, ↓reduceIte, Int.reduceLE, Int.reduceEq, Nat.reduceAdd, Nat.reduceSub, Nat.reduceLeDiff, reduceCtorEq, Int.reduceBEq, true_and, beq_self_eq_true]
  refine ⟨?_, σ.next, .inr rfl, ?_, ?_, ?_⟩
  ·exact w1s fun t => by simp only [go_sem, Nat.reduceEqDiff, ↓reduceIte]; rw [if_neg (by omega), Nat.add_sub_cancel]
  ·simp only [go_sem, ↓reduceIte, List.drop_length]
  ·intro u hu hne2
   have : u ≠ σ.next := by omega
   simp only [go_sem, hne2, this, ↓reduceIte]
  ·simp [SV.ur, SC.ur]
 ·have hin' : ((i : Int) == (rows.length : Int)) = false := by simp; omega
  simp only [go_sem, h1, h2, hi, hc1, hf, hin', hw1, Nat.reduceLT, Nat.reduceEqDiff, ↓reduceIte, Int.reduceLE, Int.reduceEq, Nat.reduceAdd, Nat.reduceSub, Nat.reduceLeDiff, reduceCtorEq, Int.reduceBEq, true_and]
  by_cases hgr : cp < rows.length + 1
  ·have hg : decide (cp < rows.length + 1) = true := decide_eq_true hgr
   have hw3 : IntKind.i64.wrap (((rows.length + 1 : Nat) : Int) - (i : Int)) = ((rows.length + 1 - i : Nat) : Int) := by rw [IntKind.wrap_i64]; omega
   have hic : i ≤ cp := by omega
   have hpos : (0 : Int) < ((rows.length + 1 - i : Nat) : Int) := by omega
   have hcg : cp < rows.length + 1 := hgr
   have hsum : i + (rows.length + 1 - i) = rows.length + 1 := by omega
   have hmin : min i rows.length = i := by omega
   have hin2 : i ≤ rows.length + 1 := by omega
   have hmin2 : min 1 (rows.length + 1 - i) = 1 := by omega
   simp only [go_sem, h1, h2, hi, hc1, hf, hin', hw1, hg, hw3, hz, hds, hic, hpos, hcg, hsum, hmin, hin2, hmin2, List.length_replicate, Nat.reduceLT, Nat.reduceEqDiff, ↓reduceIte, Int.reduceLE, Int.reduceEq, Nat.reduceAdd, Nat.reduceSub, Nat.reduceLeDiff, reduceCtorEq, Int.reduceBEq, true_and]
   refine ⟨_, z3s (rows := rows.take i ++ List.replicate (rows.length + 1 - i) ds) (rows' := [v]) (k := 1) (fz := false) (R := rows.take i ++ (v :: List.replicate (rows.length - i) ds)) (by simp only [go_sem, Nat.reduceEqDiff, ↓reduceIte]) (by simp only [go_sem, hn2, h2, ↓reduceIte]) (by omega) (by simp; omega) (by simp) ?_, ?_⟩
   ·rw [show rows.length + 1 - i = (rows.length - i) + 1 from by omega, List.replicate_succ]
    simp [List.take_append, List.drop_append, hmin]
   simp only [go_sem, h1, h2, hi, hc1, hf, hin', hw1, hw2, hn1, hn2, hsum, hmin, hin2, Nat.reduceLT, Nat.reduceEqDiff, ↓reduceIte, Int.reduceLE, Int.reduceEq, Nat.reduceAdd, Nat.reduceSub, Nat.reduceLeDiff, reduceCtorEq, Int.reduceBEq, true_and]
   refine ⟨_, z3s (rows := rows.take i ++ (v :: List.replicate (rows.length - i) ds)) (rows' := rows) (k := rows.length - i) (fz := false) (R := rows.take i ++ (v :: rows.drop i)) (by simp only [go_sem, Nat.reduceEqDiff, ↓reduceIte]) (by simp only [go_sem, hn1, hn2, h1, ↓reduceIte]) (by omega) (by simp; omega) (by omega) ?_, ?_⟩
   ·exact ins_l1 rows v ds hi
   refine ⟨?_, σ.next, .inr rfl, ?_, ?_, ?_⟩
   ·exact w1s fun t => by simp only [go_sem, Nat.reduceEqDiff, ↓reduceIte]; rw [if_neg (by omega), Nat.add_sub_cancel]
   ·simp only [go_sem, ↓reduceIte]
   ·intro u hu hne2
    have : u ≠ σ.next := by omega
    simp only [go_sem, hne2, this, ↓reduceIte]
   ·simp only [go_sem, hmin, hsum, Nat.reduceEqDiff, Nat.reduceAdd, Nat.reduceSub, Nat.reduceLT, Nat.reduceLeDiff, ↓reduceIte]
    simp [SV.ur, SC.ur]; omega
  ·have hg : decide (cp < rows.length + 1) = false := decide_eq_false hgr
   have hge : rows.length + 1 ≤ cp := by omega
   have hw3 : IntKind.i64.wrap ((i : Int) + 1) = ((i + 1 : Nat) : Int) := hw2
   have hi1 : i + 1 ≤ rows.length + 1 := by omega
   have hi2 : i + 1 ≤ rows.length := by omega
   simp only [go_sem, h1, h2, hi, hc1, hf, hin', hw1, hw2, hg, hge, hi1, hi2, Nat.reduceLT, Nat.reduceEqDiff, ↓reduceIte, Int.reduceLE, Int.reduceEq, Nat.reduceAdd, Nat.reduceSub, Nat.reduceLeDiff, reduceCtorEq, Int.reduceBEq, true_and]
   refine x5g hov (Ne.symm hne) (sz := sz) (sz' := sz) (rows := [v]) (rows' := rows) (by simp only [go_sem, h2, ↓reduceIte]) (by simp only [go_sem, h1, ↓reduceIte]) hs (by omega) (by omega) ?_
   have hi3 : i ≤ rows.length + 1 := by omega
   simp only [go_sem, h1, h2, hi, hc1, hf, hin', hw1, hw2, hg, hge, hi1, hi2, hi3, Nat.reduceLT, Nat.reduceEqDiff, ↓reduceIte, Int.reduceLE, Int.reduceEq, Nat.reduceAdd, Nat.reduceSub, Nat.reduceLeDiff, reduceCtorEq, Int.reduceBEq, true_and]
   have hmin : min (rows.length - i) (rows.length + 1 - (i + 1)) = rows.length - i := by omega
   have hmin2 : min 1 (rows.length + 1 - i) = 1 := by omega
   refine ⟨_, z3s (rows := rows) (rows' := rows) (k := rows.length - i) (fz := false) (R := rows.take (i + 1) ++ rows.drop i) (by simp only [go_sem, h1, ↓reduceIte]) (by simp only [go_sem, h1, ↓reduceIte]) (by omega) (by omega) (by omega) ?_, ?_⟩
   ·exact ins_l2 rows (by omega)
   simp only [go_sem, h1, h2, hi, hc1, hf, hin', hw1, hw2, hg, hge, hi1, hi2, hi3, Nat.reduceLT, Nat.reduceEqDiff, ↓reduceIte, Int.reduceLE, Int.reduceEq, Nat.reduceAdd, Nat.reduceSub, Nat.reduceLeDiff, reduceCtorEq, Int.reduceBEq, true_and]
   refine ⟨_, z3s (rows := rows.take (i + 1) ++ rows.drop i) (rows' := [v]) (k := 1) (fz := false) (R := rows.take i ++ (v :: rows.drop i)) (by simp only [go_sem, ↓reduceIte]) (by simp only [go_sem, h2, Ne.symm hne, ↓reduceIte]) (by omega) (by simp; omega) (by simp) ?_, ?_⟩
   ·exact ins_l3 rows v (by omega)
   refine ⟨?_, id, .inl rfl, ?_, ?_, ?_⟩
   ·exact w1s fun t => by simp only [go_sem, Nat.reduceEqDiff, ↓reduceIte]; rw [if_neg (by omega), Nat.add_sub_cancel]
   ·simp only [go_sem, ↓reduceIte]
   ·intro u hu hne2
    simp only [go_sem, hne2, ↓reduceIte]
   ·simp only [go_sem, Nat.reduceEqDiff, Nat.reduceAdd, Nat.reduceSub, Nat.reduceLT, Nat.reduceLeDiff, ↓reduceIte]
    simp [SV.ur, SC.ur]; omega
theorem y4b {f sz bytes fo fr id idv i : Nat} {z : List SC} {ds v : List D} {rows : List (List D)} {K : St → SV → Prop} (hl : lowF P f = some (v1o sz bytes z fo fr).strip) (hk : fOk P f = true) (hov : OvlOk P fo)
 (hz : ∀ σ : St, σ.toDs z = some ds) (hds : ds.length = sz) (hs : sz ≠ 0) (hne : id ≠ idv) (h1 : σ.obj id = some (.arr sz rows false)) (h2 : σ.obj idv = some (.arr sz [v] false)) (hi : i ≤ rows.length) (hf : fits bytes (rows.length + 1))
 (hK : K ((σ.setO id none).new (.arr sz (rows.take i ++ (v :: rows.drop i)) false)) (.one (.r σ.next 0 (rows.length + 1)))) :
 CallV P G f [.one (.r id 0 rows.length), .one (.d (.i .i64 (i : Int))), .one (.r idv 0 1)] σ K := by
 refine .inl ⟨hk, fun X tm w O Im vals s hfr hr => ?_⟩
 have lt : ∀ u o, σ.objs u = some o → u < σ.next := fun u o hu => Nat.lt_of_not_le fun hl => by
  obtain ⟨l, hl', _⟩ := s.obj u o hu
  rw [hfr u hl] at hl'; cases hl'
 have hb := x4b (G := G) hl hov hz hds hs hne (lt _ _ h1) (lt _ _ h2) h1 h2 hi hf
 refine (hb X tm w O Im vals s hfr hr).mono ?_
 rintro e w' ⟨v', σ', sv, O', Im', rfl, ⟨g1, src, g2, g3, g4, g5⟩, s', hfr', hv⟩
 have hv2 := hv.ur
 rw [g5] at hv2
 have hlen : (rows.take i ++ (v :: rows.drop i)).length = rows.length + 1 := by simp; omega
 rw [hlen] at hv2
 obtain ⟨O'', s'', f'', r''⟩ := s.canon hfr s' (lt _ _ h1) g1 g2 g3 g4 hv2.one_inv
 exact ⟨v', _, _, O'', Im', rfl, hK, s'', f'', .one _ _ r''⟩
def x1e {α : Type} (b : Nat) (l : List α) (e : Int) (x : α) : Option (List α) := if 0 ≤ e ∧ e ≤ l.length ∧ fits b (l.length + 1) then some (l.take e.toNat ++ x :: l.drop e.toNat) else none
def InsOk (P : Program) (f sz bytes : Nat) : Prop := ∃ z ds fo fr, lowF P f = some (v1o sz bytes z fo fr).strip ∧ fOk P f = true ∧ OvlOk P fo ∧ (∀ σ : St, σ.toDs z = some ds) ∧ ds.length = sz ∧ sz ≠ 0
theorem z2c {f sz bytes id idv : Nat} {α : Type} {enc : α → List D} {l v : List α} {e : Int} {x : α} {K : St → SV → Prop} (h : InsOk P f sz bytes) (hv : x1e bytes l e x = some v) (hne : id ≠ idv)
 (h1 : σ.obj id = some (.arr sz (l.map enc) false)) (h2 : σ.obj idv = some (.arr sz [enc x] false)) (hK : K ((σ.setO id none).new (.arr sz (v.map enc) false)) (.one (.r σ.next 0 v.length))) :
 CallV P G f [.one (.r id 0 l.length), .one (.d (.i .i64 e)), .one (.r idv 0 1)] σ K := by
 obtain ⟨z, ds, fo, fr, hl, hk, hov, hz, hds, hs⟩ := h
 unfold x1e at hv
 split at hv
 ·rename_i hc
  obtain rfl := Option.some.inj hv
  have he : e = (e.toNat : Int) := (Int.toNat_of_nonneg hc.1).symm
  generalize e.toNat = i at *
  subst he
  have hi : i ≤ l.length := by omega
  have := y4b (G := G) (K := K) hl hk hov hz hds hs hne h1 h2 (by simpa using hi) (by simpa using hc.2.2) (by
   have e1 : (l.take i ++ x :: l.drop i).map enc = (l.map enc).take i ++ enc x :: (l.map enc).drop i := by simp
   have e2 : (l.take i ++ x :: l.drop i).length = (l.map enc).length + 1 := by simp; omega
   rw [← e1, ← e2]; exact hK)
  rwa [List.length_map] at this
 ·cases hv
end
end Go.V
