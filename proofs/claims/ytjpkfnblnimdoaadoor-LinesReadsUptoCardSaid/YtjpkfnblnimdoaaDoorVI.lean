/- slices.Insert of one element: what is shown holds of the machine; conditions as stated. -/
import Derived.Test.YtjpkfnblnimdoaaDoorVC
import Derived.Lib.Overlaps
set_option linter.unusedVariables false
set_option linter.unusedSimpArgs false
namespace Go.V
open Go
section
variable {P : Program} {G : Nat → Option (List D)} {X : Ctx} {σ σ' : St} {tm : Array Value} {w w' : World} {O : Nat → LS} {Im Im' : Nat → Prop}
/-- The model's own entry for slices.overlaps. -/
def OvlOk (P : Program) (f : Nat) : Prop := ∃ fn tS tR e, P.funcs[f]? = some fn ∧ (fn.name == "runtime.NumGoroutine") = false ∧ fn.body.isNone = true ∧ Extern.findNext fn = none ∧ Extern.find fn = some (Extern.SlicesOverlaps.overlaps #[tS, tS] #[tR]) ∧
  P.underlying tS = some (.slice e) ∧ (P.info? e).isSome = true ∧ (P.cellsOf e != 0) = true
theorem ovl_call {f id id' off off' len len' cp sz sz' : Nat} {rows rows' : List (List D)} {K : St → SV → Prop} (ho : OvlOk P f) (hne : id ≠ id') (h1 : σ.obj id = some (.arr sz rows false)) (h2 : σ.obj id' = some (.arr sz' rows' false)) (hs : sz' ≠ 0)
    (hl : 0 < len) (hl' : 0 < len') (hK : K σ (.one (.d (.b false)))) : CallV P G f [.one (.r id off len), .one (.rc id' off' len' cp)] σ K := by
  refine .inr fun X tm w O Im vals s hf hr => ?_
  obtain ⟨fn, tS, tR, e, q1, q2, q3, q4, q5, q6, q7, q8⟩ := ho
  obtain ⟨i, q7⟩ := Option.isSome_iff_exists.1 q7
  cases hr with
  | cons _ v _ vs r1 hr =>
    cases hr with
    | cons _ v' _ vs' r2 hr =>
      cases hr
      obtain ⟨l, g1, g2, g3⟩ := s.obj id _ h1
      obtain ⟨l', k1, k2, k3⟩ := s.obj id' _ h2
      cases r1.one_inv with
      | rd _ _ _ _ e1 _ => rw [e1] at g1; cases g1
      | rn => omega
      | r _ _ _ b cap s0 ad c e1 e2 e3 e4 =>
        rw [e1] at g1; cases g1
        cases r2.one_inv with
        | rcd _ _ _ _ _ e5 _ => rw [e5] at k1; cases k1
        | rcn => omega
        | rc _ _ _ _ b' cap' s0' ad' e5 e6 e7 e8 =>
          rw [e5] at k1; cases k1
          obtain rfl := e4.resolve_right (by omega)
          obtain rfl := e8.resolve_right (by omega)
          cases g2 with
          | arr _ _ _ _ _ cur ty fr m1 m2 m3 m4 m5 m6 m7 m8 =>
            obtain rfl := m2 rfl
            cases k2 with
            | arr _ _ _ _ _ cur' ty' fr' n1 n2 n3 n4 n5 n6 n7 n8 =>
              obtain rfl := n2 rfl
              have hb : b ≠ b' := fun h => s.disj id id' _ _ _ _ b hne h1 h2 e1 e5 (.inl rfl) (by rw [h]; exact .inl rfl)
              have hsz : ∀ w, (Go.sizeOf e).run P w = .ok i.size w := fun w => by simp [sizeOf, typeInfo, q7]
              have hcap : 0 < cap' := by omega
              have hcs : cur'.size ≠ 0 := by rw [n6]; have := Nat.mul_pos hcap (Nat.pos_of_ne_zero hs); omega
              have hrun : (callFunc f [Value.slice (some ⟨b, off * sz, none⟩) len c, Value.slice (some ⟨b', off' * sz', none⟩) len' cp].toArray).run P w = .ok (.value (.bool false)) w := by
                rw [run_callFunc_extern q1 q2 q3 q4 q5,
                  Lib.run_overlaps_apart w tS tR e q6 i.size hsz ⟨b, off * sz, none⟩ ⟨b', off' * sz', none⟩ len c len' cp hb ty ty' cur.size cur'.size (by simp [World.shape?, m1]) (by simp [World.shape?, n1]) hcs (by simp [World.frozen?, m1]) (by simp [World.frozen?, m1])]
                rfl
              exact ⟨_, w, σ, _, O, Im, hrun, hK, s, hf, .one _ _ (.d _ _ (.b _))⟩
/-- The names that are spoken of. -/
def Ptr.lo (n : Nat) : Ptr → Prop
  | .q id _ _ => id < n
  | .l .. => True
def SC.lo (n : Nat) : SC → Prop
  | .r id _ _ => id < n
  | .rc id _ _ _ => id < n
  | .p x => x.lo n
  | .c _ caps => ∀ x ∈ caps, x.lo n
  | .d _ => True
  | .nl _ => True
  | .dead => True
mutual
def SV.lo (n : Nat) : SV → Prop
  | .one c => c.lo n
  | .agg cs => ∀ c ∈ cs, c.lo n
  | .tup vs => SV.los n vs
  | .dead => True
  | .und => True
def SV.los (n : Nat) : List SV → Prop
  | [] => True
  | v :: vs => SV.lo n v ∧ SV.los n vs
end
section
variable {h h' : Array Obj} {O' O'' : Nat → LS} {n : Nat}
theorem RelP.lo {x : Ptr} {v : Value} (r : RelP h Im O x v) (hf : ∀ u, n ≤ u → O u = .free) : x.lo n := by
  cases r with
  | qd id i j v h1 _ => exact Nat.lt_of_not_le fun hl => by rw [hf id hl] at h1; cases h1
  | q id i j b cap sz h1 => exact Nat.lt_of_not_le fun hl => by rw [hf id hl] at h1; cases h1
  | l => exact trivial
theorem RelC.lo {x : SC} {v : Value} (r : RelC h Im O x v) (hf : ∀ u, n ≤ u → O u = .free) : x.lo n := by
  cases r with
  | d | nl | dead => exact trivial
  | rd id _ _ _ h1 | r id _ _ _ _ _ _ _ h1 | rn id _ _ _ h1 | rcd id _ _ _ _ h1 | rc id _ _ _ _ _ _ _ h1 | rcn id _ _ _ h1 => exact Nat.lt_of_not_le fun hl => by rw [hf id hl] at h1; cases h1
  | p x v r => exact r.lo hf
  | c fn caps cv h1 h2 =>
    intro x hx
    obtain ⟨j, hj, rfl⟩ := List.mem_iff_getElem.1 hx
    obtain ⟨v, _, r⟩ := h2 j _ (List.getElem?_eq_getElem hj)
    exact r.lo hf
theorem RelCl.lo : ∀ {cs : List SC} {vs : List Value}, RelCl h Im O cs vs → (∀ u, n ≤ u → O u = .free) → ∀ c ∈ cs, c.lo n
  | _, _, .nil, _, c, hc => by cases hc
  | _, _, .cons c v cs vs r rs, hf, c', hc => by
    rcases List.mem_cons.1 hc with rfl | hc
    · exact r.lo hf
    · exact rs.lo hf c' hc
mutual
theorem RelV.lo : ∀ {x : SV} {v : Value}, RelV h Im O x v → (∀ u, n ≤ u → O u = .free) → SV.lo n x
  | _, _, .one c v r, hf => by rw [SV.lo]; exact r.lo hf
  | _, _, .agg cs cv r, hf => by rw [SV.lo]; exact r.lo hf
  | _, _, .tup vs tv r, hf => by rw [SV.lo]; exact RelVs.lo r hf
  | _, _, .dead v, _ => by rw [SV.lo]; exact trivial
  | _, _, .und, _ => by rw [SV.lo]; exact trivial
theorem RelVs.lo : ∀ {x : List SV} {v : List Value}, RelVs h Im O x v → (∀ u, n ≤ u → O u = .free) → SV.los n x
  | _, _, .nil, _ => by rw [SV.los]; exact trivial
  | _, _, .cons x v xs vs r rs, hf => by rw [SV.los]; exact ⟨RelV.lo r hf, RelVs.lo rs hf⟩
end
/-- What is not spoken of may be named at will. -/
theorem RelP.ren {x : Ptr} {v : Value} (r : RelP h Im O x v) (hx : x.lo n) (ho : ∀ u, u < n → O' u = O u ∨ O' u = .gone) : RelP h Im O' x v := by
  cases r with
  | qd id i j v h1 h2 => exact .qd id i j v (by rcases ho id hx with e | e <;> simp [e, h1]) h2
  | q id i j b cap sz h1 =>
    rcases ho id hx with e | e
    · exact .q id i j b cap sz (by rw [e, h1])
    · exact .qd _ _ _ _ e rfl
  | l sz rows i j b off c e fr h1 h2 h3 h4 => exact .l sz rows i j b off c e fr h1 h2 h3 h4
theorem RelC.ren {x : SC} {v : Value} (r : RelC h Im O x v) (hx : x.lo n) (ho : ∀ u, u < n → O' u = O u ∨ O' u = .gone) : RelC h Im O' x v := by
  cases r with
  | d d v r => exact .d d v r
  | nl sz a => exact .nl sz a
  | dead v h => exact .dead v h
  | rd id off len v h1 h2 => exact .rd id off len v (by rcases ho id hx with e | e <;> simp [e, h1]) h2
  | r id off len b cap sz a c h1 h2 h3 h4 =>
    rcases ho id hx with e | e
    · exact .r id off len b cap sz a c (by rw [e, h1]) h2 h3 h4
    · exact .rd _ _ _ _ e rfl
  | rn id cap sz a h1 =>
    rcases ho id hx with e | e
    · exact .rn id cap sz a (by rw [e, h1])
    · exact .rd _ _ _ _ e rfl
  | rcd id off len cp v h1 h2 => exact .rcd id off len cp v (by rcases ho id hx with e | e <;> simp [e, h1]) h2
  | rc id off len cp b cap sz a h1 h2 h3 h4 =>
    rcases ho id hx with e | e
    · exact .rc id off len cp b cap sz a (by rw [e, h1]) h2 h3 h4
    · exact .rcd _ _ _ _ _ e rfl
  | rcn id cap sz a h1 =>
    rcases ho id hx with e | e
    · exact .rcn id cap sz a (by rw [e, h1])
    · exact .rcd _ _ _ _ _ e rfl
  | p x v r => exact .p x v (r.ren hx ho)
  | c fn caps cv h1 h2 => exact .c fn caps cv h1 fun j x hj => let ⟨v, hv, q⟩ := h2 j x hj; ⟨v, hv, q.ren (hx x (List.mem_of_getElem? hj)) ho⟩
theorem RelCl.ren : ∀ {cs : List SC} {vs : List Value}, RelCl h Im O cs vs → (∀ c ∈ cs, c.lo n) → (∀ u, u < n → O' u = O u ∨ O' u = .gone) → RelCl h Im O' cs vs
  | _, _, .nil, _, _ => .nil
  | _, _, .cons c v cs vs q rs, hx, ho => .cons c v cs vs (q.ren (hx c (by simp)) ho) (rs.ren (fun c' h => hx c' (by simp [h])) ho)
mutual
theorem RelV.ren : ∀ {x : SV} {v : Value}, RelV h Im O x v → SV.lo n x → (∀ u, u < n → O' u = O u ∨ O' u = .gone) → RelV h Im O' x v
  | _, _, .one c v r, hx, ho => .one c v (r.ren (by rw [SV.lo] at hx; exact hx) ho)
  | _, _, .agg cs cv r, hx, ho => .agg cs cv (r.ren (by rw [SV.lo] at hx; exact hx) ho)
  | _, _, .tup vs tv r, hx, ho => .tup vs tv (RelVs.ren r (by rw [SV.lo] at hx; exact hx) ho)
  | _, _, .dead v, _, _ => .dead v
  | _, _, .und, _, _ => .und
theorem RelVs.ren : ∀ {x : List SV} {v : List Value}, RelVs h Im O x v → SV.los n x → (∀ u, u < n → O' u = O u ∨ O' u = .gone) → RelVs h Im O' x v
  | _, _, .nil, _, _ => .nil
  | _, _, .cons x v xs vs r rs, hx, ho => .cons x v xs vs (RelV.ren r (by rw [SV.los] at hx; exact hx.1) ho) (RelVs.ren rs (by rw [SV.los] at hx; exact hx.2) ho)
end
end
/-- The state behind a call that left one object of one's own in the place of another. -/
theorem SimW.canon {σ : St} {w : World} {O O' : Nat → LS} {Im Im' : Nat → Prop} (s : SimW G X σ tm w O Im) (hf : ∀ u, σ.next ≤ u → O u = .free) {w' : World} (s' : SimW G X σ' tm w' O' Im') {id src sz : Nat} {R : List (List D)} (hid : id < σ.next) (hsl : σ'.slots = σ.slots) (hsrc : src = id ∨ src = σ.next)
    (h1 : σ'.objs src = some (.arr sz R false)) (h2 : ∀ u, u < σ.next → u ≠ id → σ'.objs u = σ.objs u) {len : Nat} {v : Value} (rv : RelC w'.heap Im' O' (.r src 0 len) v) :
    ∃ O'', SimW G X ((σ.setO id none).new (.arr sz R false)) tm w' O'' Im' ∧ (∀ u, σ.next + 1 ≤ u → O'' u = .free) ∧ RelC w'.heap Im' O'' (.r σ.next 0 len) v := by
  obtain ⟨ln, hln, hrn, hbn⟩ := s'.obj src _ h1
  let O'' : Nat → LS := fun u => if u < σ.next then (if u = id then .gone else O' u) else if u = σ.next then .live ln else .free
  have o1 : O'' id = .gone := by show (if id < σ.next then _ else _) = _; rw [if_pos hid, if_pos rfl]
  have o2 : O'' σ.next = .live ln := by show (if σ.next < σ.next then _ else _) = _; rw [if_neg (by omega), if_pos rfl]
  have o3 : ∀ u, u < σ.next → u ≠ id → O'' u = O' u := fun u hu he => by show (if u < σ.next then _ else _) = _; rw [if_pos hu, if_neg he]
  have o4 : ∀ u, σ.next + 1 ≤ u → O'' u = .free := fun u hu => by show (if u < σ.next then _ else _) = _; rw [if_neg (by omega), if_neg (by omega)]
  have ho : ∀ u, u < σ.next → O'' u = O' u ∨ O'' u = .gone := fun u hu => by
    by_cases e : u = id
    · subst e; exact .inr o1
    · exact .inl (o3 u hu e)
  have lt : ∀ u o, σ.objs u = some o → u < σ.next := fun u o hu => Nat.lt_of_not_le fun hl => by
    obtain ⟨l, hl', _⟩ := s.obj u o hu
    rw [hf u hl] at hl'; cases hl'
  have objs : ∀ u o, ((σ.setO id none).new (.arr sz R false)).objs u = some o → (u = σ.next ∧ o = .arr sz R false) ∨ (u < σ.next ∧ u ≠ id ∧ σ.objs u = some o ∧ σ'.objs u = some o) := by
    intro u o hu
    by_cases e : u = σ.next
    · subst e
      have : some (VO.arr sz R false) = some o := by simpa [St.new, St.setO] using hu
      exact .inl ⟨rfl, (Option.some.inj this).symm⟩
    · by_cases e2 : u = id
      · subst e2; simp [St.new, St.setO, e] at hu
      · have hu' : σ.objs u = some o := by simpa [St.new, St.setO, e, e2] using hu
        have := lt u o hu'
        exact .inr ⟨this, e2, hu', by rw [h2 u this e2]; exact hu'⟩
  have nsrc : ∀ u, u < σ.next → u ≠ id → u ≠ src := fun u hu he e => by rcases hsrc with h | h <;> omega
  refine ⟨O'', ⟨s'.ext, s'.ownlt, s'.imlt, s'.im0, s'.im1, ?_, ?_, ?_, ?_, s'.glob⟩, o4, ?_⟩
  · intro u hu l hl
    by_cases e : u = σ.next
    · subst e; simp [St.new, St.setO] at hu
    · by_cases e2 : u = id
      · subst e2; rw [o1] at hl; cases hl
      · rcases Nat.lt_or_ge u σ.next with h | h
        · rw [o3 u h e2] at hl
          refine s'.dead u ?_ l hl
          rw [h2 u h e2]
          simpa [St.new, St.setO, e, e2] using hu
        · rw [o4 u (by omega)] at hl; cases hl
  · intro u o hu
    rcases objs u o hu with ⟨rfl, rfl⟩ | ⟨g1, g2, g3, g4⟩
    · refine ⟨ln, o2, ?_, hbn⟩
      cases hrn with
      | an => exact .an _ _ _
      | arr _ _ _ b cap c e fr k1 k2 k3 k4 k5 k6 k7 k8 => exact .arr sz R false b cap c e fr k1 k2 k3 k4 k5 k6 k7 k8
    · obtain ⟨l, q1, q2, q3⟩ := s'.obj u o g4
      obtain ⟨l0, p1, p2, p3⟩ := s.obj u o g3
      refine ⟨l, by rw [o3 u g1 g2]; exact q1, ?_, q3⟩
      cases q2 with
      | bld T e l1 b sub k1 k2 k3 k4 => exact .bld T e l1 b sub k1 k2 k3 k4
      | an sz cap fz => exact .an _ _ _
      | arr sz rows fz b cap c e fr k1 k2 k3 k4 k5 k6 k7 k8 => exact .arr sz rows fz b cap c e fr k1 k2 k3 k4 k5 k6 k7 k8
      | box cells b c e k1 k2 k3 =>
        cases p2 with
        | box _ b0 c0 e0 m1 m2 m3 => exact .box cells b c e k1 (k2.ren (m2.lo hf) ho) k3
      | tn => exact .tn _ _
      | tre sz rows foc b cap c e sub k1 k2 k3 k4 k5 k6 k7 k8 k9 =>
        cases p2 with
        | tn => exact .tre sz [] none b cap c e sub k1 k2 k3 k4 k5 k6 k7 k8 trivial
        | tre _ _ _ b0 cap0 c0 e0 sub0 m1 m2 m3 m4 m5 m6 m7 m8 m9 =>
          refine .tre sz rows foc b cap c e sub k1 k2 k3 k4 k5 k6 k7 k8 ?_
          cases foc with
          | none => trivial
          | some kc => exact ⟨k9.1, k9.2.ren (m9.2.lo hf) ho⟩
  · intro u u' o o' l l' b hne hu hu' hl hl' hb
    rcases objs u o hu with ⟨rfl, rfl⟩ | ⟨g1, g2, g3, g4⟩
    · rw [o2] at hl; cases hl
      rcases objs u' o' hu' with ⟨rfl, _⟩ | ⟨k1, k2, k3, k4⟩
      · exact absurd rfl hne
      · rw [o3 u' k1 k2] at hl'
        exact s'.disj src u' _ o' _ l' b (fun e => nsrc u' k1 k2 e.symm) h1 k4 hln hl' hb
    · rw [o3 u g1 g2] at hl
      rcases objs u' o' hu' with ⟨rfl, rfl⟩ | ⟨k1, k2, k3, k4⟩
      · rw [o2] at hl'; cases hl'
        exact s'.disj u src o _ l _ b (nsrc u g1 g2) g4 h1 hl hln hb
      · rw [o3 u' k1 k2] at hl'
        exact s'.disj u u' o o' l l' b hne g4 k4 hl hl' hb
  · intro t
    have r := s'.slot t
    rw [hsl] at r
    exact r.ren ((s.slot t).lo hf) ho
  · cases rv with
    | rd _ _ _ _ g1 _ => rw [g1] at hln; cases hln
    | rn _ cap sz' a g1 => rw [g1] at hln; cases hln; exact .rn _ cap _ a o2
    | r _ _ _ b cap sz' a c g1 g2 g3 g4 => rw [g1] at hln; cases hln; exact .r _ _ _ b cap _ a c o2 g2 g3 g4
def insertV (sz bytes : Nat) (z : List SC) (fo fr : Nat) : VFn := ⟨95, .room 0 (.seq (.reg [⟨(some 6), .mv (.c (.one (.nl sz))), none⟩]) (.seq (.reg [⟨(some 10), .mv (.t 0), none⟩, ⟨(some 11), .mv (.t 1), none⟩, ⟨(some 12), .sl sz (.t 10) (some (.t 11)) none, none⟩]) (.seq (.reg [⟨(some 13), .mv (.t 2), none⟩, ⟨(some 14), .len (.t 13), none⟩, ⟨(some 7), .mv (.t 14), none⟩]) (.seq (.seq (.reg [⟨(some 15), .mv (.t 7), none⟩, ⟨(some 16), .bin .i .eql (.t 15) (.c (.one (.d (.i .i64 0)))), none⟩]) (.cond (.t 16) (.seq (.reg [⟨(some 17), .mv (.t 0), none⟩, ⟨(some 6), .mv (.t 17), none⟩]) .ret) .skip)) (.seq (.reg [⟨(some 18), .mv (.t 0), none⟩, ⟨(some 19), .len (.t 18), none⟩, ⟨(some 8), .mv (.t 19), none⟩]) (.seq (.seq (.reg [⟨(some 20), .mv (.t 1), none⟩, ⟨(some 21), .mv (.t 8), none⟩, ⟨(some 22), .bin .i .eql (.t 20) (.t 21), none⟩]) (.cond (.t 22) (.seq (.reg [⟨(some 23), .mv (.t 0), none⟩, ⟨(some 24), .mv (.t 2), none⟩, ⟨(some 25), .app sz bytes (.t 23) (.t 24), none⟩, ⟨(some 6), .mv (.t 25), none⟩]) .ret) .skip)) (.seq (.seq (.reg [⟨(some 26), .mv (.t 8), none⟩, ⟨(some 27), .mv (.t 7), none⟩, ⟨(some 28), .bin .i .add (.t 26) (.t 27), none⟩, ⟨(some 29), .mv (.t 0), none⟩, ⟨(some 30), .cap (.t 29), none⟩, ⟨(some 31), .bin .i .gtr (.t 28) (.t 30), none⟩]) (.cond (.t 31) (.seq (.reg [⟨(some 32), .mv (.t 0), none⟩, ⟨(some 33), .mv (.t 1), none⟩, ⟨(some 34), .sl sz (.t 32) none (some (.t 33)), none⟩, ⟨(some 35), .mv (.t 8), none⟩, ⟨(some 36), .mv (.t 7), none⟩, ⟨(some 37), .bin .i .add (.t 35) (.t 36), none⟩, ⟨(some 38), .mv (.t 1), none⟩, ⟨(some 39), .bin .i .sub (.t 37) (.t 38), none⟩, ⟨(some 40), .appz sz bytes z (.t 34) (.t 39), none⟩, ⟨(some 9), .mv (.t 40), none⟩]) (.seq (.reg [⟨(some 41), .mv (.t 9), none⟩, ⟨(some 42), .mv (.t 1), none⟩, ⟨(some 43), .sl sz (.t 41) (some (.t 42)) none, none⟩, ⟨(some 44), .mv (.t 2), none⟩, ⟨(some 45), .cpy sz (.t 43) (.t 44), none⟩]) (.seq (.draw [⟨⟨(some 46), .mv (.t 9), none⟩, 0, [], none, []⟩, ⟨⟨(some 47), .mv (.t 1), none⟩, 0, [], none, []⟩, ⟨⟨(some 48), .mv (.t 7), none⟩, 0, [], none, []⟩, ⟨⟨(some 49), .bin .i .add (.t 47) (.t 48), none⟩, 6, [], none, []⟩, ⟨⟨(some 50), .sl sz (.t 46) (some (.t 49)) none, none⟩, 15, [], none, []⟩, ⟨⟨(some 51), .mv (.t 0), none⟩, 0, [], none, []⟩, ⟨⟨(some 52), .mv (.t 1), none⟩, 0, [], none, []⟩, ⟨⟨(some 53), .sl sz (.t 51) (some (.t 52)) none, none⟩, 96, [], none, []⟩, ⟨⟨(some 54), .cpy sz (.t 50) (.t 53), none⟩, 255, [], none, []⟩]) (.seq (.reg [⟨(some 55), .mv (.t 9), none⟩, ⟨(some 6), .mv (.t 55), none⟩]) .ret)))) .skip)) (.seq (.reg [⟨(some 56), .mv (.t 0), none⟩, ⟨(some 57), .mv (.t 8), none⟩, ⟨(some 58), .mv (.t 7), none⟩, ⟨(some 59), .bin .i .add (.t 57) (.t 58), none⟩, ⟨(some 60), .sl sz (.t 56) none (some (.t 59)), none⟩, ⟨(some 0), .mv (.t 60), none⟩]) (.seq (.seq (.reg [⟨(some 61), .mv (.t 2), none⟩, ⟨(some 62), .mv (.t 0), none⟩, ⟨(some 63), .mv (.t 1), none⟩, ⟨(some 64), .mv (.t 7), none⟩, ⟨(some 65), .bin .i .add (.t 63) (.t 64), none⟩, ⟨(some 66), .sl sz (.t 62) (some (.t 65)) none, none⟩, ⟨(some 67), .call fo [(.t 61), (.t 66)], none⟩, ⟨(some 68), .un .not (.t 67), none⟩]) (.cond (.t 68) (.seq (.draw [⟨⟨(some 69), .mv (.t 0), none⟩, 0, [], none, []⟩, ⟨⟨(some 70), .mv (.t 1), none⟩, 0, [], none, []⟩, ⟨⟨(some 71), .mv (.t 7), none⟩, 0, [], none, []⟩, ⟨⟨(some 72), .bin .i .add (.t 70) (.t 71), none⟩, 6, [], none, []⟩, ⟨⟨(some 73), .sl sz (.t 69) (some (.t 72)) none, none⟩, 15, [], none, []⟩, ⟨⟨(some 74), .mv (.t 0), none⟩, 0, [], none, []⟩, ⟨⟨(some 75), .mv (.t 1), none⟩, 0, [], none, []⟩, ⟨⟨(some 76), .sl sz (.t 74) (some (.t 75)) none, none⟩, 96, [], none, []⟩, ⟨⟨(some 77), .cpy sz (.t 73) (.t 76), none⟩, 255, [], none, []⟩]) (.seq (.reg [⟨(some 78), .mv (.t 0), none⟩, ⟨(some 79), .mv (.t 1), none⟩, ⟨(some 80), .sl sz (.t 78) (some (.t 79)) none, none⟩, ⟨(some 81), .mv (.t 2), none⟩, ⟨(some 82), .cpy sz (.t 80) (.t 81), none⟩]) (.seq (.reg [⟨(some 83), .mv (.t 0), none⟩, ⟨(some 6), .mv (.t 83), none⟩]) .ret))) .skip)) (.seq (.reg [⟨(some 84), .mv (.t 0), none⟩, ⟨(some 85), .mv (.t 8), none⟩, ⟨(some 86), .sl sz (.t 84) (some (.t 85)) none, none⟩, ⟨(some 87), .mv (.t 2), none⟩, ⟨(some 88), .cpy sz (.t 86) (.t 87), none⟩]) (.seq (.reg [⟨(some 89), .mv (.t 0), none⟩, ⟨(some 90), .mv (.t 1), none⟩, ⟨(some 91), .sl sz (.t 89) (some (.t 90)) none, none⟩, ⟨(some 92), .mv (.t 7), none⟩, ⟨(some 93), .call fr [(.t 91), (.t 92)], none⟩]) (.seq (.reg [⟨(some 94), .mv (.t 0), none⟩, ⟨(some 6), .mv (.t 94), none⟩]) .ret)))))))))))), [.t 6]⟩
theorem ins_l1 {α : Type} (l : List α) (v d : α) {i : Nat} (h : i ≤ l.length) : (l.take i ++ (v :: List.replicate (l.length - i) d)).take (i + 1) ++ ((l.drop i).take (l.length - i) ++ (l.take i ++ (v :: List.replicate (l.length - i) d)).drop (i + 1 + (l.length - i))) = l.take i ++ (v :: l.drop i) := by
  have e0 : (l.take i ++ [v]).length = i + 1 := by simp; omega
  have e1 : (l.take i ++ (v :: List.replicate (l.length - i) d)).take (i + 1) = l.take i ++ [v] := by
    rw [show l.take i ++ (v :: List.replicate (l.length - i) d) = (l.take i ++ [v]) ++ List.replicate (l.length - i) d from by simp]
    exact List.take_left' e0
  have e2 : (l.take i ++ (v :: List.replicate (l.length - i) d)).drop (i + 1 + (l.length - i)) = [] := List.drop_eq_nil_of_le (by simp; omega)
  have e3 : (l.drop i).take (l.length - i) = l.drop i := List.take_of_length_le (by simp)
  rw [e1, e2, e3]; simp
theorem ins_l2 {α : Type} (l : List α) {i : Nat} (h : i < l.length) : l.take (i + 1) ++ ((l.drop i).take (l.length - i) ++ l.drop (i + 1 + (l.length - i))) = l.take (i + 1) ++ l.drop i := by
  have e2 : l.drop (i + 1 + (l.length - i)) = [] := List.drop_eq_nil_of_le (by omega)
  have e3 : (l.drop i).take (l.length - i) = l.drop i := List.take_of_length_le (by simp)
  rw [e2, e3]; simp
theorem ins_l3 {α : Type} (l : List α) (v : α) {i : Nat} (h : i < l.length) : (l.take (i + 1) ++ l.drop i).take i ++ (([v].drop 0).take 1 ++ (l.take (i + 1) ++ l.drop i).drop (i + 1)) = l.take i ++ (v :: l.drop i) := by
  have e0 : (l.take (i + 1)).length = i + 1 := by simp; omega
  have e1 : (l.take (i + 1) ++ l.drop i).drop (i + 1) = l.drop i := List.drop_left' e0
  have e2 : (l.take (i + 1) ++ l.drop i).take i = l.take i := by
    rw [List.take_append_of_le_length (by omega), List.take_take, Nat.min_eq_left (by omega)]
  rw [e1, e2]; simp
theorem cpy_eq {σ : St} {sz id id' off off' len len' k : Nat} {rows rows' R : List (List D)} {fz : Bool} (h : σ.obj id = some (.arr sz rows false)) (h' : σ.obj id' = some (.arr sz rows' fz)) (hk : min len' len = k) (h1 : off ≤ rows.length) (h2 : off' + k ≤ rows'.length)
    (hR : rows.take off ++ ((rows'.drop off').take k ++ rows.drop (off + k)) = R) : σ.cpy sz (.one (.r id' off' len')) (.one (.r id off len)) = some (σ.setO id (some (.arr sz R false)), k) := by
  have hk' : k ≤ len' := by omega
  simp only [St.cpy, St.srcOf, lenS, h, h', hk]
  rw [if_pos ⟨trivial, h1⟩, if_pos ⟨trivial, hk', h2⟩]
  simp only [Option.map_some, hR]
theorem wpv_room (t : Nat) (c : VCode) (Q : Ex → St → Prop) : wpv P G (.room t c) Q σ = ∃ id off len sz rows fz, σ.get t = .one (.r id off len) ∧ σ.obj id = some (.arr sz rows fz) ∧ ∀ cp, len ≤ cp → cp ≤ maxLen → wpv P G c Q (σ.put t (.one (.rc id off len cp))) := (rfl)
/-- What is behind the body of an insertion. -/
def insEnd (σ : St) (id sz : Nat) (R : List (List D)) : St → SV → Prop := fun σ' sv => σ'.slots = σ.slots ∧ ∃ src, (src = id ∨ src = σ.next) ∧ σ'.obj src = some (.arr sz R false) ∧ (∀ u, u < σ.next → u ≠ id → σ'.obj u = σ.obj u) ∧ sv.ur = .one (.r src 0 R.length)
theorem slots_lift {τ : St} (h : ∀ t, τ.get (t + 1000000) = σ.get t) : τ.lift.slots = σ.slots := funext fun t => h t
theorem get_up (σ : St) (svs : List SV) (t : Nat) : (if t + 1000000 < 1000000 then svs.getD (t + 1000000) .dead else σ.get (t + 1000000 - 1000000)) = σ.get t := by
  rw [if_neg (by omega), Nat.add_sub_cancel]
set_option maxRecDepth 100000 in
set_option maxHeartbeats 4000000 in
theorem insert_body {f sz bytes fo fr id idv i : Nat} {z : List SC} {ds v : List D} {rows : List (List D)} (hl : lowF P f = some (insertV sz bytes z fo fr).strip) (hov : OvlOk P fo)
    (hz : ∀ σ : St, σ.toDs z = some ds) (hds : ds.length = sz) (hs : sz ≠ 0) (hne : id ≠ idv) (hlt1 : id < σ.next) (hlt2 : idv < σ.next) (h1 : σ.obj id = some (.arr sz rows false)) (h2 : σ.obj idv = some (.arr sz [v] false)) (hi : i ≤ rows.length) (hf : fits bytes (rows.length + 1)) :
    CallL P G f [.one (.r id 0 rows.length), .one (.d (.i .i64 (i : Int))), .one (.r idv 0 1)] σ (insEnd σ id sz (rows.take i ++ (v :: rows.drop i))) := by
  have hn1 : id ≠ σ.next := by omega
  have hn2 : idv ≠ σ.next := by omega
  have hm : rows.length + 1 ≤ maxLen := hf.2
  have hmx : rows.length + 1 ≤ 9223372036854775807 := hm
  have hw1 : IntKind.i64.wrap ((rows.length : Int) + 1) = ((rows.length + 1 : Nat) : Int) := by rw [IntKind.wrap_i64]; omega
  have hw2 : IntKind.i64.wrap ((i : Int) + 1) = ((i + 1 : Nat) : Int) := by rw [IntKind.wrap_i64]; omega
  refine CallL.x hl (by simp [insertV]) (by simp [insertV]) ?_
  simp only [insertV, wpv_room]
  refine ⟨id, 0, rows.length, sz, rows, false, ?_, h1, fun cp hc1 hc2 => ?_⟩
  · simp only [go_sem, Nat.reduceLT, ↓reduceIte]
  simp only [go_sem, h1, h2, hi, hc1, Nat.reduceLT, Nat.reduceEqDiff, ↓reduceIte, Int.reduceLE, Int.reduceEq, Nat.reduceAdd, Nat.reduceSub, Nat.reduceLeDiff, reduceCtorEq, Int.reduceBEq, true_and]
  intro _ _
  by_cases hin : i = rows.length
  · subst hin
    simp only [go_sem, h1, h2, hi, hc1, hf, Nat.reduceLT, Nat.reduceEqDiff, ↓reduceIte, Int.reduceLE, Int.reduceEq, Nat.reduceAdd, Nat.reduceSub, Nat.reduceLeDiff, reduceCtorEq, Int.reduceBEq, true_and, beq_self_eq_true]
    refine ⟨?_, σ.next, .inr rfl, ?_, ?_, ?_⟩
    · exact slots_lift fun t => by simp only [go_sem, Nat.reduceEqDiff, ↓reduceIte]; rw [if_neg (by omega), Nat.add_sub_cancel]
    · simp only [go_sem, ↓reduceIte, List.drop_length]
    · intro u hu hne2
      have : u ≠ σ.next := by omega
      simp only [go_sem, hne2, this, ↓reduceIte]
    · simp [SV.ur, SC.ur]
  · have hin' : ((i : Int) == (rows.length : Int)) = false := by simp; omega
    simp only [go_sem, h1, h2, hi, hc1, hf, hin', hw1, Nat.reduceLT, Nat.reduceEqDiff, ↓reduceIte, Int.reduceLE, Int.reduceEq, Nat.reduceAdd, Nat.reduceSub, Nat.reduceLeDiff, reduceCtorEq, Int.reduceBEq, true_and]
    by_cases hgr : cp < rows.length + 1
    · have hg : decide (cp < rows.length + 1) = true := decide_eq_true hgr
      have hw3 : IntKind.i64.wrap (((rows.length + 1 : Nat) : Int) - (i : Int)) = ((rows.length + 1 - i : Nat) : Int) := by rw [IntKind.wrap_i64]; omega
      have hic : i ≤ cp := by omega
      have hpos : (0 : Int) < ((rows.length + 1 - i : Nat) : Int) := by omega
      have hcg : cp < rows.length + 1 := hgr
      have hsum : i + (rows.length + 1 - i) = rows.length + 1 := by omega
      have hmin : min i rows.length = i := by omega
      have hin2 : i ≤ rows.length + 1 := by omega
      have hmin2 : min 1 (rows.length + 1 - i) = 1 := by omega
      simp only [go_sem, h1, h2, hi, hc1, hf, hin', hw1, hg, hw3, hz, hds, hic, hpos, hcg, hsum, hmin, hin2, hmin2, List.length_replicate, Nat.reduceLT, Nat.reduceEqDiff, ↓reduceIte, Int.reduceLE, Int.reduceEq, Nat.reduceAdd, Nat.reduceSub, Nat.reduceLeDiff, reduceCtorEq, Int.reduceBEq, true_and]
      refine ⟨_, cpy_eq (rows := rows.take i ++ List.replicate (rows.length + 1 - i) ds) (rows' := [v]) (k := 1) (fz := false) (R := rows.take i ++ (v :: List.replicate (rows.length - i) ds)) (by simp only [go_sem, Nat.reduceEqDiff, ↓reduceIte]) (by simp only [go_sem, hn2, h2, ↓reduceIte]) (by omega) (by simp; omega) (by simp) ?_, ?_⟩
      · rw [show rows.length + 1 - i = (rows.length - i) + 1 from by omega, List.replicate_succ]
        simp [List.take_append, List.drop_append, hmin]
      simp only [go_sem, h1, h2, hi, hc1, hf, hin', hw1, hw2, hn1, hn2, hsum, hmin, hin2, Nat.reduceLT, Nat.reduceEqDiff, ↓reduceIte, Int.reduceLE, Int.reduceEq, Nat.reduceAdd, Nat.reduceSub, Nat.reduceLeDiff, reduceCtorEq, Int.reduceBEq, true_and]
      refine ⟨_, cpy_eq (rows := rows.take i ++ (v :: List.replicate (rows.length - i) ds)) (rows' := rows) (k := rows.length - i) (fz := false) (R := rows.take i ++ (v :: rows.drop i)) (by simp only [go_sem, Nat.reduceEqDiff, ↓reduceIte]) (by simp only [go_sem, hn1, hn2, h1, ↓reduceIte]) (by omega) (by simp; omega) (by omega) ?_, ?_⟩
      · exact ins_l1 rows v ds hi
      refine ⟨?_, σ.next, .inr rfl, ?_, ?_, ?_⟩
      · exact slots_lift fun t => by simp only [go_sem, Nat.reduceEqDiff, ↓reduceIte]; rw [if_neg (by omega), Nat.add_sub_cancel]
      · simp only [go_sem, ↓reduceIte]
      · intro u hu hne2
        have : u ≠ σ.next := by omega
        simp only [go_sem, hne2, this, ↓reduceIte]
      · simp only [go_sem, hmin, hsum, Nat.reduceEqDiff, Nat.reduceAdd, Nat.reduceSub, Nat.reduceLT, Nat.reduceLeDiff, ↓reduceIte]
        simp [SV.ur, SC.ur]; omega
    · have hg : decide (cp < rows.length + 1) = false := decide_eq_false hgr
      have hge : rows.length + 1 ≤ cp := by omega
      have hw3 : IntKind.i64.wrap ((i : Int) + 1) = ((i + 1 : Nat) : Int) := hw2
      have hi1 : i + 1 ≤ rows.length + 1 := by omega
      have hi2 : i + 1 ≤ rows.length := by omega
      simp only [go_sem, h1, h2, hi, hc1, hf, hin', hw1, hw2, hg, hge, hi1, hi2, Nat.reduceLT, Nat.reduceEqDiff, ↓reduceIte, Int.reduceLE, Int.reduceEq, Nat.reduceAdd, Nat.reduceSub, Nat.reduceLeDiff, reduceCtorEq, Int.reduceBEq, true_and]
      refine ovl_call hov (Ne.symm hne) (sz := sz) (sz' := sz) (rows := [v]) (rows' := rows) (by simp only [go_sem, h2, ↓reduceIte]) (by simp only [go_sem, h1, ↓reduceIte]) hs (by omega) (by omega) ?_
      have hi3 : i ≤ rows.length + 1 := by omega
      simp only [go_sem, h1, h2, hi, hc1, hf, hin', hw1, hw2, hg, hge, hi1, hi2, hi3, Nat.reduceLT, Nat.reduceEqDiff, ↓reduceIte, Int.reduceLE, Int.reduceEq, Nat.reduceAdd, Nat.reduceSub, Nat.reduceLeDiff, reduceCtorEq, Int.reduceBEq, true_and]
      have hmin : min (rows.length - i) (rows.length + 1 - (i + 1)) = rows.length - i := by omega
      have hmin2 : min 1 (rows.length + 1 - i) = 1 := by omega
      refine ⟨_, cpy_eq (rows := rows) (rows' := rows) (k := rows.length - i) (fz := false) (R := rows.take (i + 1) ++ rows.drop i) (by simp only [go_sem, h1, ↓reduceIte]) (by simp only [go_sem, h1, ↓reduceIte]) (by omega) (by omega) (by omega) ?_, ?_⟩
      · exact ins_l2 rows (by omega)
      simp only [go_sem, h1, h2, hi, hc1, hf, hin', hw1, hw2, hg, hge, hi1, hi2, hi3, Nat.reduceLT, Nat.reduceEqDiff, ↓reduceIte, Int.reduceLE, Int.reduceEq, Nat.reduceAdd, Nat.reduceSub, Nat.reduceLeDiff, reduceCtorEq, Int.reduceBEq, true_and]
      refine ⟨_, cpy_eq (rows := rows.take (i + 1) ++ rows.drop i) (rows' := [v]) (k := 1) (fz := false) (R := rows.take i ++ (v :: rows.drop i)) (by simp only [go_sem, ↓reduceIte]) (by simp only [go_sem, h2, Ne.symm hne, ↓reduceIte]) (by omega) (by simp; omega) (by simp) ?_, ?_⟩
      · exact ins_l3 rows v (by omega)
      refine ⟨?_, id, .inl rfl, ?_, ?_, ?_⟩
      · exact slots_lift fun t => by simp only [go_sem, Nat.reduceEqDiff, ↓reduceIte]; rw [if_neg (by omega), Nat.add_sub_cancel]
      · simp only [go_sem, ↓reduceIte]
      · intro u hu hne2
        simp only [go_sem, hne2, ↓reduceIte]
      · simp only [go_sem, Nat.reduceEqDiff, Nat.reduceAdd, Nat.reduceSub, Nat.reduceLT, Nat.reduceLeDiff, ↓reduceIte]
        simp [SV.ur, SC.ur]; omega
theorem insert_call {f sz bytes fo fr id idv i : Nat} {z : List SC} {ds v : List D} {rows : List (List D)} {K : St → SV → Prop} (hl : lowF P f = some (insertV sz bytes z fo fr).strip) (hk : fOk P f = true) (hov : OvlOk P fo)
    (hz : ∀ σ : St, σ.toDs z = some ds) (hds : ds.length = sz) (hs : sz ≠ 0) (hne : id ≠ idv) (h1 : σ.obj id = some (.arr sz rows false)) (h2 : σ.obj idv = some (.arr sz [v] false)) (hi : i ≤ rows.length) (hf : fits bytes (rows.length + 1))
    (hK : K ((σ.setO id none).new (.arr sz (rows.take i ++ (v :: rows.drop i)) false)) (.one (.r σ.next 0 (rows.length + 1)))) :
    CallV P G f [.one (.r id 0 rows.length), .one (.d (.i .i64 (i : Int))), .one (.r idv 0 1)] σ K := by
  refine .inl ⟨hk, fun X tm w O Im vals s hfr hr => ?_⟩
  have lt : ∀ u o, σ.objs u = some o → u < σ.next := fun u o hu => Nat.lt_of_not_le fun hl => by
    obtain ⟨l, hl', _⟩ := s.obj u o hu
    rw [hfr u hl] at hl'; cases hl'
  have hb := insert_body (G := G) hl hov hz hds hs hne (lt _ _ h1) (lt _ _ h2) h1 h2 hi hf
  refine (hb X tm w O Im vals s hfr hr).mono ?_
  rintro e w' ⟨v', σ', sv, O', Im', rfl, ⟨g1, src, g2, g3, g4, g5⟩, s', hfr', hv⟩
  have hv2 := hv.ur
  rw [g5] at hv2
  have hlen : (rows.take i ++ (v :: rows.drop i)).length = rows.length + 1 := by simp; omega
  rw [hlen] at hv2
  obtain ⟨O'', s'', f'', r''⟩ := s.canon hfr s' (lt _ _ h1) g1 g2 g3 g4 hv2.one_inv
  exact ⟨v', _, _, O'', Im', rfl, hK, s'', f'', .one _ _ r''⟩
/-- An insertion as the code does it. -/
def insertF {α : Type} (b : Nat) (l : List α) (e : Int) (x : α) : Option (List α) := if 0 ≤ e ∧ e ≤ l.length ∧ fits b (l.length + 1) then some (l.take e.toNat ++ x :: l.drop e.toNat) else none
def InsOk (P : Program) (f sz bytes : Nat) : Prop := ∃ z ds fo fr, lowF P f = some (insertV sz bytes z fo fr).strip ∧ fOk P f = true ∧ OvlOk P fo ∧ (∀ σ : St, σ.toDs z = some ds) ∧ ds.length = sz ∧ sz ≠ 0
theorem insert_callF {f sz bytes id idv : Nat} {α : Type} {enc : α → List D} {l v : List α} {e : Int} {x : α} {K : St → SV → Prop} (h : InsOk P f sz bytes) (hv : insertF bytes l e x = some v) (hne : id ≠ idv)
    (h1 : σ.obj id = some (.arr sz (l.map enc) false)) (h2 : σ.obj idv = some (.arr sz [enc x] false)) (hK : K ((σ.setO id none).new (.arr sz (v.map enc) false)) (.one (.r σ.next 0 v.length))) :
    CallV P G f [.one (.r id 0 l.length), .one (.d (.i .i64 e)), .one (.r idv 0 1)] σ K := by
  obtain ⟨z, ds, fo, fr, hl, hk, hov, hz, hds, hs⟩ := h
  unfold insertF at hv
  split at hv
  · rename_i hc
    obtain rfl := Option.some.inj hv
    have he : e = (e.toNat : Int) := (Int.toNat_of_nonneg hc.1).symm
    generalize e.toNat = i at *
    subst he
    have hi : i ≤ l.length := by omega
    have := insert_call (G := G) (K := K) hl hk hov hz hds hs hne h1 h2 (by simpa using hi) (by simpa using hc.2.2) (by
      have e1 : (l.take i ++ x :: l.drop i).map enc = (l.map enc).take i ++ enc x :: (l.map enc).drop i := by simp
      have e2 : (l.take i ++ x :: l.drop i).length = (l.map enc).length + 1 := by simp; omega
      rw [← e1, ← e2]; exact hK)
    rwa [List.length_map] at this
  · cases hv
end
section
variable {P : Program} {G : Nat → Option (List D)} {X : Ctx} {σ σ' : St} {tm : Array Value} {w w' : World} {O O' : Nat → LS} {Im Im' : Nat → Prop}
/-- What is behind is forgotten. -/
theorem SimW.cut (s : SimW G X σ tm w O Im) {id sz : Nat} {R T : List (List D)} (h : σ.objs id = some (.arr sz (R ++ T) false)) : SimW G X (σ.setO id (some (.arr sz R false))) tm w O Im := by
  obtain ⟨l, hl, hr, hb⟩ := s.obj id _ h
  generalize hx : R ++ T = rows at hr
  cases hr with
  | an =>
    obtain ⟨rfl, rfl⟩ := List.append_eq_nil_iff.1 hx
    have : σ.setO id (some (.arr sz [] false)) = σ := by
      cases σ
      simp only [St.setO]
      congr 1
      funext u
      split
      · subst u; exact h.symm
      · rfl
    rw [this]; exact s
  | arr _ _ _ b cap c e fr k1 k2 k3 k4 k5 k6 k7 k8 =>
    subst hx
    refine s.write (o' := .arr sz R false) h hl (.inl rfl) (fun _ => Iff.rfl) rfl rfl rfl rfl (fun _ _ => rfl) (.arr sz R false b cap c e fr k1 k2 (fun r hr => k3 r (List.mem_append_left _ hr)) (by simp at k4; omega) k5 k6 ?_ k8)
    have := k7.take R.flatten.length
    simpa using this
def deleteV (sz bytes : Nat) (z : List SC) : VFn := ⟨33, .seq (.reg [⟨some 6, .mv (.c (.one (.nl sz))), none⟩]) (.seq (.reg [⟨some 8, .mv (.t 0), none⟩, ⟨some 9, .mv (.t 1), none⟩, ⟨some 10, .mv (.t 2), none⟩, ⟨some 11, .mv (.t 0), none⟩, ⟨some 12, .len (.t 11), none⟩, ⟨some 13, .sl3 sz (.t 8) (some (.t 9)) (.t 10) (.t 12), none⟩])
  (.seq (.seq (.reg [⟨some 14, .mv (.t 1), none⟩, ⟨some 15, .mv (.t 2), none⟩, ⟨some 16, .bin .i .eql (.t 14) (.t 15), none⟩]) (.cond (.t 16) (.seq (.reg [⟨some 17, .mv (.t 0), none⟩, ⟨some 6, .mv (.t 17), none⟩]) .ret) .skip))
  (.seq (.reg [⟨some 18, .mv (.t 0), none⟩, ⟨some 19, .len (.t 18), none⟩, ⟨some 7, .mv (.t 19), none⟩])
  (.room 0 (.seq (.draw [⟨⟨some 20, .mv (.t 0), none⟩, 0, [], none, []⟩, ⟨⟨some 21, .mv (.t 1), none⟩, 0, [], none, []⟩, ⟨⟨some 22, .sl sz (.t 20) none (some (.t 21)), none⟩, 3, [], none, []⟩, ⟨⟨some 23, .mv (.t 0), none⟩, 0, [], none, []⟩, ⟨⟨some 24, .mv (.t 2), none⟩, 0, [], none, []⟩,
    ⟨⟨some 25, .sl sz (.t 23) (some (.t 24)) none, none⟩, 24, [], none, []⟩, ⟨⟨some 26, .appr sz bytes (.t 22) (.t 25), none⟩, 63, [], none, []⟩, ⟨⟨some 0, .mv (.t 26), none⟩, 127, [], none, []⟩])
  (.seq (.reg [⟨some 27, .mv (.t 0), none⟩, ⟨some 28, .mv (.t 0), none⟩, ⟨some 29, .len (.t 28), none⟩, ⟨some 30, .mv (.t 7), none⟩, ⟨some 31, .sl sz (.t 27) (some (.t 29)) (some (.t 30)), none⟩, ⟨none, .clr sz z (.t 31), none⟩])
  (.seq (.reg [⟨some 32, .mv (.t 0), none⟩, ⟨some 6, .mv (.t 32), none⟩]) .ret))))))), [.t 6]⟩
/-- What is behind the body of a deletion. -/
def delEnd (σ : St) (id sz : Nat) (R : List (List D)) : St → SV → Prop := fun σ' sv => σ'.slots = σ.slots ∧ (∃ T, σ'.obj id = some (.arr sz (R ++ T) false)) ∧ (∀ u, u ≠ id → σ'.obj u = σ.obj u) ∧ sv.ur = .one (.r id 0 R.length)
set_option maxRecDepth 100000 in
set_option maxHeartbeats 4000000 in
theorem delete_body {f sz bytes id i j : Nat} {z : List SC} {ds : List D} {rows : List (List D)} (hl : lowF P f = some (deleteV sz bytes z).strip)
    (hz : ∀ σ : St, σ.toDs z = some ds) (hds : ds.length = sz) (h1 : σ.obj id = some (.arr sz rows false)) (hi : i < j) (hj : j ≤ rows.length) :
    CallL P G f [.one (.r id 0 rows.length), .one (.d (.i .i64 (i : Int))), .one (.d (.i .i64 (j : Int)))] σ (delEnd σ id sz (rows.take i ++ rows.drop j)) := by
  refine CallL.x hl (by simp [deleteV]) (by simp [deleteV]) ?_
  have hij : ((i : Int) == (j : Int)) = false := by simp; omega
  have hij2 : ((i : Int) ≤ (j : Int)) = True := eq_true (by omega)
  have hj2 : ((j : Int) ≤ (rows.length : Int)) = True := eq_true (by omega)
  have hil : ((i : Int) ≤ (rows.length : Int)) = True := eq_true (by omega)
  have hieq : ((i : Int) = (rows.length : Int)) = False := eq_false (by omega)
  have hi0 : ((0 : Int) ≤ (i : Int)) = True := eq_true (by omega)
  have hj0 : ((0 : Int) ≤ (j : Int)) = True := eq_true (by omega)
  have hlij : i ≤ j := by omega
  have hlil : i ≤ rows.length := by omega
  have hne : i ≠ rows.length := by omega
  simp only [deleteV, go_sem, h1, hij, hij2, hj2, hil, hieq, hi0, hj0, hlij, hj, hlil, hne, Nat.reduceLT, Nat.reduceEqDiff, ↓reduceIte, Int.reduceLE, Int.reduceEq, Nat.reduceAdd, Nat.reduceSub, Nat.reduceLeDiff, reduceCtorEq, Int.reduceBEq, true_and, and_self]
  intro _
  simp only [wpv_room, go_sem, h1, hij, hij2, hj2, hil, hieq, hi0, hj0, hlij, hj, hlil, hne, Nat.reduceLT, Nat.reduceEqDiff, ↓reduceIte, Int.reduceLE, Int.reduceEq, Nat.reduceAdd, Nat.reduceSub, Nat.reduceLeDiff, reduceCtorEq, Int.reduceBEq, true_and, and_self]
  intro _
  refine ⟨id, 0, rows.length, sz, rows, false, rfl, h1, fun cp hc1 hc2 => ?_⟩
  have hicp : i ≤ cp := by omega
  have hcp0 : 0 < cp := by omega
  have hr0 : 0 < rows.length := by omega
  have hjj : j + (rows.length - j) = rows.length := by omega
  have hnn : i + (rows.length - j) ≤ rows.length := by omega
  have hnc : i + (rows.length - j) ≤ cp := by omega
  have hdj : (rows.drop j).take (rows.length - j) = rows.drop j := List.take_of_length_le (by simp)
  have hle : (rows.take i ++ (rows.drop j ++ rows.drop (i + (rows.length - j)))).length = rows.length := by simp; omega
  have hsum : i + (rows.length - j) + (rows.length - (i + (rows.length - j))) = rows.length := by omega
  have hmin : min (rows.length - j) (rows.length - j) = rows.length - j := Nat.min_self _
  simp only [go_sem, h1, hz, hds, hij, hij2, hj2, hil, hieq, hi0, hj0, hlij, hj, hlil, hne, hicp, hcp0, hr0, hjj, hnn, hnc, hdj, hle, hsum, hmin, hc1, List.length_drop, Nat.le_refl, Nat.reduceLT, Nat.reduceEqDiff, ↓reduceIte, Int.reduceLE, Int.reduceEq, Nat.reduceAdd, Nat.reduceSub, Nat.reduceLeDiff, reduceCtorEq, Int.reduceBEq, true_and, and_self]
  intro _
  have hR : (rows.take i ++ (rows.drop j ++ rows.drop (i + (rows.length - j)))).take (i + (rows.length - j)) = rows.take i ++ rows.drop j := by
    rw [← List.append_assoc, List.take_append_of_le_length (by simp; omega), List.take_of_length_le (by simp; omega)]
  refine ⟨?_, ⟨List.replicate (rows.length - (i + (rows.length - j))) ds ++ (rows.take i ++ (rows.drop j ++ rows.drop (i + (rows.length - j)))).drop rows.length, ?_⟩, ?_, ?_⟩
  · exact slots_lift fun t => by simp only [go_sem, Nat.reduceEqDiff, ↓reduceIte]; rw [if_neg (by omega), Nat.add_sub_cancel]
  · simp only [go_sem, hR, ↓reduceIte]
  · intro u hu
    simp only [go_sem, hu, ↓reduceIte]
  · simp only [go_sem, Nat.reduceEqDiff, Nat.reduceAdd, Nat.reduceSub, Nat.reduceLT, Nat.reduceLeDiff, ↓reduceIte]
    simp [SV.ur, SC.ur]; omega
theorem delete_call {f sz bytes id i j : Nat} {z : List SC} {ds : List D} {rows : List (List D)} {K : St → SV → Prop} (hl : lowF P f = some (deleteV sz bytes z).strip) (hk : fOk P f = true)
    (hz : ∀ σ : St, σ.toDs z = some ds) (hds : ds.length = sz) (h1 : σ.obj id = some (.arr sz rows false)) (hi : i < j) (hj : j ≤ rows.length)
    (hK : K ((σ.setO id none).new (.arr sz (rows.take i ++ rows.drop j) false)) (.one (.r σ.next 0 (rows.take i ++ rows.drop j).length))) :
    CallV P G f [.one (.r id 0 rows.length), .one (.d (.i .i64 (i : Int))), .one (.d (.i .i64 (j : Int)))] σ K := by
  refine .inl ⟨hk, fun X tm w O Im vals s hfr hr => ?_⟩
  have lt : ∀ u o, σ.objs u = some o → u < σ.next := fun u o hu => Nat.lt_of_not_le fun hl => by
    obtain ⟨l, hl', _⟩ := s.obj u o hu
    rw [hfr u hl] at hl'; cases hl'
  refine (delete_body (G := G) hl hz hds h1 hi hj X tm w O Im vals s hfr hr).mono ?_
  rintro e w' ⟨v', σ', sv, O', Im', rfl, ⟨g1, ⟨T, g3⟩, g4, g5⟩, s', hfr', hv⟩
  have hv2 := hv.ur
  rw [g5] at hv2
  have s2 := s'.cut g3
  obtain ⟨O'', s'', f'', r''⟩ := s.canon hfr s2 (src := id) (sz := sz) (R := rows.take i ++ rows.drop j) (lt _ _ h1) (by exact g1) (.inl rfl) (by simp [St.setO]) (fun u _ hne => by simp only [St.setO, if_neg hne]; exact g4 u hne) hv2.one_inv
  exact ⟨v', _, _, O'', Im', rfl, hK, s'', f'', .one _ _ r''⟩
/-- A deletion as the code does it. -/
def deleteF {α : Type} (l : List α) (i j : Int) : Option (List α) := if 0 ≤ i ∧ i < j ∧ j ≤ l.length then some (l.take i.toNat ++ l.drop j.toNat) else none
def DelOk (P : Program) (f sz : Nat) : Prop := ∃ bytes z ds, lowF P f = some (deleteV sz bytes z).strip ∧ fOk P f = true ∧ (∀ σ : St, σ.toDs z = some ds) ∧ ds.length = sz
theorem delete_callF {f sz id : Nat} {α : Type} {enc : α → List D} {l v : List α} {i j : Int} {K : St → SV → Prop} (h : DelOk P f sz) (hv : deleteF l i j = some v)
    (h1 : σ.obj id = some (.arr sz (l.map enc) false)) (hK : K ((σ.setO id none).new (.arr sz (v.map enc) false)) (.one (.r σ.next 0 v.length))) :
    CallV P G f [.one (.r id 0 l.length), .one (.d (.i .i64 i)), .one (.d (.i .i64 j))] σ K := by
  obtain ⟨b, z, ds, hl, hk, hz, hds⟩ := h
  unfold deleteF at hv
  split at hv
  · rename_i hc
    obtain rfl := Option.some.inj hv
    obtain ⟨c1, c2, c3⟩ := hc
    have e1 : i = (i.toNat : Int) := (Int.toNat_of_nonneg c1).symm
    have e2 : j = (j.toNat : Int) := (Int.toNat_of_nonneg (by omega)).symm
    generalize i.toNat = i' at *
    generalize j.toNat = j' at *
    subst e1 e2
    have em : (l.take i' ++ l.drop j').map enc = (l.map enc).take i' ++ (l.map enc).drop j' := by simp
    have := delete_call (G := G) (K := K) hl hk hz hds h1 (i := i') (j := j') (by omega) (by simp; omega) (by rw [← em, List.length_map]; exact hK)
    rw [List.length_map] at this
    exact this
  · cases hv
/-! ### In a row of one's own whose elements own memory -/
/-- The very cells of a row. -/
def vrows (sz n : Nat) (vs : List Value) : List (List D) := (List.range n).map fun i => ((vs.drop (i * sz)).take sz).map .v
theorem vrows_len (sz n : Nat) (vs : List Value) : (vrows sz n vs).length = n := by simp [vrows]
theorem vrows_row (sz n : Nat) (vs : List Value) (h : n * sz ≤ vs.length) : ∀ r ∈ vrows sz n vs, r.length = sz := by
  intro r hr
  obtain ⟨i, hi, rfl⟩ := List.mem_map.1 hr
  have hi' : i < n := List.mem_range.1 hi
  have : i * sz + sz ≤ n * sz := by
    have := Nat.mul_le_mul_right sz (show i + 1 ≤ n from hi')
    rw [Nat.add_mul] at this; omega
  simp; omega
theorem vrows_flat (sz : Nat) (vs : List Value) : ∀ (n : Nat), n * sz ≤ vs.length → (vrows sz n vs).flatten = (vs.take (n * sz)).map .v
  | 0, _ => by simp [vrows]
  | n + 1, h => by
    have h' : n * sz ≤ vs.length := by rw [Nat.add_mul] at h; omega
    have e : vrows sz (n + 1) vs = vrows sz n vs ++ [((vs.drop (n * sz)).take sz).map .v] := by simp [vrows, List.range_succ]
    rw [e, List.flatten_append, vrows_flat sz vs n h']
    simp only [List.flatten_cons, List.flatten_nil, List.append_nil]
    rw [← List.map_append]
    congr 1
    rw [Nat.add_mul, Nat.one_mul, List.take_add]
theorem v_rel {h : Array Obj} {Im : Nat → Prop} : ∀ (vs us : List Value), (∀ v ∈ vs, v.oneCell' = true) → RelCs h Im (vs.map .v) (vs ++ us) []
  | [], us, _ => .nil _
  | v :: vs, us, ho => .cons _ _ [] _ _ [] (.v v (ho v (by simp))) (v_rel vs us fun u hu => ho u (by simp [hu]))
theorem v_inv {h : Array Obj} {Im : Nat → Prop} : ∀ {vs us : List Value} {ds : List D} {fp : List Nat}, RelCs h Im (vs.map .v ++ ds) us fp → us.take vs.length = vs
  | [], us, ds, fp, _ => by simp
  | v :: vs, us, ds, fp, r => by
    cases r with
    | cons _ u f _ us' fs r1 r2 =>
      cases r1 with
      | v => simp only [List.length_cons, List.take_succ_cons]; rw [v_inv r2]
theorem delete_callT {f sz bytes id i j : Nat} {z : List SC} {ds : List D} {rows : List (List D)} {K : St → SV → Prop} (hl : lowF P f = some (deleteV sz bytes z).strip) (hk : fOk P f = true)
    (hz : ∀ σ : St, σ.toDs z = some ds) (hds : ds.length = sz) (h1 : σ.obj id = some (.tre sz rows none)) (hi : i < j) (hj : j ≤ rows.length)
    (hK : K ((σ.setO id none).new (.tre sz (rows.take i ++ rows.drop j) none)) (.one (.r σ.next 0 (rows.take i ++ rows.drop j).length))) :
    CallV P G f [.one (.r id 0 rows.length), .one (.d (.i .i64 (i : Int))), .one (.d (.i .i64 (j : Int)))] σ K := by
  refine .inl ⟨hk, fun X tm w O Im vals s hfr hr => ?_⟩
  obtain ⟨l, hlo, hro, hown⟩ := s.obj id _ h1
  have hidn : id < σ.next := Nat.lt_of_not_le fun h => by rw [hfr id h] at hlo; cases hlo
  cases hro with
  | tn => simp at hj; omega
  | tre _ _ _ b cap c e sub k1 k2 k3 k4 k5 k6 k7 k8 k9 =>
  have hn0 : 0 < rows.length := by omega
  have hvl : rows.length * sz ≤ c.toList.length := by have := Nat.mul_le_mul_right sz k3; simp only [Array.length_toList]; omega
  obtain ⟨hbi, hbs, hbx⟩ := hown b (.inl rfl)
  let V := vrows sz rows.length c.toList
  have hVn : V.length = rows.length := vrows_len _ _ _
  -- the cells are one by one
  have hfl : rows.flatten.length = rows.length * sz := flatten_length_uniform k2
  have hones : ∀ v ∈ c.toList.take (rows.length * sz), v.oneCell' = true := by
    have := RelCs.ones k8
    rw [show (holeR sz rows none).flatten.length = rows.length * sz from hfl] at this
    exact this
  let σ0 : St := ⟨fun _ => .dead, fun u => if u = id then some (.arr sz V false) else none, σ.next⟩
  let O0 : Nat → LS := fun u => if u = id then .live ⟨some b, cap, sz, []⟩ else .free
  let X0 : Ctx := ⟨w, (· = b), Im, X.gh⟩
  have hO0 : O0 id = .live ⟨some b, cap, sz, []⟩ := if_pos rfl
  have s0 : SimW G X0 σ0 tm w O0 Im := by
    refine ⟨.refl _ _, fun k hk => hk ▸ hbs, s.imlt, fun _ h => h, fun _ h => .inl h, ?_, ?_, ?_, fun t => .dead _, s.glob⟩
    · intro u hu l' hl'
      by_cases e1 : u = id
      · simp [σ0, e1] at hu
      · simp [O0, e1] at hl'
    · intro u o ho
      by_cases e1 : u = id
      · subst e1
        simp only [σ0, if_pos] at ho
        obtain rfl := Option.some.inj ho
        refine ⟨_, hO0, ?_, ?_⟩
        · refine .arr sz V false b cap c e (0, 0) k1 (fun _ => rfl) (vrows_row _ _ _ hvl) (by omega) k4 k5 ?_ ⟨fun h => (by cases h), fun h => absurd h hbi⟩
          show RelCs w.heap Im (vrows sz rows.length c.toList).flatten c.toList []
          rw [vrows_flat _ _ _ hvl]
          have := v_rel (h := w.heap) (Im := Im) (c.toList.take (rows.length * sz)) (c.toList.drop (rows.length * sz)) hones
          rwa [List.take_append_drop] at this
        · intro k hk'
          simp only [Own, Option.some.injEq, List.not_mem_nil, or_false] at hk'
          subst hk'
          exact ⟨hbi, hbs, .inl rfl⟩
      · simp [σ0, e1] at ho
    · intro u u' o o' l1 l2 k hne ho ho'
      have : ∀ u o, σ0.objs u = some o → u = id := fun u o h => by
        by_cases e1 : u = id
        · exact e1
        · simp [σ0, e1] at h
      exact absurd ((this u o ho).trans (this u' o' ho').symm) hne
  have hfr0 : ∀ u, σ0.next ≤ u → O0 u = .free := fun u hu => by
    have : σ.next ≤ u := hu
    simp [O0]; omega
  have hargs : RelVs w.heap Im O0 [.one (.r id 0 V.length), .one (.d (.i .i64 (i : Int))), .one (.d (.i .i64 (j : Int)))] vals := by
    rw [hVn]
    cases hr with
    | cons _ v0 _ _ r1 r2 =>
      cases r2 with
      | cons _ v1 _ _ r2 r3 =>
        cases r3 with
        | cons _ v2 _ _ r3 r4 =>
          cases r4
          refine .cons _ _ _ _ ?_ (.cons _ _ _ _ ?_ (.cons _ _ _ _ ?_ .nil))
          · cases r1 with
            | one _ _ r1 =>
              generalize rows.length = L at r1 hn0 ⊢
              cases r1 with
              | rd _ _ _ _ q => rw [q] at hlo; cases hlo
              | r _ _ _ b' cap' sz' ad c' q1 q2 q3 q4 => rw [q1] at hlo; cases hlo; exact .one _ _ (.r id 0 _ b cap sz ad c' hO0 q2 q3 q4)
              | rn => omega
          · cases r2 with | one _ _ r => cases r with | d _ _ r => exact .one _ _ (.d _ _ r)
          · cases r3 with | one _ _ r => cases r with | d _ _ r => exact .one _ _ (.d _ _ r)
  refine (delete_body (G := G) (σ := σ0) hl hz hds (by show σ0.objs id = _; simp [σ0]) hi (by omega) X0 tm w O0 Im vals s0 hfr0 hargs).mono ?_
  rintro e' w' ⟨v', σ', sv, O', Im', rfl, ⟨g1, ⟨T, g3⟩, g4, g5⟩, s', hfr', hv⟩
  have hv2 := hv.ur
  rw [g5] at hv2
  obtain ⟨l', hl', hro', hown'⟩ := s'.obj id _ g3
  -- what was read in the old row
  have hA : (rows.take i).flatten.length = i * sz := by rw [flatten_length_uniform (fun r hr => k2 r (List.mem_of_mem_take hr)), List.length_take, Nat.min_eq_left (by omega)]
  have hB : (rows.drop j).flatten.length = (rows.length - j) * sz := by rw [flatten_length_uniform (fun r hr => k2 r (List.mem_of_mem_drop hr)), List.length_drop]
  have hM : ((rows.drop i).take (j - i)).flatten.length = (j - i) * sz := by
    rw [flatten_length_uniform (fun r hr => k2 r (List.mem_of_mem_drop (List.mem_of_mem_take hr))), List.length_take, List.length_drop, Nat.min_eq_left (by omega)]
  have hsplit : rows = rows.take i ++ ((rows.drop i).take (j - i) ++ rows.drop j) := by
    have e1 : rows.drop j = (rows.drop i).drop (j - i) := by rw [List.drop_drop]; congr 1; omega
    rw [e1, List.take_append_drop, List.take_append_drop]
  have hisz : i * sz + (j - i) * sz = j * sz := by rw [← Nat.add_mul]; congr 1; omega
  have hjsz : j * sz + (rows.length - j) * sz = rows.length * sz := by rw [← Nat.add_mul]; congr 1; omega
  have k8' : RelCs w.heap Im rows.flatten c.toList sub := k8
  rw [hsplit, List.flatten_append, List.flatten_append] at k8'
  obtain ⟨f1, f23, rfl, r1, r23⟩ := k8'.app_inv (by omega)
  rw [hA] at r23
  obtain ⟨f2, f3, rfl, r2, r3⟩ := r23.app_inv (by rw [List.length_drop]; omega)
  rw [hM, List.drop_drop, hisz] at r3
  -- the world behind
  let Im'' : Nat → Prop := fun k => Im k ∨ (Im' k ∧ w.heap.size ≤ k)
  have hext := s'.ext
  have s1 := s.kill id
  have hobj1 : ∀ u o, (σ.setO id none).objs u = some o → u ≠ id ∧ σ.objs u = some o := by
    intro u o ho
    by_cases e1 : u = id
    · subst e1; simp [St.setO] at ho
    · exact ⟨e1, by simpa [St.setO, e1] using ho⟩
  have hnot : ∀ u o l k, (σ.setO id none).objs u = some o → upd O id .gone u = .live l → Own o l k → ¬ Own (.tre sz rows none) ⟨some b, cap, sz, f1 ++ (f2 ++ f3)⟩ k := by
    intro u o l k ho hlu hk
    obtain ⟨e1, e2⟩ := hobj1 u o ho
    rw [upd_ne _ _ _ _ e1] at hlu
    exact s.disj u id o _ l _ k e1 e2 h1 hlu hlo hk
  have s2 : SimW G X (σ.setO id none) tm w' (upd O id .gone) Im'' := by
    refine s1.moved (F := (· = b)) hext (fun k _ hk => by subst hk; exact ⟨hbi, hbx⟩) (fun k h => .inl h) (fun k hk => ?_) ?_
    · rcases hk with h | ⟨h, h2⟩
      · exact .inl h
      · exact .inr ⟨.inr h2, s'.imlt k h⟩
    · intro u o l ho hlu
      obtain ⟨l2, e1, e2, e3⟩ := s1.obj u o ho
      rw [e1] at hlu; cases hlu
      have hni : ∀ k, Own o l k → ¬ Im'' k := by
        rintro k hk (h | ⟨_, h⟩)
        · exact (e3 k hk).1 h
        · have := (e3 k hk).2.1; omega
      refine ⟨e2.moves ⟨fun k h => .inl h, fun k hk => hext.block k (s.imlt k hk) (fun h => hbi (h ▸ hk)), fun _ _ => .inl rfl⟩ (fun k hk => ⟨hext.block k (e3 k hk).2.1 (fun h => hnot u o l k ho e1 hk (.inl (by rw [h]))), hni k hk⟩), hni⟩
  have hfr1 : upd O id .gone (σ.setO id none).next = .free := by
    show upd O id .gone σ.next = .free
    rw [upd_ne _ _ _ _ (by omega)]; exact hfr _ (Nat.le_refl _)
  have hsubk : ∀ k ∈ f1 ++ f3, Own (.tre sz rows none) ⟨some b, cap, sz, f1 ++ (f2 ++ f3)⟩ k := fun k hk => .inr (by simp at hk ⊢; rcases hk with h | h <;> simp [h])
  obtain ⟨hb0, hnd0⟩ := List.nodup_cons.1 k7
  obtain ⟨na, nb, nc⟩ := List.nodup_append.1 hnd0
  obtain ⟨nb1, nb2, nb3⟩ := List.nodup_append.1 nb
  have hnd : (f1 ++ f3).Nodup := List.nodup_append.2 ⟨na, nb2, fun x hx y hy => nc x hx y (by simp [hy])⟩
  have hkeep : Keeps w.heap w'.heap Im (f1 ++ f3) := by
    rintro k (hk | hk)
    · exact hext.block k (hown k (hsubk k hk)).2.1 (fun h => hb0 (by rw [← h]; simp at hk ⊢; rcases hk with h | h <;> simp [h]))
    · exact hext.block k (s.imlt k hk) (fun h => hbi (h ▸ hk))
  -- the new object
  have hRf : (V.take i ++ V.drop j).flatten = (c.toList.take (i * sz) ++ (c.toList.take (rows.length * sz)).drop (j * sz)).map .v := by
    rw [List.flatten_append, ← flatten_take (vrows_row _ _ _ hvl), ← flatten_drop (vrows_row _ _ _ hvl), vrows_flat _ _ _ hvl, List.map_append, List.map_take, List.map_take, List.map_drop, List.map_take, List.take_take, Nat.min_eq_left (by omega)]
  have hRl : (V.take i ++ V.drop j).length = (rows.take i ++ rows.drop j).length := by simp [hVn]
  have hfree2 : ∀ (l0 : Loc) u, ((σ.setO id none).new (.tre sz (rows.take i ++ rows.drop j) none)).next ≤ u → upd (upd O id .gone) σ.next (.live l0) u = .free := fun l0 u hu => by
    have hu' : σ.next + 1 ≤ u := hu
    rw [upd_ne _ _ _ _ (by omega), upd_ne _ _ _ _ (by omega)]
    exact hfr u (by omega)
  generalize hRT : (V.take i ++ V.drop j) ++ T = RT at hro'
  cases hro' with
  | an =>
    have h0 : (rows.take i ++ rows.drop j).length = 0 := by
      rw [← hRl, (List.append_eq_nil_iff.1 hRT).1]; rfl
    have h00 : rows.take i ++ rows.drop j = [] := List.eq_nil_of_length_eq_zero h0
    have s3 := s2.adopt (n := σ.next) hfr1 (vo := .tre sz (rows.take i ++ rows.drop j) none) (l := ⟨none, 0, sz, []⟩) (by rw [h00]; exact .tn _ _) (fun k hk => by simp [Own] at hk)
      (σ' := (σ.setO id none).new (.tre sz (rows.take i ++ rows.drop j) none)) rfl (by funext u; rfl)
    refine ⟨v', _, _, _, Im'', rfl, hK, s3, hfree2 _, ?_⟩
    rw [hRl, h0] at hv2
    rw [h0]
    cases hv2 with
    | one _ _ r =>
      cases r with
      | rd _ _ _ _ q => rw [q] at hl'; cases hl'
      | r _ _ _ _ _ _ _ _ q => rw [q] at hl'; cases hl'
      | rn _ _ _ a0 q => exact .one _ _ (.rn _ 0 sz a0 (upd_same _ _ _))
  | arr _ _ _ b' cap' c' e2 fr m1 m2 m3 m4 m5 m6 m7 m8 =>
    obtain rfl := m2 rfl
    subst hRT
    rw [List.flatten_append, hRf] at m7
    have hV := v_inv m7
    have hvl1 : (c.toList.take (i * sz)).length = i * sz := by rw [List.length_take]; omega
    have hvl3 : ((c.toList.take (rows.length * sz)).drop (j * sz)).length = (rows.length - j) * sz := by rw [List.length_drop, List.length_take]; omega
    have hc' : c'.toList = c.toList.take (i * sz) ++ ((c.toList.take (rows.length * sz)).drop (j * sz) ++ c'.toList.drop (c.toList.take (i * sz) ++ (c.toList.take (rows.length * sz)).drop (j * sz)).length) := by
      rw [← List.append_assoc]
      conv => lhs; rw [← List.take_append_drop (c.toList.take (i * sz) ++ (c.toList.take (rows.length * sz)).drop (j * sz)).length c'.toList]
      rw [hV]
    have q1 : RelCs w'.heap Im'' (rows.take i).flatten (c.toList.take (i * sz)) f1 := (r1.takeF (i * sz) (by omega)).keep (fun k h => .inl h) (fun k hk => hkeep k (hk.imp (fun h => by simp [h]) (fun h => h)))
    have q3 : RelCs w'.heap Im'' (rows.drop j).flatten ((c.toList.take (rows.length * sz)).drop (j * sz)) f3 := by
      have := (r3.takeF ((rows.length - j) * sz) (by omega)).keep (h' := w'.heap) (Im' := Im'') (fun k h => .inl h) (fun k hk => hkeep k (hk.imp (fun h => by simp [h]) (fun h => h)))
      rw [List.drop_take, show rows.length * sz - j * sz = (rows.length - j) * sz by rw [Nat.sub_mul]]
      exact this
    have hrel : RelCs w'.heap Im'' (rows.take i ++ rows.drop j).flatten c'.toList (f1 ++ f3) := by
      rw [List.flatten_append, hc']
      refine (q1.longer _).app (by rw [List.length_append]; omega) ?_
      rw [hA.trans hvl1.symm, List.drop_left]
      exact q3.longer _
    obtain ⟨p1, p2, p3⟩ := hown' b' (.inl rfl)
    have hb'n : b' ∉ f1 ++ f3 := fun h => by
      have h2 := (hown b' (hsubk b' h)).2.1
      rcases p3 with h3 | h3
      · obtain rfl : b' = b := h3
        exact hb0 (by simp at h ⊢; rcases h with h | h <;> simp [h])
      · have h3' : w.heap.size ≤ b' := h3; omega
    have hfin : ∀ k, k ∈ b' :: (f1 ++ f3) → ¬ Im'' k ∧ k < w'.heap.size ∧ (X.own k ∨ X.w0.heap.size ≤ k) ∧ ∀ u o l', (σ.setO id none).objs u = some o → upd O id .gone u = .live l' → ¬ Own o l' k := by
      intro k hk
      rcases List.mem_cons.1 hk with rfl | hk
      · refine ⟨?_, p2, ?_, fun u o l' ho hlu hOw => ?_⟩
        · rintro (h | ⟨h, _⟩)
          · exact p1 (s'.im0 k h)
          · exact p1 h
        · rcases p3 with h3 | h3
          · obtain rfl : k = b := h3
            exact hbx
          · exact .inr (Nat.le_trans s.ext.size h3)
        · rcases p3 with h3 | h3
          · obtain rfl : k = b := h3
            exact hnot u o l' k ho hlu hOw (.inl rfl)
          · obtain ⟨e1, e2'⟩ := hobj1 u o ho
            rw [upd_ne _ _ _ _ e1] at hlu
            have := (s.ownblk e2' hlu hOw).2.1
            have h3' : w.heap.size ≤ k := h3
            omega
      · obtain ⟨g1', g2', g3'⟩ := hown k (hsubk k hk)
        refine ⟨?_, Nat.lt_of_lt_of_le g2' hext.size, g3', fun u o l' ho hlu hOw => hnot u o l' k ho hlu hOw (hsubk k hk)⟩
        rintro (h | ⟨_, h⟩)
        · exact g1' h
        · omega
    have hrl : (rows.take i ++ rows.drop j).length ≤ cap' := by
      rw [← hRl]; simp only [List.length_append] at m4 ⊢; omega
    have s3 := s2.adopt (n := σ.next) hfr1 (vo := .tre sz (rows.take i ++ rows.drop j) none) (l := ⟨some b', cap', sz, f1 ++ f3⟩)
      (.tre sz _ none b' cap' c' e2 _ m1 (fun r hr => by
        rcases List.mem_append.1 hr with h | h
        · exact k2 r (List.mem_of_mem_take h)
        · exact k2 r (List.mem_of_mem_drop h)) hrl m5 m6 (hfin b' (by simp)).1 (List.nodup_cons.2 ⟨hb'n, hnd⟩) hrel trivial)
      (fun k hk => hfin k (by
        rcases hk with h | h
        · simp only [Option.some.injEq] at h; simp [h]
        · exact List.mem_cons_of_mem _ h))
      (σ' := (σ.setO id none).new (.tre sz (rows.take i ++ rows.drop j) none)) rfl (by funext u; rfl)
    refine ⟨v', _, _, _, Im'', rfl, hK, s3, hfree2 _, ?_⟩
    rw [hRl] at hv2
    generalize (rows.take i ++ rows.drop j).length = L at hv2 ⊢
    cases hv2 with
    | one _ _ r =>
      cases r with
      | rd _ _ _ _ q => rw [q] at hl'; cases hl'
      | r _ _ _ b2 cap2 sz2 ad cc q1' q2' q3' q4' => rw [q1'] at hl'; cases hl'; exact .one _ _ (.r _ 0 _ b' cap' sz ad cc (upd_same _ _ _) q2' q3' q4')
      | rn _ _ _ a0 q => rw [q] at hl'; cases hl'
theorem delete_callFT {f sz id n : Nat} {α : Type} {enc : α → List D} (l : List α) {v : List α} {i j : Int} {K : St → SV → Prop} (h : DelOk P f sz) (hv : deleteF l i j = some v)
    (h1 : σ.obj id = some (.tre sz (l.map enc) none)) (hn : n = l.length) (hK : K ((σ.setO id none).new (.tre sz (v.map enc) none)) (.one (.r σ.next 0 v.length))) :
    CallV P G f [.one (.r id 0 n), .one (.d (.i .i64 i)), .one (.d (.i .i64 j))] σ K := by
  subst hn
  obtain ⟨b, z, ds, hl, hk, hz, hds⟩ := h
  unfold deleteF at hv
  split at hv
  · rename_i hc
    obtain rfl := Option.some.inj hv
    obtain ⟨c1, c2, c3⟩ := hc
    have e1 : i = (i.toNat : Int) := (Int.toNat_of_nonneg c1).symm
    have e2 : j = (j.toNat : Int) := (Int.toNat_of_nonneg (by omega)).symm
    generalize i.toNat = i' at *
    generalize j.toNat = j' at *
    subst e1 e2
    have em : (l.take i' ++ l.drop j').map enc = (l.map enc).take i' ++ (l.map enc).drop j' := by simp
    have := delete_callT (G := G) (K := K) hl hk hz hds h1 (i := i') (j := j') (by omega) (by simp; omega) (by rw [← em, List.length_map]; exact hK)
    rw [List.length_map] at this
    exact this
  · cases hv
end
end Go.V
