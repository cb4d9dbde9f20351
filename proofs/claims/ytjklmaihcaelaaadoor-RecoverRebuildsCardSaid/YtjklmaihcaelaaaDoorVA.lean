/- How the machine's memory is read as plain trees, and what each operation does to them; no condition. -/
import Derived.Laws.AppendOwn
import Derived.Laws.MakeOwn
import Derived.Deep.MidRow
import Derived.WalkKit
import Derived.Below
import Derived.KernelRfl
import Derived.Lib.UnsafeStr
import Derived.Laws.BytesArg
set_option linter.unusedVariables false
set_option linter.unusedSimpArgs false
namespace Go.V
open Go
inductive D where
 | i (k : IntKind) (n : Int)
 | b (v : Bool)
 | s (v : ByteArray)
 | np
 | nf
 | l (sz : Nat) (rows : List (List D))
 | o (sz : Nat) (rows : List (List D))
 | x (cells : List D)
 | k (cells : List D)
 | f (fn : FuncId) (caps : List D)
 | t (sz : Nat) (rows : List (List D))
 | w
 | v (x : Value)
 deriving Inhabited

def D.flat : D → Bool
 | .o .. | .x .. | .t .. => false
 | _ => true

mutual
inductive RelD (h : Array Obj) (Im : Nat → Prop) : D → Value → List Nat → Prop
 | i (k n) : RelD h Im (.i k n) (.int k n) []
 | b (v) : RelD h Im (.b v) (.bool v) []
 | s (v) : RelD h Im (.s v) (.string v) []
 | np : RelD h Im .np (.pointer none) []
 | nf : RelD h Im .nf .nilFunc []
 | l0 (sz a cap) : RelD h Im (.l sz []) (.slice a 0 cap) []
 | l (sz rows b off cap c e fr) : Im b → h[b]? = some (.cells c e fr) → (∀ r ∈ rows, r.length = sz) → rows.length ≤ maxLen ∧ rows.length ≤ cap →
  RelCs h Im rows.flatten (c.toList.drop off) [] → RelD h Im (.l sz rows) (.slice (some ⟨b, off, none⟩) rows.length cap) []
 | o0 (sz a) : RelD h Im (.o sz []) (.slice a 0 0) []
 | o (sz rows b cap a sc c e) : h[b]? = some (.cells c e (0, 0)) → (∀ r ∈ rows, r.length = sz) → rows.length ≤ sc → sc ≤ cap → cap ≤ maxLen → c.size = cap * sz → (a = ⟨b, 0, none⟩ ∨ sc = 0) →
  RelCs h Im rows.flatten c.toList [] → RelD h Im (.o sz rows) (.slice (some a) rows.length sc) [b]
 | x (cells b c e fp) : h[b]? = some (.cells c e (0, 0)) → c.size = cells.length → RelCs h Im cells c.toList fp →
  RelD h Im (.x cells) (.pointer (some ⟨b, 0, none⟩)) (b :: fp)
 | k (cells b c e fr) : Im b → h[b]? = some (.cells c e fr) → RelCs h Im cells c.toList [] →
  RelD h Im (.k cells) (.pointer (some ⟨b, 0, none⟩)) []
 | f (fn caps cv) : cv.size = caps.length → RelCs h Im caps cv.toList [] → RelD h Im (.f fn caps) (.func (.func fn) #[] cv) []
 | t0 (sz a) : RelD h Im (.t sz []) (.slice a 0 0) []
 | t (sz rows b cap a sc c e fp) : h[b]? = some (.cells c e (0, 0)) → (∀ r ∈ rows, r.length = sz) → rows.length ≤ sc → sc ≤ cap → cap ≤ maxLen → c.size = cap * sz → (a = ⟨b, 0, none⟩ ∨ sc = 0) →
  RelCs h Im rows.flatten c.toList fp → RelD h Im (.t sz rows) (.slice (some a) rows.length sc) (b :: fp)
 | w (v) : v.oneCell' = true → RelD h Im .w v []
 | v (x) : x.oneCell' = true → RelD h Im (.v x) x []
inductive RelCs (h : Array Obj) (Im : Nat → Prop) : List D → List Value → List Nat → Prop
 | nil (vs) : RelCs h Im [] vs []
 | cons (d v f ds vs fs) : RelD h Im d v f → RelCs h Im ds vs fs → RelCs h Im (d :: ds) (v :: vs) (f ++ fs)
end

def Keeps (h h' : Array Obj) (Im : Nat → Prop) (fp : List Nat) : Prop := ∀ b, b ∈ fp ∨ Im b → h'[b]? = h[b]?

mutual
theorem RelD.keep {h h' : Array Obj} {Im Im' : Nat → Prop} (hi : ∀ b, Im b → Im' b) : ∀ {d v fp}, RelD h Im d v fp → Keeps h h' Im fp → RelD h' Im' d v fp
 | _, _, _, .i k n, _ => .i k n
 | _, _, _, .b v, _ => .b v
 | _, _, _, .s v, _ => .s v
 | _, _, _, .np, _ => .np
 | _, _, _, .nf, _ => .nf
 | _, _, _, .l0 sz a cap, _ => .l0 sz a cap
 | _, _, _, .l sz rows b off cap c e fr him hb hu hm hc, hk =>
  .l sz rows b off cap c e fr (hi b him) (by rw [hk b (.inr him)]; exact hb) hu hm (RelCs.keep hi hc (fun x hx => hk x (hx.imp (fun q => by cases q) id)))
 | _, _, _, .o0 sz a, _ => .o0 sz a
 | _, _, _, .o sz rows b cap a sc c e hb hu hl hl2 hm hs ha hc, hk =>
  .o sz rows b cap a sc c e (by rw [hk b (.inl (by simp))]; exact hb) hu hl hl2 hm hs ha (RelCs.keep hi hc (fun x hx => hk x (hx.imp (fun q => by cases q) id)))
 | _, _, _, .x cells b c e fp hb hs hc, hk =>
  .x cells b c e fp (by rw [hk b (.inl (by simp))]; exact hb) hs (RelCs.keep hi hc (fun x hx => hk x (hx.imp (fun q => List.mem_cons_of_mem _ q) id)))
 | _, _, _, .k cells b c e fr him hb hc, hk =>
  .k cells b c e fr (hi b him) (by rw [hk b (.inr him)]; exact hb) (RelCs.keep hi hc (fun x hx => hk x (hx.imp (fun q => by cases q) id)))
 | _, _, _, .t0 sz a, _ => .t0 sz a
 | _, _, _, .t sz rows b cap a sc c e fp hb hu hl hl2 hm hs ha hc, hk =>
  .t sz rows b cap a sc c e fp (by rw [hk b (.inl (by simp))]; exact hb) hu hl hl2 hm hs ha (RelCs.keep hi hc (fun x hx => hk x (hx.imp (fun q => List.mem_cons_of_mem _ q) id)))
 | _, _, _, .w v h, _ => .w v h
 | _, _, _, .v x h, _ => .v x h
 | _, _, _, .f fn caps cv hs hc, hk => .f fn caps cv hs (RelCs.keep hi hc (fun x hx => hk x (hx.imp (fun q => by cases q) id)))
theorem RelCs.keep {h h' : Array Obj} {Im Im' : Nat → Prop} (hi : ∀ b, Im b → Im' b) : ∀ {ds vs fp}, RelCs h Im ds vs fp → Keeps h h' Im fp → RelCs h' Im' ds vs fp
 | _, _, _, .nil vs, _ => .nil vs
 | _, _, _, .cons d v f ds vs fs hd hc, hk =>
  .cons d v f ds vs fs (RelD.keep hi hd (fun x hx => hk x (hx.imp (fun q => List.mem_append_left _ q) id))) (RelCs.keep hi hc (fun x hx => hk x (hx.imp (fun q => List.mem_append_right _ q) id)))
end

theorem RelD.one {h : Array Obj} {Im : Nat → Prop} {d : D} {v : Value} {fp : List Nat} (r : RelD h Im d v fp) : v.cells = #[v] ∧ v.oneCell' = true := by
 cases r with
 | w v h => exact ⟨by cases v <;> simp [Value.oneCell'] at h <;> rfl, h⟩
 | v v h => exact ⟨by cases v <;> simp [Value.oneCell'] at h <;> rfl, h⟩
 | _ => exact ⟨rfl, rfl⟩
theorem RelD.flat {h : Array Obj} {Im : Nat → Prop} {d : D} {v : Value} {fp : List Nat} (r : RelD h Im d v fp) (hf : d.flat = true) : fp = [] := by
 cases r <;> first | rfl | (simp [D.flat] at hf)

/-! ### Lists of cells -/
theorem RelCs.at_ {h : Array Obj} {Im : Nat → Prop} : ∀ {ds : List D} {vs : List Value}, RelCs h Im ds vs [] → ∀ (j : Nat) (d : D), ds[j]? = some d → ∃ v, vs[j]? = some v ∧ RelD h Im d v []
 | [], _, _, j, d, hd => by simp at hd
 | d0 :: ds, vs, hr, j, d, hd => by
  generalize hfp : ([] : List Nat) = fp at hr
  cases hr with
  | cons _ v f _ vs' fs h1 h2 =>
   obtain ⟨rfl, rfl⟩ : f = [] ∧ fs = [] := by simpa using hfp.symm
   cases j with
   | zero => simp at hd; subst hd; exact ⟨v, by simp, h1⟩
   | succ j => simp at hd ⊢; exact RelCs.at_ h2 j d hd
theorem RelCs.at_flat {h : Array Obj} {Im : Nat → Prop} : ∀ {ds : List D} {vs : List Value} {fp : List Nat}, RelCs h Im ds vs fp → ∀ (j : Nat) (d : D), ds[j]? = some d → d.flat = true → ∃ v, vs[j]? = some v ∧ RelD h Im d v []
 | [], _, _, _, j, d, hd, _ => by simp at hd
 | d0 :: ds, _, _, .cons _ v f _ vs' fs h1 h2, j, d, hd, hf => by
  cases j with
  | zero => simp at hd; subst hd; have := h1.flat hf; subst this; exact ⟨v, by simp, h1⟩
  | succ j => simp at hd ⊢; exact RelCs.at_flat h2 j d hd hf
theorem RelCs.len {h : Array Obj} {Im : Nat → Prop} : ∀ {ds : List D} {vs : List Value} {fp}, RelCs h Im ds vs fp → ds.length ≤ vs.length
 | [], _, _, _ => by simp
 | _ :: _, _, _, .cons _ _ _ _ _ _ _ h2 => by have := RelCs.len h2; simp; omega
theorem RelCs.of_at {h : Array Obj} {Im : Nat → Prop} : ∀ (ds : List D) (vs : List Value), (∀ (j : Nat) (d : D), ds[j]? = some d → ∃ v, vs[j]? = some v ∧ RelD h Im d v []) → RelCs h Im ds vs []
 | [], vs, _ => .nil vs
 | d :: ds, [], hh => by obtain ⟨v, hv, _⟩ := hh 0 d (by simp); simp at hv
 | d :: ds, v :: vs, hh => by
  obtain ⟨v', hv, hr⟩ := hh 0 d (by simp)
  simp at hv; subst hv
  exact .cons d v [] ds vs [] hr (RelCs.of_at ds vs (fun j d' hd => by simpa using hh (j + 1) d' (by simpa using hd)))

theorem RelCs.drop {h : Array Obj} {Im : Nat → Prop} {ds : List D} {vs : List Value} (hr : RelCs h Im ds vs []) (n : Nat) : RelCs h Im (ds.drop n) (vs.drop n) [] :=
 RelCs.of_at _ _ fun j d hd => by
  simp only [List.getElem?_drop] at hd ⊢
  exact hr.at_ _ _ hd
theorem RelCs.take {h : Array Obj} {Im : Nat → Prop} {ds : List D} {vs : List Value} (hr : RelCs h Im ds vs []) (n : Nat) : RelCs h Im (ds.take n) vs [] :=
 RelCs.of_at _ _ fun j d hd => by
  rw [List.getElem?_take] at hd
  split at hd
  ·exact hr.at_ _ _ hd
  ·cases hd
theorem RelCs.take2 {h : Array Obj} {Im : Nat → Prop} {ds : List D} {vs : List Value} (hr : RelCs h Im ds vs []) (n : Nat) (hn : ds.length ≤ n) : RelCs h Im ds (vs.take n) [] :=
 RelCs.of_at _ _ fun j d hd => by
  obtain ⟨v, hv, r⟩ := hr.at_ _ _ hd
  have := (List.getElem?_eq_some_iff.1 hd).1
  exact ⟨v, by rw [List.getElem?_take, if_pos (by omega)]; exact hv, r⟩

/-! ### Rows of one width -/
theorem wa {α : Type} {sz : Nat} : ∀ {rows : List (List α)}, (∀ r ∈ rows, r.length = sz) → rows.flatten.length = rows.length * sz
 | [], _ => by simp
 | r :: rs, hu => by
  have h1 := hu r (by simp)
  have h2 := wa (rows := rs) (fun q hq => hu q (by simp [hq]))
  simp only [List.flatten_cons, List.length_append, List.length_cons, h1, h2]
  rw [Nat.add_mul]; omega
theorem flatten_getElem? {α : Type} {sz : Nat} : ∀ {rows : List (List α)}, (∀ r ∈ rows, r.length = sz) → ∀ (i j : Nat), j < sz → rows.flatten[i * sz + j]? = (rows[i]?).bind (·[j]?)
 | [], _, i, j, _ => by simp
 | r :: rs, hu, i, j, hj => by
  have h1 := hu r (by simp)
  have h2 := flatten_getElem? (rows := rs) (fun q hq => hu q (by simp [hq]))
  cases i with
  | zero => simp only [Nat.zero_mul, Nat.zero_add, List.flatten_cons, List.getElem?_cons_zero, Option.bind_some]; rw [List.getElem?_append_left (by omega)]
  | succ i =>
   simp only [List.flatten_cons, List.getElem?_cons_succ]
   rw [List.getElem?_append_right (by rw [h1, Nat.add_mul]; omega), ← h2 i j hj]
   congr 1
   rw [h1, Nat.add_mul]; omega
theorem xx {α : Type} {sz : Nat} : ∀ {rows : List (List α)}, (∀ r ∈ rows, r.length = sz) → ∀ n, rows.flatten.drop (n * sz) = (rows.drop n).flatten
 | [], _, n => by simp
 | r :: rs, hu, 0 => by simp
 | r :: rs, hu, n + 1 => by
  have h1 := hu r (by simp)
  rw [List.drop_succ_cons, ← xx (rows := rs) (fun q hq => hu q (by simp [hq])) n, List.flatten_cons, List.drop_append, Nat.add_mul]
  rw [List.drop_eq_nil_of_le (by omega), List.nil_append]
  congr 1; omega
theorem xp {α : Type} {sz : Nat} : ∀ {rows : List (List α)}, (∀ r ∈ rows, r.length = sz) → ∀ n, rows.flatten.take (n * sz) = (rows.take n).flatten
 | [], _, n => by simp
 | r :: rs, hu, 0 => by simp
 | r :: rs, hu, n + 1 => by
  have h1 := hu r (by simp)
  have ih := xp (rows := rs) (fun q hq => hu q (by simp [hq])) n
  rw [List.take_succ_cons, List.flatten_cons, List.flatten_cons, ← ih, List.take_append, Nat.add_mul]
  rw [List.take_of_length_le (by omega)]
  congr 2; omega
inductive Ptr where
 | q (id i j : Nat)
 | l (sz : Nat) (rows : List (List D)) (i j : Nat)
 deriving Inhabited
inductive SC where
 | d (d : D)
 | nl (sz : Nat)
 | r (id off len : Nat)
 | p (x : Ptr)
 | c (fn : FuncId) (caps : List Ptr)
 | dead
 /-- A part of one's own whose room is known. -/
 | rc (id off len cp : Nat)
 deriving Inhabited
inductive SV where
 | one (c : SC)
 | agg (cs : List SC)
 | tup (vs : List SV)
 | dead
 | und
 deriving Inhabited
inductive VO where
 | arr (sz : Nat) (rows : List (List D)) (fz : Bool)
 | box (cells : List SC)
 /-- A row of one's own whose elements own memory, too; one of them may be looked into. -/
 | tre (sz : Nat) (rows : List (List D)) (foc : Option (Nat × List SC))
 /-- A strings.Builder, of type T, that holds l; e: the type of a byte. -/
 | bld (T e : TypeId) (l : List UInt8)
 deriving Inhabited
structure St where
 slots : Nat → SV
 objs : Nat → Option VO
 next : Nat

def St.get (σ : St) (t : Nat) : SV := σ.slots t
def St.obj (σ : St) (u : Nat) : Option VO := σ.objs u
def St.put (σ : St) (t : Nat) (v : SV) : St := { σ with slots := fun u => if u = t then v else σ.slots u }
def St.new (σ : St) (o : VO) : St := { σ with objs := fun u => if u = σ.next then some o else σ.objs u, next := σ.next + 1 }
def St.setO (σ : St) (id : Nat) (o : Option VO) : St := { σ with objs := fun u => if u = id then o else σ.objs u }

def SC.ur : SC → SC
 | .rc id off len _ => .r id off len
 | .d q => .d q
 | .nl sz => .nl sz
 | .r id off len => .r id off len
 | .p q => .p q
 | .c fn caps => .c fn caps
 | .dead => .dead
def SV.ur : SV → SV
 | .one q => .one q.ur
 | .agg cs => .agg cs
 | .tup vs => .tup vs
 | .dead => .dead
 | .und => .und

structure Loc where
 blk : Option Nat
 cap : Nat
 sz : Nat
 /-- The blocks that its elements have for themselves. -/
 sub : List Nat
inductive LS where
 | free
 | live (l : Loc)
 | gone

inductive RelP (h : Array Obj) (Im : Nat → Prop) (O : Nat → LS) : Ptr → Value → Prop
 | qd (id i j v) : O id = .gone → v.oneCell' = true → RelP h Im O (.q id i j) v
 | q (id i j b cap sz) {sub : List Nat} : O id = .live ⟨some b, cap, sz, sub⟩ → RelP h Im O (.q id i j) (.pointer (some ⟨b, i * sz + j, none⟩))
 | l (sz rows i j b off c e fr) : Im b → h[b]? = some (.cells c e fr) → (∀ r ∈ rows, r.length = sz) → RelCs h Im rows.flatten (c.toList.drop off) [] →
  RelP h Im O (.l sz rows i j) (.pointer (some ⟨b, off + (i * sz + j), none⟩))
inductive RelC (h : Array Obj) (Im : Nat → Prop) (O : Nat → LS) : SC → Value → Prop
 | d (d v) : RelD h Im d v [] → RelC h Im O (.d d) v
 | nl (sz a) : RelC h Im O (.nl sz) (.slice a 0 0)
 | rd (id off len v) : O id = .gone → v.oneCell' = true → RelC h Im O (.r id off len) v
 | r (id off len b cap sz a c) {sub : List Nat} : O id = .live ⟨some b, cap, sz, sub⟩ → len ≤ c → off + c ≤ cap → (a = ⟨b, off * sz, none⟩ ∨ c = 0) →
  RelC h Im O (.r id off len) (.slice (some a) len c)
 | rn (id cap sz a) : O id = .live ⟨none, cap, sz, []⟩ → RelC h Im O (.r id 0 0) (.slice a 0 0)
 | p (x v) : RelP h Im O x v → RelC h Im O (.p x) v
 | c (fn caps cv) : cv.size = caps.length → (∀ (j : Nat) (x : Ptr), caps[j]? = some x → ∃ v, cv[j]? = some v ∧ RelP h Im O x v) → RelC h Im O (.c fn caps) (.func (.func fn) #[] cv)
 | dead (v) : v.oneCell' = true → RelC h Im O .dead v
 | rcd (id off len cp v) : O id = .gone → v.oneCell' = true → RelC h Im O (.rc id off len cp) v
 | rc (id off len cp b cap sz a) {sub : List Nat} : O id = .live ⟨some b, cap, sz, sub⟩ → len ≤ cp → off + cp ≤ cap → (a = ⟨b, off * sz, none⟩ ∨ cp = 0) →
  RelC h Im O (.rc id off len cp) (.slice (some a) len cp)
 | rcn (id cap sz a) : O id = .live ⟨none, cap, sz, []⟩ → RelC h Im O (.rc id 0 0 0) (.slice a 0 0)
inductive RelCl (h : Array Obj) (Im : Nat → Prop) (O : Nat → LS) : List SC → List Value → Prop
 | nil : RelCl h Im O [] []
 | cons (c v cs vs) : RelC h Im O c v → RelCl h Im O cs vs → RelCl h Im O (c :: cs) (v :: vs)
mutual
inductive RelV (h : Array Obj) (Im : Nat → Prop) (O : Nat → LS) : SV → Value → Prop
 | one (c v) : RelC h Im O c v → RelV h Im O (.one c) v
 | agg (cs cv) : RelCl h Im O cs cv.toList → RelV h Im O (.agg cs) (.agg cv)
 | tup (vs tv) : RelVs h Im O vs tv.toList → RelV h Im O (.tup vs) (.tuple tv)
 | dead (v) : RelV h Im O .dead v
 | und : RelV h Im O .und undef
inductive RelVs (h : Array Obj) (Im : Nat → Prop) (O : Nat → LS) : List SV → List Value → Prop
 | nil : RelVs h Im O [] []
 | cons (x v xs vs) : RelV h Im O x v → RelVs h Im O xs vs → RelVs h Im O (x :: xs) (v :: vs)
end

def holeR (sz : Nat) (rows : List (List D)) : Option (Nat × List SC) → List (List D)
 | none => rows
 | some (i, _) => rows.set i (List.replicate sz .w)
def FocR (h : Array Obj) (Im : Nat → Prop) (O : Nat → LS) (sz : Nat) (rows : List (List D)) : Option (Nat × List SC) → List Value → Prop
 | none, _ => True
 | some (i, cs), vs => i < rows.length ∧ RelCl h Im O cs ((vs.drop (i * sz)).take sz)
def BufAt (e : TypeId) (h : Array Obj) (v : Value) (sub : List Nat) (l : List UInt8) : Prop :=
 (v = .slice none 0 0 ∧ l = [] ∧ sub = []) ∨ ∃ g cap cur fz, v = .slice (some ⟨g, 0, none⟩) l.length cap ∧ sub = [g] ∧ l ≠ [] ∧ h[g]? = some (.cells cur e fz) ∧ fz.2 ≤ l.length ∧ l.length ≤ cap ∧ cap ≤ maxLen ∧ cur.size = cap ∧ cur.toList.take l.length = Lib.byteCells l
def BldAt (T e : TypeId) (h : Array Obj) (b : Nat) (sub : List Nat) (l : List UInt8) : Prop :=
 ∃ p v, (p = .pointer none ∨ p = .pointer (some ⟨b, 0, none⟩)) ∧ h[b]? = some (.cells #[p, v] T (0, 0)) ∧ b ∉ sub ∧ BufAt e h v sub l
inductive RelO (h : Array Obj) (Im : Nat → Prop) (O : Nat → LS) : VO → Loc → Prop
 | an (sz cap fz) : RelO h Im O (.arr sz [] fz) ⟨none, cap, sz, []⟩
 | arr (sz rows fz b cap c e fr) : h[b]? = some (.cells c e fr) → (fz = false → fr = (0, 0)) → (∀ r ∈ rows, r.length = sz) → rows.length ≤ cap → cap ≤ maxLen → c.size = cap * sz →
  RelCs h Im rows.flatten c.toList [] → (fz = true ↔ Im b) → RelO h Im O (.arr sz rows fz) ⟨some b, cap, sz, []⟩
 | tn (sz cap) : RelO h Im O (.tre sz [] none) ⟨none, cap, sz, []⟩
 | tre (sz rows foc b cap c e sub) : h[b]? = some (.cells c e (0, 0)) → (∀ r ∈ rows, r.length = sz) → rows.length ≤ cap → cap ≤ maxLen → c.size = cap * sz → ¬ Im b → (b :: sub).Nodup →
  RelCs h Im (holeR sz rows foc).flatten c.toList sub → FocR h Im O sz rows foc c.toList → RelO h Im O (.tre sz rows foc) ⟨some b, cap, sz, sub⟩
 | box (cells b c e) : h[b]? = some (.cells c e (0, 0)) → RelCl h Im O cells c.toList → ¬ Im b → RelO h Im O (.box cells) ⟨some b, 1, cells.length, []⟩
 | bld (T e l b sub) : BldAt T e h b sub l → ¬ Im b → (∀ g ∈ sub, ¬ Im g) → (b :: sub).Nodup → RelO h Im O (.bld T e l) ⟨some b, 1, 2, sub⟩

structure Ext (F : Nat → Prop) (w w' : World) : Prop where
 os : w'.os = w.os
 tape : w'.tape = w.tape
 output : w'.output = w.output
 size : w.heap.size ≤ w'.heap.size
 block : ∀ b, b < w.heap.size → ¬ F b → w'.heap[b]? = w.heap[b]?
theorem Ext.refl (F : Nat → Prop) (w : World) : Ext F w w := ⟨rfl, rfl, rfl, Nat.le_refl _, fun _ _ _ => rfl⟩
structure Ctx where
 w0 : World
 own : Nat → Prop
 im : Nat → Prop
 /-- What rides along beyond all slots: a caller's slots. -/
 gh : Nat → Value := fun _ => undef
def tmAt (gh : Nat → Value) (tm : Array Value) (t : Nat) : Value := tm.getD t (if t < 1000000 then undef else gh (t - 1000000))
theorem y1z (gh : Nat → Value) (tm : Array Value) {t : Nat} (h : t < 1000000) : tmAt gh tm t = tm.getD t undef := by simp [tmAt, h]
theorem x1z (gh : Nat → Value) (tm : Array Value) {t : Nat} (h : t < tm.size) : tmAt gh tm t = tm.getD t undef := by simp [tmAt, Array.getD, h]

def Own (o : VO) (l : Loc) (b : Nat) : Prop := match o with
 | .arr _ _ true => False
 | _ => l.blk = some b ∨ b ∈ l.sub

def GlobR (h : Array Obj) (Im : Nat → Prop) (g : Nat) (cells : List D) : Prop := RelD h Im (.k cells) (.pointer (some ⟨g, 0, none⟩)) [] ∧ ∃ c e fr, h[g]? = some (.cells c e fr) ∧ c.size = cells.length
theorem GlobR.keep {h h' : Array Obj} {Im Im' : Nat → Prop} {g : Nat} {cells : List D} (r : GlobR h Im g cells) (hi : ∀ b, Im b → Im' b) (hk : Keeps h h' Im []) : GlobR h' Im' g cells := by
 obtain ⟨r1, c, e, fr, h1, h2⟩ := r
 refine ⟨r1.keep hi hk, c, e, fr, ?_, h2⟩
 cases r1 with | k _ _ _ _ _ him => rw [hk g (.inr him)]; exact h1
structure SimW (G : Nat → Option (List D)) (X : Ctx) (σ : St) (tm : Array Value) (w : World) (O : Nat → LS) (Im : Nat → Prop) : Prop where
 ext : Ext X.own X.w0 w
 ownlt : ∀ b, X.own b → b < X.w0.heap.size
 imlt : ∀ b, Im b → b < w.heap.size
 im0 : ∀ b, X.im b → Im b
 im1 : ∀ b, Im b → X.im b ∨ X.own b ∨ X.w0.heap.size ≤ b
 dead : ∀ u, σ.objs u = none → ∀ l, O u ≠ .live l
 obj : ∀ u o, σ.objs u = some o → ∃ l, O u = .live l ∧ RelO w.heap Im O o l ∧ ∀ b, Own o l b → ¬ Im b ∧ b < w.heap.size ∧ (X.own b ∨ X.w0.heap.size ≤ b)
 disj : ∀ u u' o o' l l' b, u ≠ u' → σ.objs u = some o → σ.objs u' = some o' → O u = .live l → O u' = .live l' → Own o l b → ¬ Own o' l' b
 slot : ∀ t, RelV w.heap Im O (σ.slots t) (tmAt X.gh tm t)
 glob : ∀ g cells, G g = some cells → GlobR w.heap Im g cells

/-! ### Small laws -/
theorem RelP.one {h Im O} {x : Ptr} {v : Value} (r : RelP h Im O x v) : v.oneCell' = true := by cases r <;> first | assumption | rfl
theorem RelC.one {h Im O} {x : SC} {v : Value} (r : RelC h Im O x v) : v.oneCell' = true := by
 cases r with
 | d _ _ r => exact r.one.2
 | p _ _ r => exact r.one
 | _ => first | assumption | rfl
theorem v2i {v : Value} (h : v.oneCell' = true) : v.cells = #[v] := by cases v <;> simp [Value.oneCell'] at h <;> rfl
theorem RelC.ur {h Im O} {x : SC} {v : Value} (r : RelC h Im O x v) : RelC h Im O x.ur v := by
 cases r with
 | rcd id off len cp v h1 h2 => exact .rd id off len v h1 h2
 | rc id off len cp b cap sz a h1 h2 h3 h4 => exact .r id off len b cap sz a cp h1 h2 h3 h4
 | rcn id cap sz a h1 => exact .rn id cap sz a h1
 | d d v q => exact .d d v q
 | nl sz a => exact .nl sz a
 | rd id off len v h1 h2 => exact .rd id off len v h1 h2
 | r id off len b cap sz a c h1 h2 h3 h4 => exact .r id off len b cap sz a c h1 h2 h3 h4
 | rn id cap sz a h1 => exact .rn id cap sz a h1
 | p x v q => exact .p x v q
 | c fn caps cv h1 h2 => exact .c fn caps cv h1 h2
 | dead v h => exact .dead v h
theorem RelV.ur {h Im O} {x : SV} {v : Value} (r : RelV h Im O x v) : RelV h Im O x.ur v := by
 cases r with
 | one c v q => exact .one _ _ q.ur
 | agg cs cv q => exact .agg cs cv q
 | tup vs tv q => exact .tup vs tv q
 | dead v => exact .dead v
 | und => exact .und
theorem RelCl.len {h Im O} : ∀ {cs : List SC} {vs : List Value}, RelCl h Im O cs vs → cs.length = vs.length
 | _, _, .nil => rfl
 | _, _, .cons _ _ _ _ _ r => by simp [r.len]
theorem RelCl.one {h Im O} : ∀ {cs : List SC} {vs : List Value}, RelCl h Im O cs vs → ∀ v ∈ vs, v.oneCell' = true
 | _, _, .nil, v, hv => by simp at hv
 | _, _, .cons _ _ _ _ r rs, v, hv => by
  rcases List.mem_cons.1 hv with rfl | hv
  ·exact r.one
  ·exact rs.one v hv
theorem RelCl.at_ {h Im O} : ∀ {cs : List SC} {vs : List Value}, RelCl h Im O cs vs → ∀ (j : Nat) (c : SC), cs[j]? = some c → ∃ v, vs[j]? = some v ∧ RelC h Im O c v
 | _, _, .nil, j, c, hc => by simp at hc
 | _, _, .cons _ v _ _ r rs, 0, c, hc => by simp at hc; subst hc; exact ⟨v, by simp, r⟩
 | _, _, .cons _ _ _ _ _ rs, j + 1, c, hc => by simp at hc ⊢; exact rs.at_ j c hc
theorem RelCl.of_at {h Im O} : ∀ (cs : List SC) (vs : List Value), cs.length = vs.length → (∀ (j : Nat) (c : SC), cs[j]? = some c → ∃ v, vs[j]? = some v ∧ RelC h Im O c v) → RelCl h Im O cs vs
 | [], [], _, _ => .nil
 | [], _ :: _, e, _ => by simp at e
 | _ :: _, [], e, _ => by simp at e
 | c :: cs, v :: vs, e, hh => by
  obtain ⟨v', hv, r⟩ := hh 0 c (by simp)
  simp at hv; subst hv
  exact .cons c v cs vs r (RelCl.of_at cs vs (by simpa using e) fun j c' hc => by simpa using hh (j + 1) c' (by simpa using hc))
theorem RelCl.append {h Im O} : ∀ {cs ds : List SC} {vs us : List Value}, RelCl h Im O cs vs → RelCl h Im O ds us → RelCl h Im O (cs ++ ds) (vs ++ us)
 | _, _, _, _, .nil, r => r
 | _, _, _, _, .cons c v cs vs r rs, q => .cons c v _ _ r (rs.append q)
theorem RelCl.take {h Im O} {cs : List SC} {vs : List Value} (r : RelCl h Im O cs vs) (n : Nat) : RelCl h Im O (cs.take n) (vs.take n) :=
 RelCl.of_at _ _ (by simp [r.len]) fun j c hc => by
  rw [List.getElem?_take] at hc ⊢
  split at hc
  ·rw [if_pos ‹_›]; exact r.at_ j c hc
  ·cases hc
theorem RelCl.drop {h Im O} {cs : List SC} {vs : List Value} (r : RelCl h Im O cs vs) (n : Nat) : RelCl h Im O (cs.drop n) (vs.drop n) :=
 RelCl.of_at _ _ (by simp [r.len]) fun j c hc => by
  simp only [List.getElem?_drop] at hc ⊢
  exact r.at_ _ c hc
theorem RelCs.cl {h : Array Obj} {Im : Nat → Prop} {O : Nat → LS} : ∀ {ds : List D} {vs : List Value}, RelCs h Im ds vs [] → RelCl h Im O (ds.map .d) (vs.take ds.length)
 | ds, vs, r => RelCl.of_at _ _ (by have := r.len; simp; omega) fun j c hc => by
  simp only [List.getElem?_map, Option.map_eq_some_iff] at hc
  obtain ⟨d, hd, rfl⟩ := hc
  obtain ⟨v, hv, hr⟩ := r.at_ j d hd
  have := (List.getElem?_eq_some_iff.1 hd).1
  exact ⟨v, by rw [List.getElem?_take, if_pos this]; exact hv, .d _ _ hr⟩

structure Moves (h h' : Array Obj) (Im Im' : Nat → Prop) (O O' : Nat → LS) : Prop where
 im : ∀ b, Im b → Im' b
 keep : ∀ b, Im b → h'[b]? = h[b]?
 loc : ∀ u, O u ≠ .free → O' u = O u ∨ O' u = .gone
theorem Moves.refl (h Im O) : Moves h h Im Im O O := ⟨fun _ h => h, fun _ _ => rfl, fun _ _ => .inl rfl⟩
theorem RelD.moves {h h' Im Im' O O'} (m : Moves h h' Im Im' O O') {d v} (r : RelD h Im d v []) : RelD h' Im' d v [] := r.keep m.im (fun b hb => m.keep b (hb.resolve_left (by simp)))
theorem GlobR.moves {h h' Im Im' O O'} (m : Moves h h' Im Im' O O') {g : Nat} {cells : List D} (r : GlobR h Im g cells) : GlobR h' Im' g cells := r.keep m.im (fun b hb => m.keep b (hb.resolve_left (by simp)))
theorem RelCs.moves {h h' Im Im' O O'} (m : Moves h h' Im Im' O O') {d v} (r : RelCs h Im d v []) : RelCs h' Im' d v [] := r.keep m.im (fun b hb => m.keep b (hb.resolve_left (by simp)))
theorem RelP.moves {h h' Im Im' O O'} (m : Moves h h' Im Im' O O') {x v} (r : RelP h Im O x v) : RelP h' Im' O' x v := by
 cases r with
 | qd id i j v h1 h2 => exact .qd id i j v (by rcases m.loc id (by simp [h1]) with e | e <;> simp [e, h1]) h2
 | q id i j b cap sz h1 =>
  rcases m.loc id (by simp [h1]) with e | e
  ·exact .q id i j b cap sz (by rw [e, h1])
  ·exact .qd _ _ _ _ e rfl
 | l sz rows i j b off c e fr h1 h2 h3 h4 => exact .l sz rows i j b off c e fr (m.im _ h1) (by rw [m.keep _ h1, h2]) h3 (h4.moves m)
theorem RelC.moves {h h' Im Im' O O'} (m : Moves h h' Im Im' O O') {x v} (r : RelC h Im O x v) : RelC h' Im' O' x v := by
 cases r with
 | d d v r => exact .d d v (r.moves m)
 | nl sz a => exact .nl sz a
 | rd id off len v h1 h2 => exact .rd id off len v (by rcases m.loc id (by simp [h1]) with e | e <;> simp [e, h1]) h2
 | r id off len b cap sz a c h1 h2 h3 h4 =>
  rcases m.loc id (by simp [h1]) with e | e
  ·exact .r id off len b cap sz a c (by rw [e, h1]) h2 h3 h4
  ·exact .rd _ _ _ _ e rfl
 | rn id cap sz a h1 =>
  rcases m.loc id (by simp [h1]) with e | e
  ·exact .rn id cap sz a (by rw [e, h1])
  ·exact .rd _ _ _ _ e rfl
 | p x v r => exact .p x v (r.moves m)
 | c fn caps cv h1 h2 => exact .c fn caps cv h1 fun j x hx => let ⟨v, hv, q⟩ := h2 j x hx; ⟨v, hv, q.moves m⟩
 | dead v h => exact .dead v h
 | rcd id off len cp v h1 h2 => exact .rcd id off len cp v (by rcases m.loc id (by simp [h1]) with e | e <;> simp [e, h1]) h2
 | rc id off len cp b cap sz a h1 h2 h3 h4 =>
  rcases m.loc id (by simp [h1]) with e | e
  ·exact .rc id off len cp b cap sz a (by rw [e, h1]) h2 h3 h4
  ·exact .rcd _ _ _ _ _ e rfl
 | rcn id cap sz a h1 =>
  rcases m.loc id (by simp [h1]) with e | e
  ·exact .rcn id cap sz a (by rw [e, h1])
  ·exact .rcd _ _ _ _ _ e rfl
theorem RelCl.moves {h h' Im Im' O O'} (m : Moves h h' Im Im' O O') : ∀ {cs vs}, RelCl h Im O cs vs → RelCl h' Im' O' cs vs
 | _, _, .nil => .nil
 | _, _, .cons c v cs vs q rs => .cons c v cs vs (q.moves m) (rs.moves m)
mutual
theorem RelV.moves {h h' Im Im' O O'} (m : Moves h h' Im Im' O O') : ∀ {x v}, RelV h Im O x v → RelV h' Im' O' x v
 | _, _, .one c v r => .one c v (r.moves m)
 | _, _, .agg cs cv r => .agg cs cv (r.moves m)
 | _, _, .tup vs tv r => .tup vs tv (RelVs.moves m r)
 | _, _, .dead v => .dead v
 | _, _, .und => .und
theorem RelVs.moves {h h' Im Im' O O'} (m : Moves h h' Im Im' O O') : ∀ {x v}, RelVs h Im O x v → RelVs h' Im' O' x v
 | _, _, .nil => .nil
 | _, _, .cons x v xs vs r rs => .cons x v xs vs (RelV.moves m r) (RelVs.moves m rs)
end
theorem BldAt.keep {T e : TypeId} {h h' : Array Obj} {b : Nat} {sub : List Nat} {l : List UInt8} (r : BldAt T e h b sub l) (hb : h'[b]? = h[b]?) (hs : ∀ g ∈ sub, h'[g]? = h[g]?) : BldAt T e h' b sub l := by
 obtain ⟨p, v, hp, h1, h2, h3⟩ := r
 refine ⟨p, v, hp, by rw [hb]; exact h1, h2, ?_⟩
 rcases h3 with ⟨q1, q2, q3⟩ | ⟨g, cap, cur, fz, q1, q2, q3, q4, q5⟩
 ·exact .inl ⟨q1, q2, q3⟩
 ·exact .inr ⟨g, cap, cur, fz, q1, q2, q3, by rw [hs g (by rw [q2]; simp)]; exact q4, q5⟩
theorem RelO.moves {h h' Im Im' O O'} (m : Moves h h' Im Im' O O') {o l} (r : RelO h Im O o l) (hk : ∀ b, Own o l b → h'[b]? = h[b]? ∧ ¬ Im' b) : RelO h' Im' O' o l := by
 cases r with
 | an sz cap fz => exact .an sz cap fz
 | arr sz rows fz b cap c e fr h1 h2 h3 h4 h5 h6 h7 h8 =>
  cases fz with
  | true => exact .arr sz rows true b cap c e fr (by rw [m.keep _ (h8.1 rfl)]; exact h1) h2 h3 h4 h5 h6 (h7.moves m) ⟨fun _ => m.im _ (h8.1 rfl), fun _ => rfl⟩
  | false =>
   obtain ⟨k1, k2⟩ := hk b (.inl rfl)
   exact .arr sz rows false b cap c e fr (by rw [k1]; exact h1) h2 h3 h4 h5 h6 (h7.moves m) ⟨fun h => (by cases h), fun h => absurd h k2⟩
 | tn sz cap => exact .tn sz cap
 | tre sz rows foc b cap c e sub h1 h2 h3 h4 h5 h6 h7 h8 h9 =>
  obtain ⟨k1, k2⟩ := hk b (.inl rfl)
  refine .tre sz rows foc b cap c e sub (by rw [k1]; exact h1) h2 h3 h4 h5 k2 h7 (h8.keep m.im (fun k hk' => ?_)) ?_
  ·rcases hk' with hk' | hk'
   ·exact (hk k (.inr hk')).1
   ·exact m.keep k hk'
  ·cases foc with
   | none => trivial
   | some p => exact ⟨h9.1, h9.2.moves m⟩
 | box cells b c e h1 h2 h3 =>
  obtain ⟨k1, k2⟩ := hk b (.inl rfl)
  exact .box cells b c e (by rw [k1]; exact h1) (h2.moves m) k2
 | bld T e l b sub h1 h2 h3 h4 => exact .bld T e l b sub (h1.keep (hk b (.inl rfl)).1 fun g hg => (hk g (.inr hg)).1) (hk b (.inl rfl)).2 (fun g hg => (hk g (.inr hg)).2) h4
inductive Od where
 | t (n : Nat)
 | c (x : SV)
 | g (n : Nat)
 | fn (f : Nat)
 deriving Inhabited
inductive EqK where
 | i | b | s
 deriving Inhabited, DecidableEq
inductive VOp where
 | mv (x : Od)
 | pick (c a b : Od)
 | alloc (z : List SC)
 | box (n : Nat) (x : Od)
 | build (z : List SC) (parts : List (Nat × Nat × Od))
 | bsl (sz n : Nat) (z : List SC) (parts : List (Nat × Od))
 | ld (agg : Bool) (n : Nat) (a : Od)
 | st (n : Nat) (a x : Od)
 | fa (off : Nat) (x : Od)
 | fl (agg : Bool) (off n : Nat) (x : Od)
 | ia (sz : Nat) (x ix : Od)
 | ix (x ix : Od)
 | sl (sz : Nat) (x : Od) (lo hi : Option Od)
 | sls (x : Od) (lo hi : Option Od)
 | sla (n sz : Nat) (x : Od) (lo hi : Option Od)
 | bin (k : EqK) (op : BinOp) (x y : Od)
 | eqs (neg : Bool) (ks : List EqK) (x y : Od)
 | un (op : UnOp) (x : Od)
 | cvi (k : IntKind) (x : Od)
 | cid (x : Od)
 | len (x : Od)
 | lens (x : Od)
 | app (sz bytes : Nat) (x y : Od)
 | mks (sz bytes : Nat) (z : List SC) (l c : Od)
 | mkf (fn : Nat) (caps : List Od)
 | ext (x : Od) (i : Nat)
 | call (f : Nat) (args : List Od)
 | callv (f : Od) (args : List Od)
 | nilchk (x : Od)
 | mm (mx : Bool) (x y : Od)
 | sl3 (sz : Nat) (x : Od) (lo : Option Od) (hi mx : Od)
 | isnil (neg : Bool) (x : Od)
 | inil (neg : Bool) (x : Od)
 | b2s (x : Od)
 | iaa (n sz : Nat) (x ix : Od)
 | appf (sz bytes n : Nat) (y : Od)
 | appq (sz bytes : Nat) (x y : Od)
 | appr (sz bytes : Nat) (x y : Od)
 | boxk (n : Nat) (x : Od)
 | bslf (sz n : Nat) (z : List SC) (parts : List (Nat × Od))
 | clr (sz : Nat) (z : List SC) (x : Od)
 | cap (x : Od)
 | appz (sz bytes : Nat) (z : List SC) (x n : Od)
 | cpy (sz : Nat) (x y : Od)
 | bslw (sz n : Nat) (z : List SC) (parts : List (Nat × Od))
 | appw (sz bytes : Nat) (x y : Od)
 | apps (bytes : Nat) (x y : Od)
 | allocb (T e : TypeId)
 | gho
 | bad
 deriving Inhabited
structure VOper where
 dst : Option Nat
 op : VOp
 guard : Option (Nat × Bool) := none
 deriving Inhabited
structure DOper where
 o : VOper
 msk : Nat
 hid : List Nat
 /-- The one object that it writes. -/
 prv : Option Nat
 /-- Objects that it is not shown, by their names. -/
 hido : List Nat
 deriving Inhabited
def hasB (m i : Nat) : Bool := m.testBit i && decide (i < 160)
def z3u (m : Nat) : List Nat := (List.range 160).filter m.testBit
theorem x0z (m i : Nat) : hasB m i = true ↔ i ∈ z3u m := by simp [hasB, z3u, and_comm]
def DOper.pre (d : DOper) : List Nat := z3u d.msk
inductive VCode where
 | skip
 | reg (ops : List VOper)
 | draw (ops : List DOper)
 | seq (a b : VCode)
 | cond (c : Od) (x y : VCode)
 | block (id : Nat) (c : VCode)
 | loop (c : VCode)
 | exit (id : Nat)
 | ret
 | wk (c : VCode)
 | orders (l : List (List VOper))
 | regs (l : List (List VOper))
 | pre (c : VCode)
 | room (t : Nat) (c : VCode)
 | gho (c : VCode)
 /-- A region of which the places from m on stand behind all others, one by one. -/
 | drawt (m : Nat) (ops : List DOper)
 deriving Inhabited
inductive RVar where
 | t (n : Nat)
 | cell (a : Nat) (agg : Bool) (n : Nat)
 deriving Inhabited
structure VFn where
 ntmps : Nat
 body : VCode
 results : List RVar
 deriving Inhabited

def VOp.strip : VOp → VOp
 | .appf sz bytes n y => .app sz bytes (.c (.one (.nl n))) y
 | .appq sz bytes x y => .app sz bytes x y
 | .appr sz bytes x y => .app sz bytes x y
 | .boxk n x => .box n x
 | .bslf sz n z parts => .bsl sz n z parts
 | .bslw sz n z parts => .bsl sz n z parts
 | .appw sz bytes x y => .app sz bytes x y
 | op => op
def VOper.strip (o : VOper) : VOper := ⟨o.dst, o.op.strip, o.guard⟩
def DOper.strip (d : DOper) : DOper := ⟨d.o.strip, d.msk, d.hid, none, []⟩
/-! ### From the machine's code -/
def w3s (sz : Nat) : Value → Option SC
 | .int k n => some (.d (.i k n))
 | .bool b => some (.d (.b b))
 | .string s => some (.d (.s s))
 | .pointer none => some (.d .np)
 | .nilFunc => some (.d .nf)
 | .nilIface => some (.d (.v .nilIface))
 | .slice none 0 0 => some (.nl sz)
 | _ => none
def u0b : List Nat → List Value → Option (List SC)
 | _, [] => some []
 | szs, v :: vs => (w3s (szs.headD 0) v).bind fun c => (u0b szs.tail vs).map (c :: ·)
def x3s (szs : List Nat) : Value → Option SV
 | .agg cs => (u0b szs cs.toList).map .agg
 | v => (w3s (szs.headD 0) v).map .one
def u3s (P : Program) : Nat → TypeId → List Nat
 | 0, _ => []
 | d + 1, t => match P.underlying t with
  | some (.slice e) => [P.cellsOf e]
  | some (.struct fs) => fs.toList.flatMap fun f => u3s P d f.type
  | some (.array n e) => (List.replicate n (u3s P d e)).flatten
  | _ => [0]
def szsOf (P : Program) (t : TypeId) : List Nat := u3s P 8 t
def lowOd (P : Program) (ty : TypeId) : Operand → Option Od
 | .tmp t => if t < 1000000 then some (.t t) else none
 | .const v => (x3s (szsOf P ty) v).map .c
 | .global g => some (.g g)
 | .func f => some (.fn f)
def xn (P : Program) (t : TypeId) : Bool := match P.underlying t with | some (.struct _) | some (.array _ _) => true | _ => false
def eqFs (P : Program) (g : TypeId → Option (List EqK)) : Nat → List Field → Option (List EqK)
 | _, [] => some []
 | off, f :: fs => if f.name ≠ "_" ∧ f.offset = off then (g f.type).bind fun k =>
  if k.length = P.cellsOf f.type ∧ (xn P f.type = true ∨ k.length = 1) then (eqFs P g (off + k.length) fs).map (k ++ ·) else none
  else none
def eqKs (P : Program) : Nat → TypeId → Option (List EqK)
 | 0, _ => none
 | d + 1, t => match P.underlying t with
  | some .bool => some [.b]
  | some (.int _) => some [.i]
  | some .string => some [.s]
  | some (.struct fs) => if P.stoodInHeld t then none else eqFs P (eqKs P d) 0 fs.toList
  | _ => none
def fOk (P : Program) (f : Nat) : Bool := match P.funcs[f]? with | some fn => fn.body.isSome && fn.name != "runtime.NumGoroutine" | none => false
def v0e (P : Program) : List Operand → List TypeId → Option (List Od)
 | [], _ => some []
 | x :: xs, ts => (lowOd P (ts.headD 0) x).bind fun o => (v0e P xs ts.tail).map (o :: ·)
def u0h (P : Program) : Option Operand → Option (Option Od)
 | none => some none
 | some x => (lowOd P 0 x).map some
def lowSP (P : Program) (e : TypeId) : List (Nat × Operand) → Option (List (Nat × Od))
 | [] => some []
 | (i, x) :: r => (lowOd P e x).bind fun x => (lowSP P e r).map ((i, x) :: ·)
def lowBP (P : Program) (fs : Array Field) (places : List (Nat × Nat)) : List (Nat × Operand) → Option (List (Nat × Nat × Od))
 | [] => some []
 | (i, x) :: r => match fs[i]?, places[i]? with
  | some f, some (off, n) => (lowOd P f.type x).bind fun x => (lowBP P fs places r).map ((off, n, x) :: ·)
  | _, _ => none
def w2z (P : Program) (fs : Array Field) : Option (List (Nat × Nat)) := fs.toList.mapM (fun f => (P.info? f.type).map fun i => (f.offset, i.size))
def lowBi (P : Program) (c : Call) : Builtin → Option VOp
 | .len => match c.args.toList, c.argTypes.toList with
  | [x], [t] => match P.underlying t with
   | some (.slice _) => (lowOd P t x).map .len
   | some .string => (lowOd P t x).map .lens
   | _ => none
  | _, _ => none
 | .clear => match c.args.toList, c.argTypes.toList with
  | [x], [t] => match P.underlying t with
   | some (.slice e) => match (P.info? e).bind (·.zero) with
    | some z => (u0b (szsOf P e) z.cells.toList).bind fun z => (lowOd P t x).map fun x => .clr (P.cellsOf e) z x
    | none => none
   | _ => none
  | _, _ => none
 | .cap => match c.args.toList, c.argTypes.toList with
  | [x], [t] => match P.underlying t with
   | some (.slice _) => (lowOd P t x).map .cap
   | _ => none
  | _, _ => none
 | .copy => match c.args.toList, c.argTypes.toList with
  | [x, y], [t, u] => if t = u then match P.underlying t with
   | some (.slice e) => if (P.info? e).isSome then (lowOd P t x).bind fun x => (lowOd P t y).map fun y => .cpy (P.cellsOf e) x y else none
   | _ => none
   else none
  | _, _ => none
 | .append => match c.args.toList, c.argTypes.toList with
  | [x, y], [t, u] => if t = u then match P.underlying t with
   | some (.slice e) => match (P.info? e).bind (·.zero) with
    | some z => if z.cells.size = P.cellsOf e then (lowOd P t x).bind fun x => (lowOd P t y).map fun y => .app (P.cellsOf e) (P.bytesOf e) x y else none
    | none => none
   | _ => none
   else match P.underlying t, P.underlying u with
   | some (.slice e), some (.int _) => match (P.info? e).bind (·.zero) with
    | some z => if 0 < P.cellsOf e then (u0b (szsOf P e) z.cells.toList).bind fun zc => (lowOd P t x).bind fun x => (lowOd P u y).map fun y => .appz (P.cellsOf e) (P.bytesOf e) zc x y else none
    | none => none
   | some (.slice e), some .string => match (P.info? e).bind (·.zero) with
    | some z => if z.cells.size = P.cellsOf e ∧ P.cellsOf e = 1 then (lowOd P t x).bind fun x => (lowOd P u y).map fun y => .apps (P.bytesOf e) x y else none
    | none => none
   | _, _ => none
  | _, _ => none
 | .max => match c.args.toList, c.argTypes.toList with
  | [x, y], [t, u] => (lowOd P t x).bind fun x => (lowOd P u y).map fun y => .mm true x y
  | _, _ => none
 | .min => match c.args.toList, c.argTypes.toList with
  | [x, y], [t, u] => (lowOd P t x).bind fun x => (lowOd P u y).map fun y => .mm false x y
  | _, _ => none
 | _ => none
def z0k (P : Program) (c : Call) (x : Operand) : Option VOp := match x with
 | .func f => (v0e P c.args.toList c.argTypes.toList).map (.call f)
 | f => (lowOd P 0 f).bind fun f => (v0e P c.args.toList c.argTypes.toList).map (.callv f)
def bldTy (P : Program) (t : TypeId) : Option TypeId := match P.info? t with
 | some i => if i.str = "strings.Builder" then match i.zero with
  | some (.agg cs) => match cs.toList with
   | [.pointer none, .slice none 0 0] => match P.underlying t with
    | some (.struct fs) => (fs[1]?).bind fun f => match P.underlying f.type with | some (.slice e) => some e | _ => none
    | _ => none
   | _ => none
  | _ => none
  else none
 | none => none
theorem y4d {P : Program} {t b : TypeId} (h : bldTy P t = some b) : ∃ i, P.info? t = some i ∧ i.zero = some (.agg #[.pointer none, .slice none 0 0]) := by
 unfold bldTy at h
 split at h
 ·rename_i i hi
  split at h
  ·split at h
   ·rename_i cs hz
    split at h
    ·rename_i hcs
     refine ⟨i, hi, ?_⟩
     rw [hz]; congr 2
     apply Array.toList_inj.1; exact hcs
    ·cases h
   ·cases h
  ·cases h
 ·cases h
def lowOp (P : Program) (o : Oper) : Option VOp :=
 match o.op with
 | .move x | .assign x => (lowOd P o.type x).map .mv
 | .pick c a b => (lowOd P 0 c).bind fun c => (lowOd P o.type a).bind fun a => (lowOd P o.type b).map fun b => .pick c a b
 | .alloc e => match (P.info? e).bind (·.zero) with
  | some z => match bldTy P e with
   | some b => some (.allocb e b)
   | none => (u0b (szsOf P e) z.cells.toList).map .alloc
  | none => none
 | .box e x => (lowOd P e x).map (.box (P.cellsOf e))
 | .load t a => if (xn P t || P.cellsOf t == 1) && (P.underlying t).isSome then (lowOd P 0 a).map (.ld (xn P t) (P.cellsOf t)) else none
 | .store t a x => if (P.info? t).isSome then (lowOd P 0 a).bind fun a => (lowOd P t x).map fun x => .st (P.cellsOf t) a x else none
 | .fieldAddr s x f => match P.underlying s with
  | some (.struct fs) => match fs[f]? with
   | some f => if P.cellsOf f.type = 0 then none else (lowOd P 0 x).map (.fa f.offset)
   | none => none
  | _ => none
 | .field s x f => match P.underlying s with
  | some (.struct fs) => match fs[f]? with
   | some f => if (xn P f.type || P.cellsOf f.type == 1) && (P.underlying f.type).isSome then (lowOd P s x).map (.fl (xn P f.type) f.offset (P.cellsOf f.type)) else none
   | none => none
  | _ => none
 | .indexAddr t x i => match P.underlying t with
  | some (.slice e) => if (P.info? e).isSome then (lowOd P t x).bind fun x => (lowOd P 0 i).map fun i => .ia (P.cellsOf e) x i else none
  | some (.array n e) => if (P.info? e).isSome then (lowOd P 0 x).bind fun x => (lowOd P 0 i).map fun i => .iaa n (P.cellsOf e) x i else none
  | _ => none
 | .index t x i => match P.underlying t with
  | some .string => (lowOd P t x).bind fun x => (lowOd P 0 i).map fun i => .ix x i
  | _ => none
 | .slice t x lo hi mx => match P.underlying t with
  | some (.slice e) => if (P.info? e).isSome then match hi, mx with
   | hi, none => (lowOd P t x).bind fun x => (u0h P lo).bind fun lo => (u0h P hi).map fun hi => .sl (P.cellsOf e) x lo hi
   | some hi, some mx => (lowOd P t x).bind fun x => (u0h P lo).bind fun lo => (lowOd P 0 hi).bind fun hi => (lowOd P 0 mx).map fun mx => .sl3 (P.cellsOf e) x lo hi mx
   | _, _ => none
   else none
  | some .string => if mx.isSome then none else (lowOd P t x).bind fun x => (u0h P lo).bind fun lo => (u0h P hi).map fun hi => .sls x lo hi
  | some (.array n e) => if mx.isSome then none else if (P.info? e).isSome then (lowOd P 0 x).bind fun x => (u0h P lo).bind fun lo => (u0h P hi).map fun hi => .sla n (P.cellsOf e) x lo hi else none
  | _ => none
 | .binOp op t x y u => match P.underlying t with
  | some (.struct _) => match op with
   | .eql => if P.eqGuardType P.depth t then none else (eqKs P 16 t).bind fun ks => (lowOd P t x).bind fun x => (lowOd P t y).map fun y => .eqs false ks x y
   | .neq => if P.eqGuardType P.depth t then none else (eqKs P 16 t).bind fun ks => (lowOd P t x).bind fun x => (lowOd P t y).map fun y => .eqs true ks x y
   | _ => none
  | some .bool => (lowOd P t x).bind fun x => (lowOd P u y).map fun y => .bin .b op x y
  | some (.int _) => (lowOd P t x).bind fun x => (lowOd P u y).map fun y => .bin .i op x y
  | some .string => (lowOd P t x).bind fun x => (lowOd P u y).map fun y => .bin .s op x y
  | some (.slice _) => match op, y with
   | .eql, .const (.slice none 0 0) => (lowOd P t x).map (.isnil false)
   | .neq, .const (.slice none 0 0) => (lowOd P t x).map (.isnil true)
   | _, _ => none
  | some (.interface _) => match op, y with
   | .eql, .const .nilIface => (lowOd P t x).map (.inil false)
   | .neq, .const .nilIface => (lowOd P t x).map (.inil true)
   | _, _ => none
  | _ => none
 | .unOp op t x => (lowOd P t x).map (.un op)
 | .convert s d x => match P.underlying s, P.underlying d with
  | some (.int _), some (.int k) => (lowOd P s x).map (.cvi k)
  | some .string, some .string => (lowOd P s x).map .cid
  | some (.slice e), some .string => match P.underlying e with
   | some (.int .u8) => (lowOd P s x).map .b2s
   | _ => none
  | _, _ => none
 | .makeFunc fn first caps => match fn with
  | .func f => if first.isEmpty then (v0e P caps.toList []).map (.mkf f) else none
  | _ => none
 | .makeSlice t l c => match P.underlying t with
  | some (.slice e) => match (P.info? e).bind (·.zero) with
   | some z => (u0b (szsOf P e) z.cells.toList).bind fun z => (lowOd P 0 l).bind fun l => (lowOd P 0 c).map fun c => .mks (P.cellsOf e) (P.bytesOf e) z l c
   | none => none
  | _ => none
 | .extract x i => (lowOd P 0 x).map (.ext · i)
 | .nilCheck x => (lowOd P 0 x).map .nilchk
 | .buildSlice t n parts => match P.underlying t with
  | some (.slice e) => match (P.info? e).bind (·.zero) with
   | some z => if (n * P.cellsOf e ≤ 2 ^ 24 ∧ n ≤ 2 ^ 24) ∧ z.cells.size = P.cellsOf e then (u0b (szsOf P e) z.cells.toList).bind fun z => (lowSP P e parts.toList).map fun ps => .bsl (P.cellsOf e) n z ps else none
   | none => none
  | _ => none
 | .build t parts => match P.underlying t with
  | some (.struct fs) => match (P.info? t).bind (·.zero) with
   | some z => (u0b (szsOf P t) z.cells.toList).bind fun z =>
    (w2z P fs).bind fun pl => (lowBP P fs pl parts.toList).map fun ps => .build z ps
   | none => none
  | _ => none
 | .call c => match c.callee with
  | .value x => z0k P c x
  | .builtin b => lowBi P c b
  | _ => none
 | _ => none
def x1t (P : Program) (o : Oper) : Option VOp := some ((lowOp P o).getD .bad)
theorem v1d {P : Program} {o : Oper} {v : VOp} (h : x1t P o = some v) : lowOp P o = some v ∨ v = .bad := by
 unfold x1t at h
 cases e : lowOp P o with
 | none => rw [e] at h; exact .inr (Option.some.inj h).symm
 | some op => rw [e] at h; exact .inl h
def yw (P : Program) (n : Nat) (ops : Array Oper) (o : Oper) : Option VOper :=
 if (o.dst.all (· < n)) then (x1t P o).bind fun op =>
  match o.guard with
  | none => some ⟨o.dst, op, none⟩
  | some (j, want) => ((ops[j]?).bind (·.dst)).bind fun d => if d < n then some ⟨o.dst, op, some (d, want)⟩ else none
 else none
inductive Cls where
 | p | m | w
 deriving DecidableEq
def odSl : Od → List Nat
 | .t n => [n]
 | _ => []
def oodSl : Option Od → List Nat
 | some x => odSl x
 | none => []
def opSl : VOp → List Nat
 | .mv x | .box _ x | .boxk _ x | .ld _ _ x | .fa _ x | .fl _ _ _ x | .un _ x | .cvi _ x | .cid x | .len x | .lens x | .ext x _ | .nilchk x | .isnil _ x | .inil _ x | .b2s x | .cap x | .clr _ _ x => odSl x
 | .pick c a b => odSl c ++ (odSl a ++ odSl b)
 | .alloc _ | .allocb .. | .bad => []
 | .build _ ps => ps.flatMap fun p => odSl p.2.2
 | .gho => []
 | .bsl _ _ _ ps | .bslf _ _ _ ps | .bslw _ _ _ ps => ps.flatMap fun p => odSl p.2
 | .appf _ _ _ y => odSl y
 | .st _ a x => odSl a ++ odSl x
 | .ia _ x i | .iaa _ _ x i | .cpy _ x i | .ix x i | .bin _ _ x i | .eqs _ _ x i | .app _ _ x i | .apps _ x i | .appw _ _ x i | .appr _ _ x i | .appq _ _ x i | .appz _ _ _ x i | .mks _ _ _ x i | .mm _ x i => odSl x ++ odSl i
 | .sl _ x lo hi | .sls x lo hi | .sla _ _ x lo hi => odSl x ++ (oodSl lo ++ oodSl hi)
 | .sl3 _ x lo hi mx => odSl x ++ (oodSl lo ++ (odSl hi ++ odSl mx))
 | .mkf _ cs | .call _ cs => cs.flatMap odSl
 | .callv f cs => odSl f ++ cs.flatMap odSl
def y1j : Od → Cls
 | .c (.one (.nl _)) => .m
 | _ => .w
theorem z1a (x : Od) : y1j x ≠ .p := by unfold y1j; split <;> simp
theorem w3d {x : Od} (h : y1j x = .m) : ∃ n, x = .c (.one (.nl n)) := by
 unfold y1j at h; split at h
 ·exact ⟨_, rfl⟩
 ·cases h
def clsOf : VOp → Cls
 | .mv _ | .pick .. | .build .. | .fl .. | .ix .. | .sls .. | .sla .. | .bin .. | .eqs .. | .un .. | .cvi .. | .cid _ | .lens _ | .inil .. | .ext .. | .mkf .. | .mm .. | .bad | .gho => .p
 | .app _ _ x _ => y1j x
 | .appq _ _ x _ => y1j x
 | .appw _ _ x _ => y1j x
 | .appr _ _ x _ => y1j x
 | .st .. | .callv .. | .isnil .. | .clr .. | .cpy .. | .apps .. | .allocb .. => .w
 | _ => .m
def makes : VOp → Bool
 | .alloc _ | .box .. | .boxk .. | .bsl .. | .mks .. | .app .. | .call .. | .appf .. | .bslf .. | .appz .. | .appq .. | .bslw .. | .appw .. | .appr .. => true
 | _ => false

def slOf (a : VOper) : List Nat := opSl a.op ++ (match a.guard with | some (t, _) => [t] | none => [])
def u0l (a b : VOper) : Bool := (a.dst.any fun d => (slOf b).contains d || b.dst == some d) || (b.dst.any fun d => (slOf a).contains d)
def memConf (a b : VOper) : Bool := (clsOf a.op == .w && clsOf b.op != .p) || (clsOf b.op == .w && clsOf a.op != .p)
def sepD (a b : DOper) : Bool := match a.prv with | some u => b.hido.contains u | none => false
def z0v (a b : DOper) : Bool := (clsOf a.o.op == .w && (clsOf b.o.op != .p && !sepD a b)) || (clsOf b.o.op == .w && (clsOf a.o.op != .p && !sepD b a))
def okD (ds : List DOper) : Bool :=
 (List.range ds.length).all fun j =>
   (match (ds.getD j default).prv with | some u => clsOf (ds.getD j default).o.op == .w && !(ds.getD j default).hido.contains u | none => clsOf (ds.getD j default).o.op != .w || (ds.getD j default).hido.isEmpty) &&
   (List.range j).all fun i => !z0v (ds.getD i default) (ds.getD j default) || hasB (ds.getD j default).msk i
def fullB (m : Nat) (ds : List DOper) : Bool := decide (m ≤ ds.length) && (List.range ds.length).all fun j => decide (j < m) || (List.range j).all fun i => hasB (ds.getD j default).msk i
def z2d (o x : VOper) : Bool :=
 o.guard.isNone && x.guard.isNone && (match x.op with | .call .. => true | _ => false) &&
 match o.op, o.dst with
 | .mv (.t k), some d => k != d && !(opSl x.op).contains d && x.dst != some d && x.dst != some k
 | .ld false 1 (.t k), some d => k != d && !(opSl x.op).contains d && x.dst != some d && x.dst != some k
 | _, _ => false
def fullF (f m : Nat) (ds : List DOper) : Bool := decide (m < ds.length) && decide (f < m) && z2d (ds.getD f default).o (ds.getD m default).o &&
 (List.range ds.length).all fun j => decide (j < m) || (List.range j).all fun i => hasB (ds.getD j default).msk i || (j == m && i == f)
def fullT (m : Nat) (ds : List DOper) : Bool := if m < 1000 then fullB m ds else fullF (m / 1000 - 1) (m % 1000) ds
def VCode.strip : VCode → VCode
 | .reg ops => .reg (ops.map VOper.strip)
 | .draw ds => if okD ds = true then .draw (ds.map DOper.strip) else .pre .skip
 | .seq a b => .seq a.strip b.strip
 | .cond c x y => .cond c x.strip y.strip
 | .block id c => .block id c.strip
 | .loop c => .loop c.strip
 | .wk c => c.strip
 | .pre c => c.strip
 | .room _ c => c.strip
 | .gho c => c.strip
 | .drawt m ds => if (okD ds && fullT m ds) = true then .draw (ds.map DOper.strip) else .pre .skip
 | .regs l => .reg (l.flatten.map VOper.strip)
 | c => c
def VFn.strip (F : VFn) : VFn := ⟨F.ntmps, F.body.strip, F.results⟩

def isCallv : VOp → Bool
 | .callv .. | .isnil .. | .sla .. => true
 | _ => false
def xz (o : Oper) : List Nat := (o.after.toList.filter fun e => Region.binds .any e).map (·.on)
def v3d : List Oper → List Nat → List Nat
 | [], acc => acc
 | o :: r, acc => v3d r (acc ++ [(xz o).foldl (fun m k => m ||| 1 <<< k ||| acc.getD k 0) 0])
def drawOk (loose : Bool) (ops : List Oper) (vs : List VOper) (ms : List Nat) : Bool :=
 (List.range ops.length).all fun j =>
   (xz (ops.getD j default)).all (· < j) && ((List.range 160).all fun k => !hasB (ms.getD j 0) k || (decide (k < j) && ((xz (ops.getD j default)).contains k || (xz (ops.getD j default)).any fun m => hasB (ms.getD m 0) k))) &&
   !isCallv (vs.getD j default).op &&
   (List.range j).all fun i => !(u0l (vs.getD i default) (vs.getD j default) || (!loose && memConf (vs.getD i default) (vs.getD j default))) || hasB (ms.getD j 0) i
def mkD (vs : List VOper) (ms : List Nat) (j : Nat) (o : VOper) : DOper :=
 ⟨o, ms.getD j 0, (List.range j).filter fun i => makes (vs.getD i default).op && !hasB (ms.getD j 0) i, none, []⟩
def w3l (ops : Array Oper) : List Nat → List Nat → Bool
 | _, [] => true
 | pre, k :: ord => (match ops[k]? with | some o => o.after.all fun e => !Region.binds .gc e || pre.contains e.on | none => false) && w3l ops (pre ++ [k]) ord
def w0w (loose : Bool) (P : Program) (n : Nat) (ops : Array Oper) : Option (List DOper) :=
 if (P.follows .mixedOrders || !Region.departs ops) || (((List.range ops.size).all fun j => (ops.toList.getD j default).after.all fun e => !Region.binds .text e || decide (e.on < j)) && w3l ops [] (Region.linearise .gc ops 0) && (List.range ops.size).all fun i => (Region.linearise .gc ops 0).contains i) then (ops.toList.mapM (yw P n ops)).bind fun vs =>
  if drawOk loose ops.toList vs (v3d ops.toList []) then some (vs.mapIdx (mkD vs (v3d ops.toList []))) else none
 else none
def allGo (md : Region.Mode) (ops : Array Oper) : Nat → Array Bool → List (List Nat)
 | 0, _ => [[]]
 | fuel + 1, listed =>
  match (List.range ops.size).filter fun i => !listed.getD i true && ((ops[i]?).map (·.after.all fun e => !Region.binds md e || listed.getD e.on false)).getD false with
  | [] => [[]]
  | r :: rs => (r :: rs).flatMap fun i => (allGo md ops fuel (listed.setIfInBounds i true)).map (i :: ·)
def cntGo (md : Region.Mode) (ops : Array Oper) : Nat → Array Bool → Nat → Nat
 | 0, _, b => b - 1
 | fuel + 1, listed, b =>
  match (List.range ops.size).filter fun i => !listed.getD i true && ((ops[i]?).map (·.after.all fun e => !Region.binds md e || listed.getD e.on false)).getD false with
  | [] => b - 1
  | r :: rs => (r :: rs).foldl (fun b i => match b with | 0 => 0 | b + 1 => cntGo md ops fuel (listed.setIfInBounds i true) (b + 1)) b
def fewO (P : Program) (ops : Array Oper) : Bool :=
 if P.follows .mixedOrders || !Region.departs ops then decide (0 < cntGo .any ops ops.size (Array.replicate ops.size false) 61)
 else decide (0 < cntGo .text ops ops.size (Array.replicate ops.size false) 61) && decide (0 < cntGo .gc ops ops.size (Array.replicate ops.size false) 61)
def x0t (P : Program) (ops : Array Oper) : List (List Nat) :=
 if P.follows .mixedOrders || !Region.departs ops then allGo .any ops ops.size (Array.replicate ops.size false)
 else allGo .text ops ops.size (Array.replicate ops.size false) ++ allGo .gc ops ops.size (Array.replicate ops.size false)
def z0t (P : Program) (n : Nat) (ops : Array Oper) : Option VCode :=
 if (ops.size ≤ 12 ∧ fewO P ops = true) ∧ (x0t P ops).length ≤ 60 then (ops.toList.mapM (yw P n ops)).map fun vs => .orders ((x0t P ops).map fun ord => ord.map fun i => vs.getD i default) else none
def ptrFn (P : Program) (f : Nat) : Bool := ((P.funcs[f]?).map fun fn => fn.params.any fun t => match P.underlying t with | some (.pointer _) => true | _ => false).getD false
def ptrCall (P : Program) (n : Nat) (ops : Array Oper) : Bool := match ops.toList.mapM (yw P n ops) with
 | some vs => (vs.any fun v => match v.op with | .call f _ => ptrFn P f | _ => false) && (z0t P n ops).isSome
 | none => false
def w3a (P : Program) (n : Nat) (ops : Array Oper) : Option (List DOper) := if ptrCall P n ops = true then none else w0w false P n ops
theorem w3z {P : Program} {n : Nat} {ops : Array Oper} {d : List DOper} (h : w3a P n ops = some d) : w0w false P n ops = some d := by
 unfold w3a at h
 split at h
 ·cases h
 ·exact h
def yz (P : Program) (n : Nat) : Code → Option VCode
 | .skip => some .skip
 | .label _ => some .skip
 | .region _ ops draw => if draw then (match w3a P n ops with | some d => some (.draw d) | none => match z0t P n ops with | some c => some c | none => (w0w true P n ops).map .draw) else (ops.toList.mapM (yw P n ops)).map .reg
 | .seq a b => (yz P n a).bind fun a => (yz P n b).map fun b => .seq a b
 | .cond c x y => (lowOd P 0 c).bind fun c => (yz P n x).bind fun x => (yz P n y).map fun y => .cond c x y
 | .block id c => (yz P n c).map (.block id)
 | .loop c => (yz P n c).map .loop
 | .exit id => some (.exit id)
 | .ret => some .ret
 | _ => none
def y3p (P : Program) : ResultVar → Option RVar
 | .tmp t => if t < 1000000 then some (.t t) else none
 | .cell a t => if (decide (a < 1000000) && (xn P t || P.cellsOf t == 1)) && (P.underlying t).isSome then some (.cell a (xn P t) (P.cellsOf t)) else none
def lowF (P : Program) (f : Nat) : Option VFn :=
 (P.funcs[f]?).bind fun fn => fn.body.bind fun c => (yz P fn.ntmps c).bind fun c => (fn.results.toList.mapM (y3p P)).map fun r => ⟨fn.ntmps, c, r⟩

/-! ### What it does -/
def z1j (G : Nat → Option (List D)) (g : Nat) : SV := match G g with | some cells => .one (.d (.k cells)) | none => .dead
def St.ev (G : Nat → Option (List D)) (σ : St) : Od → SV
 | .t n => σ.get n
 | .c x => x
 | .g g => z1j G g
 | .fn f => .one (.d (.f f []))
def SV.cells? : SV → Option (List SC)
 | .one c => some [c]
 | .agg cs => some cs
 | _ => none
def asPtr : SV → Option Ptr
 | .one (.p x) => some x
 | .one (.d (.k cells)) => some (.l cells.length [cells] 0 0)
 | _ => none
def mkV (agg : Bool) (cs : List SC) : Option SV :=
 match agg with
 | true => some (.agg cs)
 | false => match cs with | [c] => some (.one c) | _ => none
def ldRow (sz j n : Nat) (r : List D) : Option (List SC) := if j + n ≤ sz then some (((r.drop j).take n).map .d) else none
def St.ld (σ : St) (n : Nat) : Ptr → Option (List SC)
 | .q id i j => match σ.obj id with
  | some (.arr sz rows _) => (rows[i]?).bind (ldRow sz j n)
  | some (.box cells) => if i = 0 ∧ j + n ≤ cells.length then some ((cells.drop j).take n) else none
  | some (.tre sz rows (some (k, cs))) => if (i = k ∧ j + n ≤ cs.length) ∧ cs.length = sz then some ((cs.drop j).take n) else none
  | some (.tre sz rows none) => (rows[i]?).bind fun r => if ((r.drop j).take n).all D.flat = true then ldRow sz j n r else none
  | some (.bld ..) | none => none
 | .l sz rows i j => (rows[i]?).bind (ldRow sz j n)
def St.toD (σ : St) : SC → Option D
 | .d d => some d
 | .nl sz => some (.l sz [])
 | .r id off len => match σ.obj id with
  | some (.arr sz rows true) => if off + len ≤ rows.length then some (.l sz ((rows.drop off).take len)) else none
  | _ => none
 | _ => none
def St.toDs (σ : St) : List SC → Option (List D)
 | [] => some []
 | c :: cs => match σ.toD c, σ.toDs cs with | some d, some ds => some (d :: ds) | _, _ => none
def St.stO (σ : St) (cs : List SC) : Ptr → Option St
 | .q id i j => match σ.obj id with
  | some (.arr sz rows false) => match rows[i]?, σ.toDs cs with
   | some r, some ds => if j + ds.length ≤ sz then some (σ.setO id (some (.arr sz (rows.set i (r.take j ++ ds ++ r.drop (j + ds.length))) false))) else none
   | _, _ => none
  | some (.box cells) => if i = 0 ∧ j + cs.length ≤ cells.length then some (σ.setO id (some (.box (cells.take j ++ cs ++ cells.drop (j + cs.length))))) else none
  | some (.tre sz rows (some (k, cells))) => if (i = k ∧ j + cs.length ≤ cells.length) ∧ cells.length = sz then some (σ.setO id (some (.tre sz rows (some (k, cells.take j ++ cs ++ cells.drop (j + cs.length)))))) else none
  | _ => none
 | _ => none
def z0x (off : Nat) : Ptr → Ptr
 | .q id i j => .q id i (j + off)
 | .l sz rows i j => .l sz rows i (j + off)
def bitOp (k : IntKind) (f : BitVec k.bits → BitVec k.bits → BitVec k.bits) (a b : Int) : Int := k.wrap ((f (BitVec.ofInt k.bits a) (BitVec.ofInt k.bits b)).toNat : Int)
def nilB : Value → Option Bool
 | .nilIface => some true
 | .iface _ _ => some false
 | _ => none
def nilV : SV → Option Bool
 | .one (.d (.v x)) => nilB x
 | _ => none
def binI (op : BinOp) (k : IntKind) (a b : Int) : Option D :=
 match op with
 | .add => some (.i k (k.wrap (a + b)))
 | .sub => some (.i k (k.wrap (a - b)))
 | .mul => some (.i k (k.wrap (a * b)))
 | .quo => if b = 0 then none else some (.i k (k.wrap (a.tdiv b)))
 | .rem => if b = 0 then none else some (.i k (a.tmod b))
 | .and => some (.i k (bitOp k (· &&& ·) a b))
 | .or => some (.i k (bitOp k (· ||| ·) a b))
 | .xor => some (.i k (bitOp k (· ^^^ ·) a b))
 | .andNot => some (.i k (bitOp k (fun x y => x &&& ~~~y) a b))
 | .eql => some (.b (a == b))
 | .neq => some (.b (a != b))
 | .lss => some (.b (decide (a < b)))
 | .leq => some (.b (decide (a ≤ b)))
 | .gtr => some (.b (decide (a > b)))
 | .geq => some (.b (decide (a ≥ b)))
 | _ => none
def shI (op : BinOp) (k : IntKind) (a b : Int) : Option D :=
 if b < 0 then none else
 match op with
 | .shl => some (.i k (k.wrap (a * 2 ^ min b.toNat k.bits)))
 | .shr => some (.i k (a.fdiv (2 ^ min b.toNat k.bits)))
 | _ => none
def binS (op : BinOp) (x y : ByteArray) : Option D :=
 match op with
 | .add => if x.size + y.size ≤ maxLen then some (.s (x ++ y)) else none
 | .eql => some (.b (x.toList == y.toList))
 | .neq => some (.b (!(x.toList == y.toList)))
 | .lss => some (.b (Op.bytesLess x.toList y.toList))
 | .gtr => some (.b (!(Op.bytesLess x.toList y.toList || x.toList == y.toList)))
 | _ => none
def isSh : BinOp → Bool
 | .shl | .shr => true
 | _ => false
def binV (k : EqK) (op : BinOp) (x y : SV) : Option SV :=
 match k with
 | .i => match x, y with
  | .one (.d (.i k a)), .one (.d (.i k' b)) => match isSh op with
   | true => (shI op k a b).map fun d => .one (.d d)
   | false => if k = k' then (binI op k a b).map fun d => .one (.d d) else none
  | _, _ => none
 | .s => match x, y with
  | .one (.d (.s a)), .one (.d (.s b)) => (binS op a b).map fun d => .one (.d d)
  | _, _ => none
 | .b => match x, y with
  | .one (.d (.b a)), .one (.d (.b b)) => match op with
   | .eql => some (.one (.d (.b (a == b))))
   | .neq => some (.one (.d (.b (!(a == b)))))
   | _ => none
  | _, _ => none
def eqC : EqK → SC → SC → Option Bool
 | .i, .d (.i k a), .d (.i k' b) => if k = k' then some (a == b) else none
 | .b, .d (.b a), .d (.b b) => some (a == b)
 | .s, .d (.s a), .d (.s b) => some (a == b)
 | _, _, _ => none
def eqCs : List EqK → List SC → List SC → Option Bool
 | [], [], [] => some true
 | k :: ks, a :: as, b :: bs => match eqC k a b, eqCs ks as bs with
  | some x, some y => some (x && y)
  | _, _ => none
 | _, _, _ => none
def unV (op : UnOp) : SV → Option SV
 | .one (.d (.b v)) => match op with | .not => some (.one (.d (.b (!v)))) | _ => none
 | .one (.d (.i k n)) => match op with | .neg => some (.one (.d (.i k (k.wrap (0 - n))))) | _ => none
 | _ => none
def St.lenV (σ : St) : SV → Option Nat
 | .one (.d (.l _ rows)) => some rows.length
 | .one (.nl _) => some 0
 | .one (.r id _ len) => if (σ.obj id).isSome = true then some len else none
 | _ => none
def St.slV (σ : St) (sz : Nat) (x : SV) (lo hi : Option Int) : Option SV :=
 match x with
 | .one (.d (.l s rows)) =>
  if s = sz ∧ 0 ≤ lo.getD 0 ∧ lo.getD 0 ≤ hi.getD rows.length ∧ hi.getD rows.length ≤ rows.length then
   some (.one (.d (.l s ((rows.drop (lo.getD 0).toNat).take (hi.getD rows.length - lo.getD 0).toNat)))) else none
 | .one (.r id off len) => match σ.obj id with
  | some (.arr s _ _) => if s = sz ∧ 0 ≤ lo.getD 0 ∧ lo.getD 0 ≤ hi.getD len ∧ hi.getD len ≤ len then
   some (.one (.r id (off + (lo.getD 0).toNat) (hi.getD len - lo.getD 0).toNat)) else none
  | _ => none
 | .one (.nl s) => if s = sz ∧ lo.getD 0 = 0 ∧ hi.getD 0 = 0 then some (.one (.nl s)) else none
 | .one (.rc id off len cp) => match σ.obj id with
  | some (.arr s _ _) => if s = sz ∧ 0 ≤ lo.getD 0 ∧ lo.getD 0 ≤ hi.getD len ∧ hi.getD len ≤ cp then
   some (.one (.rc id (off + (lo.getD 0).toNat) (hi.getD len - lo.getD 0).toNat (cp - (lo.getD 0).toNat))) else none
  | _ => none
 | _ => none
def St.sl3V (σ : St) (sz : Nat) (x : SV) (lo hi mx : Int) : Option SV :=
 match x with
 | .one (.nl s) => if s = sz ∧ lo = 0 ∧ hi = 0 ∧ mx = 0 then some (.one (.nl sz)) else none
 | .one (.d (.l s rows)) =>
  if s = sz ∧ 0 ≤ lo ∧ lo ≤ hi ∧ hi ≤ mx ∧ mx ≤ rows.length then
   (if lo = mx then some (.one (.nl sz)) else some (.one (.d (.l s ((rows.drop lo.toNat).take (hi - lo).toNat))))) else none
 | .one (.r id off len) => match σ.obj id with
  | some (.arr s _ _) => if s = sz ∧ 0 ≤ lo ∧ lo ≤ hi ∧ hi ≤ mx ∧ mx ≤ len then
   (if lo = mx then some (.one (.nl sz)) else some (.one (.r id (off + lo.toNat) (hi - lo).toNat))) else none
  | _ => none
 | _ => none
def optI (G : Nat → Option (List D)) (σ : St) : Option Od → Option (Option Int)
 | none => some none
 | some x => match σ.ev G x with | .one (.d (.i _ n)) => some (some n) | _ => none
def repl {α : Type} (xs : List α) (off : Nat) (ys : List α) : List α := xs.take off ++ ys ++ xs.drop (off + ys.length)
def St.fill (G : Nat → Option (List D)) (σ : St) : List SC → List (Nat × Nat × Od) → Option (List SC)
 | z, [] => some z
 | z, (off, n, x) :: r => match (σ.ev G x).cells? with
  | some cs => if cs.length = n ∧ off + n ≤ z.length then St.fill G σ (repl z off cs) r else none
  | none => none
def St.putO (σ : St) (d : Option Nat) (v : SV) : St := match d with | some t => σ.put t v | none => σ

inductive Ex where
 | normal
 | exit (n : Nat)
 | ret

def St.rowsOf (σ : St) (sz : Nat) : SV → Option (List (List D))
 | .one (.nl _) => some []
 | .one (.d (.l s rows)) => if s = sz then some rows else none
 | .one (.r id off len) => match σ.obj id with
  | some (.arr s rows _) => if s = sz ∧ off + len ≤ rows.length then some ((rows.drop off).take len) else none
  | _ => none
 | _ => none
def fits (bytes n : Nat) : Prop := n * bytes ≤ 2 ^ 47 ∧ n ≤ maxLen
instance (bytes n : Nat) : Decidable (fits bytes n) := inferInstanceAs (Decidable (_ ∧ _))
def St.app (σ : St) (sz bytes : Nat) (news : List (List D)) : SV → Option (St × SV)
 | .one (.nl _) => if fits bytes news.length then some (σ.new (.arr sz news false), .one (.r σ.next 0 news.length)) else none
 | .one (.r id off len) => match σ.obj id with
  | some (.arr s rows false) =>
   if s = sz ∧ off = 0 ∧ len = rows.length ∧ fits bytes (rows.length + news.length) then
    some ((σ.setO id none).new (.arr sz (rows ++ news) false), .one (.r σ.next 0 (rows.length + news.length))) else none
  | _ => none
 | _ => none
def St.appr (σ : St) (sz : Nat) (news : List (List D)) : SV → Option (St × SV)
 | .one (.rc id off len cp) => match σ.obj id with
  | some (.arr s rows false) =>
   if s = sz ∧ off = 0 ∧ len + news.length ≤ rows.length ∧ len + news.length ≤ cp ∧ 0 < cp ∧ 0 < rows.length then
    some (σ.setO id (some (.arr sz (rows.take len ++ (news ++ rows.drop (len + news.length))) false)), .one (.rc id 0 (len + news.length) cp)) else none
  | _ => none
 | _ => none
def St.appq (σ : St) (sz bytes : Nat) (news : List (List D)) : SV → Option (St × SV)
 | .one (.nl _) => if fits bytes news.length then some (σ.new (.arr sz news true), .one (.r σ.next 0 news.length)) else none
 | .one (.r id off len) => match σ.obj id with
  | some (.arr s rows false) =>
   if s = sz ∧ off = 0 ∧ len = rows.length ∧ fits bytes (rows.length + news.length) then
    some ((σ.setO id none).new (.arr sz (rows ++ news) true), .one (.r σ.next 0 (rows.length + news.length))) else none
  | _ => none
 | _ => none
def St.alive (σ : St) : Ptr → Bool
 | .q id _ _ => (σ.obj id).isSome
 | _ => true
def asInt : SV → Option Int
 | .one (.d (.i _ n)) => some n
 | _ => none
def asStr : SV → Option ByteArray
 | .one (.d (.s s)) => some s
 | _ => none
def x0s (s : ByteArray) : List (List D) := s.data.toList.map fun b => [.i .u8 b.toNat]
def St.apps (σ : St) (bytes : Nat) (y x : SV) : Option (St × SV) := (asStr y).bind fun s => σ.app 1 bytes (x0s s) x
def asAgg : SV → Option (List SC)
 | .agg cs => some cs
 | _ => none
def asBool : SV → Option Bool
 | .one (.d (.b v)) => some v
 | _ => none
def grd : SV → Option (Option Bool)
 | .one (.d (.b v)) => some (some v)
 | .und => some none
 | _ => none
def St.ia (σ : St) (sz : Nat) (n : Int) : SV → Option SV
 | .one (.d (.l s rows)) => if s = sz ∧ 0 ≤ n ∧ n < rows.length then some (.one (.p (.l sz rows n.toNat 0))) else none
 | .one (.r id off len) => match σ.obj id with
  | some (.arr s _ _) => if s = sz ∧ 0 ≤ n ∧ n < len then some (.one (.p (.q id (off + n.toNat) 0))) else none
  | some (.tre s _ _) => if s = sz ∧ 0 ≤ n ∧ n < len then some (.one (.p (.q id (off + n.toNat) 0))) else none
  | _ => none
 | _ => none
def St.outC0 (σ : St) : SC → Option (D × List Nat)
 | .d d => some (d, [])
 | .nl sz => some (.o sz [], [])
 | .r id off len => match σ.obj id with
  | some (.arr sz rows true) => if off + len ≤ rows.length then some (.l sz ((rows.drop off).take len), []) else none
  | some (.arr sz rows false) => if off = 0 ∧ len = rows.length then some (.o sz rows, [id]) else if off = 0 ∧ len ≤ rows.length then some (.o sz (rows.take len), [id]) else none
  | some (.tre sz rows none) => if off = 0 ∧ len = rows.length then some (.t sz rows, [id]) else none
  | _ => none
 | _ => none
def St.outCs (σ : St) : List SC → Option (List D × List Nat)
 | [] => some ([], [])
 | c :: cs => match σ.outC0 c, σ.outCs cs with | some (d, i), some (ds, is) => some (d :: ds, i ++ is) | _, _ => none
def St.outC (σ : St) : SC → Option (D × List Nat)
 | .p (.q id 0 0) => match σ.obj id with
  | some (.box cells) => (σ.outCs cells).map fun r => (.x r.1, id :: r.2)
  | _ => none
 | c => σ.outC0 c
def St.outEs (σ : St) : List SC → Option (List D × List Nat)
 | [] => some ([], [])
 | c :: cs => match σ.outC c, σ.outEs cs with | some (d, i), some (ds, is) => some (d :: ds, i ++ is) | _, _ => none
def St.addD0 (σ : St) : D → St × SC
 | .o sz rows => (σ.new (.arr sz rows false), .r σ.next 0 rows.length)
 | .t sz rows => (σ.new (.tre sz rows none), .r σ.next 0 rows.length)
 | .x _ => (σ, .dead)
 | .w => (σ, .dead)
 | d => (σ, .d d)
def St.addDs (σ : St) : List D → St × List SC
 | [] => (σ, [])
 | d :: ds => (((σ.addD0 d).1.addDs ds).1, (σ.addD0 d).2 :: ((σ.addD0 d).1.addDs ds).2)
def St.addD (σ : St) : D → St × SC
 | .x cells => ((σ.addDs cells).1.new (.box (σ.addDs cells).2), .p (.q (σ.addDs cells).1.next 0 0))
 | d => σ.addD0 d
def St.addEs (σ : St) : List D → St × List SC
 | [] => (σ, [])
 | d :: ds => (((σ.addD d).1.addEs ds).1, (σ.addD d).2 :: ((σ.addD d).1.addEs ds).2)
def u0j : List Nat → Bool
 | [] => true
 | x :: xs => !xs.contains x && u0j xs
def St.kills : List Nat → St → St
 | [], σ => σ
 | m :: ms, σ => St.kills ms (σ.setO m none)
def D.fw : D → D
 | .o sz rows => .l sz rows
 | .x _ => .w
 | .t _ _ => .w
 | d => d
inductive GC where
 | z (m : Nat)
 | f (u i : Nat)
 | u (u : Nat)
 deriving Inhabited
def St.ghZ (σ : St) (m : Nat) : St := match σ.obj m with
 | some (.arr sz rows false) => σ.setO m (some (.arr sz rows true))
 | some (.tre sz rows none) => σ.setO m (some (.arr sz (rows.map (List.map D.fw)) true))
 | _ => σ
def St.ghF (σ : St) (u i : Nat) : St := match σ.obj u with
 | some (.tre sz rows none) => match rows[i]? with
  | some ds => ((σ.addEs ds).1).setO u (some (.tre sz rows (some (i, (σ.addEs ds).2))))
  | none => σ
 | _ => σ
def St.ghU (σ : St) (u : Nat) : St := match σ.obj u with
 | some (.tre sz rows (some (i, cs))) => match σ.outEs cs with
  | some (ds, ids) => if u0j (u :: ids) = true ∧ ((u :: ids).all fun k => (σ.obj k).isSome) = true then (St.kills ids σ).setO u (some (.tre sz (rows.set i ds) none)) else σ
  | none => σ
 | _ => σ
def St.gh1 (σ : St) : GC → St
 | .z m => σ.ghZ m
 | .f u i => σ.ghF u i
 | .u u => σ.ghU u
def St.frz : List GC → St → St
 | [], σ => σ
 | g :: gs, σ => St.frz gs (σ.gh1 g)
def rowsN (sz : Nat) : Nat → List D → List (List D)
 | 0, _ => []
 | n + 1, ds => ds.take sz :: rowsN sz n (ds.drop sz)
def rowsT (sz m : Nat) (ds : List D) : List (List D) := rowsN sz m ds
def St.iaa (σ : St) (m sz : Nat) (n : Int) : SV → Option SV
 | .one (.d (.k cells)) => if (0 ≤ n ∧ n < m) ∧ cells.length = m * sz then some (.one (.p (.l sz (rowsT sz m cells) n.toNat 0))) else none
 | .one (.p p) => if (0 ≤ n ∧ n < m) ∧ σ.alive p = true then some (.one (.p (z0x (n.toNat * sz) p))) else none
 | _ => none
def slaV (m sz : Nat) (lo hi : Option Int) : SV → Option SV
 | .one (.d (.k cells)) => if (0 ≤ lo.getD 0 ∧ lo.getD 0 ≤ hi.getD m ∧ hi.getD m ≤ m) ∧ cells.length = m * sz ∧ m ≤ maxLen then
  some (.one (.d (.l sz (((rowsT sz m cells).drop (lo.getD 0).toNat).take (hi.getD m - lo.getD 0).toNat)))) else none
 | _ => none
def mmV (mx : Bool) : SV → SV → Option SV
 | .one (.d (.i k a)), .one (.d (.i _ b)) => some (.one (.d (.i k (if mx = true then (if b > a then b else a) else (if b < a then b else a)))))
 | _, _ => none
def psOf (G : Nat → Option (List D)) (σ : St) : List Od → Option (List Ptr)
 | [] => some []
 | x :: xs => (asPtr (σ.ev G x)).bind fun p => (psOf G σ xs).map (p :: ·)
def svExt (i : Nat) : SV → Option SV
 | .tup vs => vs[i]?
 | _ => none
def mul1 (sz : Nat) : List (Nat × Od) → List (Nat × Nat × Od)
 | [] => []
 | (i, x) :: r => (i * sz, sz, x) :: mul1 sz r
def bytesOf : List (List D) → Option (List Int)
 | [] => some []
 | [.i .u8 n] :: r => (bytesOf r).map (n :: ·)
 | _ :: _ => none
def St.clr (σ : St) (sz : Nat) (ds : List D) : SV → Option St
 | .one (.nl _) => some σ
 | .one (.r id off len) => match σ.obj id with
  | some (.arr s rows false) => if s = sz ∧ off + len ≤ rows.length then some (σ.setO id (some (.arr s (rows.take off ++ (List.replicate len ds ++ rows.drop (off + len))) false))) else none
  | _ => none
 | _ => none
def St.capV (σ : St) : SV → Option Nat
 | .one (.nl _) => some 0
 | .one (.rc id _ _ cp) => if (σ.obj id).isSome = true then some cp else none
 | _ => none
def St.appz (σ : St) (sz bytes : Nat) (ds : List D) (l : Nat) : SV → Option (List (List D))
 | .one (.nl _) => if fits bytes l then some (List.replicate l ds) else none
 | .one (.rc id off len cp) => match σ.obj id with
  | some (.arr s rows _) => if (s = sz ∧ off + len ≤ rows.length ∧ cp < len + l) ∧ fits bytes (len + l) then some ((rows.drop off).take len ++ List.replicate l ds) else none
  | _ => none
 | _ => none
def St.srcOf (σ : St) (sz k : Nat) : SV → Option (List (List D))
 | .one (.r id off len) => match σ.obj id with
  | some (.arr s rows _) => if s = sz ∧ k ≤ len ∧ off + k ≤ rows.length then some ((rows.drop off).take k) else none
  | _ => none
 | _ => none
def lenS : SV → Nat
 | .one (.r _ _ len) => len
 | _ => 0
def St.cpy (σ : St) (sz : Nat) (y : SV) : SV → Option (St × Nat)
 | .one (.r id off len) => match σ.obj id with
  | some (.arr s rows false) => if s = sz ∧ off ≤ rows.length then (σ.srcOf sz (min (lenS y) len) y).map fun ys =>
   (σ.setO id (some (.arr s (rows.take off ++ (ys ++ rows.drop (off + min (lenS y) len))) false)), min (lenS y) len) else none
  | _ => none
 | _ => none
def rowsE (σ : St) (sz : Nat) : Nat → List SC → Option (List (List D) × List Nat)
 | 0, _ => some ([], [])
 | n + 1, cs => match σ.outEs (cs.take sz), rowsE σ sz n (cs.drop sz) with | some (d, i), some (ds, is) => if d.length = sz then some (d :: ds, i ++ is) else none | _, _ => none
def St.bslW (G : Nat → Option (List D)) (σ : St) (sz n : Nat) (z : List SC) (parts : List (Nat × Od)) : Option (St × SV) :=
 (σ.fill G (List.replicate n z).flatten (mul1 sz parts)).bind fun cs => (rowsE σ sz n cs).bind fun r =>
   if u0j r.2 = true ∧ (r.2.all fun k => (σ.obj k).isSome) = true then some ((St.kills r.2 σ).new (.tre sz r.1 none), .one (.r σ.next 0 n)) else none
def St.appW (σ : St) (sz bytes : Nat) (y : SV) : SV → Option (St × SV)
 | .one (.nl _) => match y with
  | .one (.r id' off' len') => match σ.obj id' with
   | some (.tre s' rows' none) => if (s' = sz ∧ off' = 0 ∧ len' = rows'.length) ∧ fits bytes rows'.length then some ((σ.setO id' none).new (.tre sz rows' none), .one (.r σ.next 0 rows'.length)) else none
   | _ => none
  | _ => none
 | .one (.r id off len) => match σ.obj id, y with
  | some (.tre s rows none), .one (.r id' off' len') => match σ.obj id' with
   | some (.tre s' rows' none) => if (s' = sz ∧ off' = 0 ∧ len' = rows'.length) ∧ (s = sz ∧ off = 0 ∧ len = rows.length) ∧ id ≠ id' ∧ fits bytes (rows.length + rows'.length) then
    some (((σ.setO id none).setO id' none).new (.tre sz (rows ++ rows') none), .one (.r σ.next 0 (rows.length + rows'.length))) else none
   | _ => none
  | _, _ => none
 | _ => none
def stepF (G : Nat → Option (List D)) (op : VOp) (σ : St) : Option (St × SV) :=
 match op with
 | .mv x => some (σ, σ.ev G x)
 | .pick c a b => (asBool (σ.ev G c)).map fun t => (σ, if t = true then σ.ev G a else σ.ev G b)
 | .alloc z => some (σ.new (.box z), .one (.p (.q σ.next 0 0)))
 | .box n x => (σ.ev G x).cells?.bind fun cs => if cs.length = n then some (σ.new (.box cs), .one (.p (.q σ.next 0 0))) else none
 | .boxk n x => (σ.ev G x).cells?.bind fun cs => if cs.length = n then (σ.toDs cs).map fun ds => (σ, .one (.d (.k ds))) else none
 | .build z parts => (σ.fill G z parts).map fun cs => (σ, .agg cs)
 | .bsl sz n z parts => (σ.fill G (List.replicate n z).flatten (mul1 sz parts)).bind fun cs => (σ.toDs cs).map fun ds =>
  (σ.new (.arr sz (rowsN sz n ds) false), .one (.r σ.next 0 n))
 | .bslf sz n z parts => (σ.fill G (List.replicate n z).flatten (mul1 sz parts)).bind fun cs => (σ.toDs cs).map fun ds =>
  (σ.new (.arr sz (rowsN sz n ds) true), .one (.r σ.next 0 n))
 | .appf sz bytes n y => (σ.rowsOf sz (σ.ev G y)).bind fun news => if fits bytes news.length then some (σ.new (.arr sz news true), .one (.r σ.next 0 news.length)) else none
 | .ld agg n a => (asPtr (σ.ev G a)).bind fun p => (σ.ld n p).bind fun cs => (mkV agg cs).map fun v => (σ, v)
 | .st n a x => (asPtr (σ.ev G a)).bind fun p => (σ.ev G x).cells?.bind fun cs => if cs.length = n then (σ.stO cs p).map fun σ' => (σ', .dead) else none
 | .fa off x => (asPtr (σ.ev G x)).bind fun p => if σ.alive p = true then some (σ, .one (.p (z0x off p))) else none
 | .fl agg off n x => (asAgg (σ.ev G x)).bind fun cs => if off + n ≤ cs.length then (mkV agg ((cs.drop off).take n)).map fun v => (σ, v) else none
 | .ia sz x ix => (asInt (σ.ev G ix)).bind fun n => (σ.ia sz n (σ.ev G x)).map fun v => (σ, v)
 | .iaa m sz x ix => (asInt (σ.ev G ix)).bind fun n => (σ.iaa m sz n (σ.ev G x)).map fun v => (σ, v)
 | .ix x ix => (asInt (σ.ev G ix)).bind fun n => (asStr (σ.ev G x)).bind fun s => if 0 ≤ n ∧ n < s.size then some (σ, .one (.d (.i .u8 (s.data.toList.getD n.toNat 0).toNat))) else none
 | .sl sz x lo hi => (optI G σ lo).bind fun l => (optI G σ hi).bind fun h => (σ.slV sz (σ.ev G x) l h).map fun v => (σ, v)
 | .sl3 sz x lo hi mx => (optI G σ lo).bind fun l => (asInt (σ.ev G hi)).bind fun h => (asInt (σ.ev G mx)).bind fun m => (σ.sl3V sz (σ.ev G x) (l.getD 0) h m).map fun v => (σ, v)
 | .sla n sz x lo hi => (optI G σ lo).bind fun lo => (optI G σ hi).bind fun hi => (slaV n sz lo hi (σ.ev G x)).map fun v => (σ, v)
 | .sls x lo hi => (asStr (σ.ev G x)).bind fun s => (optI G σ lo).bind fun lo => (optI G σ hi).bind fun hi =>
  if 0 ≤ lo.getD 0 ∧ lo.getD 0 ≤ hi.getD s.size ∧ hi.getD s.size ≤ s.size then some (σ, .one (.d (.s (s.extract (lo.getD 0).toNat (hi.getD s.size).toNat)))) else none
 | .bin k op x y => (binV k op (σ.ev G x) (σ.ev G y)).map fun v => (σ, v)
 | .eqs neg ks x y => (asAgg (σ.ev G x)).bind fun a => (asAgg (σ.ev G y)).bind fun b => (eqCs ks a b).map fun t => (σ, .one (.d (.b (if neg = true then !t else t))))
 | .un op x => (unV op (σ.ev G x)).map fun v => (σ, v)
 | .cvi k x => (asInt (σ.ev G x)).map fun n => (σ, .one (.d (.i k (k.wrap n))))
 | .cid x => (asStr (σ.ev G x)).map fun s => (σ, .one (.d (.s s)))
 | .len x => (σ.lenV (σ.ev G x).ur).map fun (n : Nat) => (σ, .one (.d (.i .i64 (n : Int))))
 | .lens x => (asStr (σ.ev G x)).map fun s => (σ, .one (.d (.i .i64 s.size)))
 | .inil neg x => (nilV (σ.ev G x)).map fun b => (σ, .one (.d (.b (if neg = true then !b else b))))
 | .mkf fn caps => (psOf G σ caps).map fun ps => (σ, .one (.c fn ps))
 | .ext x i => (svExt i (σ.ev G x)).map fun v => (σ, v)
 | .nilchk x => (asPtr (σ.ev G x)).bind fun p => if σ.alive p = true then some (σ, .one (.p p)) else none
 | .app sz bytes x y => (σ.rowsOf sz (σ.ev G y)).bind fun news => σ.app sz bytes news (σ.ev G x).ur
 | .appq sz bytes x y => (σ.rowsOf sz (σ.ev G y)).bind fun news => σ.appq sz bytes news (σ.ev G x).ur
 | .appr sz _ x y => (σ.rowsOf sz (σ.ev G y).ur).bind fun news => σ.appr sz news (σ.ev G x)
 | .mks sz bytes z l c => (asInt (σ.ev G l)).bind fun l => (asInt (σ.ev G c)).bind fun c => (σ.toDs z).bind fun ds =>
  if l = c ∧ 0 ≤ l ∧ l * bytes ≤ 2 ^ 47 ∧ l ≤ maxLen ∧ ds.length = sz then some (σ.new (.arr sz (List.replicate l.toNat ds) false), .one (.r σ.next 0 l.toNat)) else none
 | .mm mx x y => (mmV mx (σ.ev G x) (σ.ev G y)).map fun v => (σ, v)
 | .b2s x => ((σ.rowsOf 1 (σ.ev G x)).bind bytesOf).map fun xs => (σ, .one (.d (.s (strOfNums xs))))
 | .clr sz z x => (σ.toDs z).bind fun ds => if ds.length = sz then (σ.clr sz ds (σ.ev G x).ur).map fun σ' => (σ', .dead) else none
 | .cap x => (σ.capV (σ.ev G x)).map fun (n : Nat) => (σ, .one (.d (.i .i64 (n : Int))))
 | .appz sz bytes z x n => (asInt (σ.ev G n)).bind fun l => (σ.toDs z).bind fun ds =>
  if 0 < l ∧ ds.length = sz then (σ.appz sz bytes ds l.toNat (σ.ev G x)).map fun rows => (σ.new (.arr sz rows false), .one (.r σ.next 0 rows.length)) else none
 | .cpy sz x y => (σ.cpy sz (σ.ev G y).ur (σ.ev G x).ur).map fun r => (r.1, .one (.d (.i .i64 (r.2 : Int))))
 | .bad => none
 | .gho => none
 | .call .. | .callv .. | .isnil .. | .bslw .. | .appw .. | .apps .. | .allocb .. => none

def CallV (P : Program) (G : Nat → Option (List D)) (f : Nat) (svs : List SV) (σ : St) (K : St → SV → Prop) : Prop :=
 (fOk P f = true ∧ ∀ X tm w O Im vals, SimW G X σ tm w O Im → (∀ u, σ.next ≤ u → O u = .free) → RelVs w.heap Im O svs vals →
   Calls P f vals.toArray w fun e w' => ∃ v σ' sv O' Im', e = .returned v ∧ K σ' sv ∧ SimW G X σ' tm w' O' Im' ∧ (∀ u, σ'.next ≤ u → O' u = .free) ∧ RelV w'.heap Im' O' sv v) ∨
 (∀ X tm w O Im vals, SimW G X σ tm w O Im → (∀ u, σ.next ≤ u → O u = .free) → RelVs w.heap Im O svs vals →
   ∃ v w' σ' sv O' Im', (callFunc f vals.toArray).run P w = .ok (.value v) w' ∧ K σ' sv ∧ SimW G X σ' tm w' O' Im' ∧ (∀ u, σ'.next ≤ u → O' u = .free) ∧ RelV w'.heap Im' O' sv v)

def addO (σ : St) : Option VO → St
 | some o => σ.new o
 | none => σ
def CallD (P : Program) (G : Nat → Option (List D)) (f : Nat) (svs : List SV) (σ : St) (res : Option VO) (v : SV) : Prop :=
 fOk P f = true ∧ ∀ τ : St, (∀ u o, σ.objs u = some o → τ.objs u = some o) → τ.next = σ.next → ∀ X tm w O Im vals, SimW G X τ tm w O Im → O τ.next = .free → RelVs w.heap Im O svs vals →
  Calls P f vals.toArray w fun e w' => ∃ u O' Im', e = .returned u ∧ SimW G X (addO τ res) tm w' O' Im' ∧ RelV w'.heap Im' O' v u ∧ ∀ k, k ≠ τ.next → O k = .free → O' k = .free
def isHid (base : Nat) (hid hido : List Nat) (u : Nat) : Bool := (hid.any fun k => base + k == u) || hido.contains u
def St.vis (base i : Nat) (hid hido : List Nat) (σ : St) : St := ⟨σ.slots, fun u => if isHid base hid hido u = true then none else σ.objs u, base + i⟩
def St.back (base : Nat) (hid hido : List Nat) (σ σ' : St) : St := ⟨σ'.slots, fun u => if isHid base hid hido u = true then σ.objs u else σ'.objs u, σ'.next⟩
def ptrId (G : Nat → Option (List D)) (σ : St) : VOp → Option Nat
 | .st _ a _ => match asPtr (σ.ev G a) with | some (.q u _ _) => some u | _ => none
 | .app _ _ x _ => match (σ.ev G x).ur with | .one (.r u _ _) => some u | _ => none
 | .appq _ _ x _ => match (σ.ev G x).ur with | .one (.r u _ _) => some u | _ => none
 | _ => none
def chkH (own : Nat) (prv : Option Nat) (hido : List Nat) : Bool := (hido.all fun u => u != own) && match prv with | none => true | some u => decide (u < own)
def chkB (G : Nat → Option (List D)) (prv : Option Nat) (hido : List Nat) (own : Nat) (op : VOp) (σ : St) : Bool :=
 chkH own prv hido && match prv with | none => true | some u => ptrId G σ op == some u
def chkQ (b : Bool) (K : Prop) : Prop := b = true ∧ K
def dOp (P : Program) (G : Nat → Option (List D)) (op : VOp) (σ : St) (K : St → SV → Prop) : Prop :=
 match op with
 | .call f args => ∃ res v, CallD P G f (args.map (σ.ev G)) σ res v ∧ K (addO σ res) v
 | .callv .. => False
 | .isnil .. => False
 | op => ∃ r, stepF G op σ = some r ∧ K r.1 r.2
def wDraw (P : Program) (G : Nat → Option (List D)) (base : Nat) : Nat → List DOper → (Ex → St → Prop) → St → Prop
 | i, [], Q, σ => Q .normal ⟨σ.slots, σ.objs, base + i⟩
 | i, d :: r, Q, σ => match d.o.guard with
  | none => chkQ (chkB G d.prv d.hido (base + i) d.o.op (σ.vis base i d.hid d.hido)) (dOp P G d.o.op (σ.vis base i d.hid d.hido) fun σ' v => wDraw P G base (i + 1) r Q ((σ.back base d.hid d.hido σ').putO d.o.dst v))
  | some (t, want) => chkQ (chkH (base + i) d.prv d.hido) <| ∃ v, grd (σ.get t) = some v ∧
   if v = some want then chkQ (chkB G d.prv d.hido (base + i) d.o.op (σ.vis base i d.hid d.hido)) (dOp P G d.o.op (σ.vis base i d.hid d.hido) fun σ' v => wDraw P G base (i + 1) r Q ((σ.back base d.hid d.hido σ').putO d.o.dst v))
   else wDraw P G base (i + 1) r Q (σ.putO d.o.dst .und)

/-! ### A state may be forgotten in part, and its objects named anew -/
def SC.isNl : SC → Bool
 | .nl _ => true
 | _ => false
def Ptr.wk (rn : List (Option Nat)) : Ptr → Ptr → Prop
 | .q id i j, x => match rn[id]? with | some (some m) => x = .q m i j | _ => False
 | .l sz rows i j, x => x = .l sz rows i j
def w3n (rn : List (Option Nat)) : List Ptr → List Ptr → Prop
 | [], [] => True
 | x :: xs, y :: ys => x.wk rn y ∧ w3n rn xs ys
 | _, _ => False
def SC.wk (rn : List (Option Nat)) (σ : St) : SC → SC → Prop
 | .d e, y => σ.toD y = some e
 | .nl _, y => y.isNl = true
 | .r id off len, y => match rn[id]? with | some (some m) => y.ur = .r m off len | some none => off = 0 ∧ len = 0 ∧ y.isNl = true | none => False
 | .p x, .p y => x.wk rn y
 | .c fn caps, .c fn' caps' => fn = fn' ∧ w3n rn caps caps'
 | .dead, _ => True
 | _, _ => False
def x1p (rn : List (Option Nat)) (σ : St) : List SC → List SC → Prop
 | [], [] => True
 | x :: xs, y :: ys => x.wk rn σ y ∧ x1p rn σ xs ys
 | _, _ => False
def SV.wk (rn : List (Option Nat)) (σ : St) : SV → SV → Prop
 | .one c, .one c' => c.wk rn σ c'
 | .agg cs, .agg cs' => x1p rn σ cs cs'
 | .dead, _ => True
 | .und, .und => True
 | _, _ => False
def VO.wk (rn : List (Option Nat)) (σ : St) : VO → VO → Prop
 | .tre sz rows none, .tre sz' rows' none => sz' = sz ∧ rows' = rows
 | .bld T e l, .bld T' e' l' => T' = T ∧ e' = e ∧ l' = l
 | .tre sz rows (some (i, cs)), .tre sz' rows' (some (i', cs')) => (sz' = sz ∧ rows' = rows ∧ i' = i) ∧ x1p rn σ cs cs'
 | .arr sz rows fz, .arr sz' rows' fz' => (sz' = sz ∧ fz' = fz) ∧ rows <+: rows'
 | .box cells, .box cells' => x1p rn σ cells cells'
 | _, _ => False
def y3o (rn : List (Option Nat)) (σ : St) (o : VO) : Option VO → Prop
 | some o' => o.wk rn σ o'
 | none => False
def lookS : List (Nat × SV) → Nat → SV
 | [], _ => .dead
 | (k, v) :: r, t => if t = k then v else lookS r t
def St.of (sl : List (Nat × SV)) (ob : List (Option VO)) : St := ⟨lookS sl, fun u => (ob[u]?).join, ob.length⟩
def yo (rn : List (Option Nat)) (σ : St) : List (Nat × SV) → Prop
 | [] => True
 | (t, v) :: r => v.wk rn σ (σ.get t) ∧ yo rn σ r
def objWk (rn : List (Option Nat)) (σ : St) : Option VO → Option Nat → Prop
 | none, _ => True
 | some o, some m => y3o rn σ o (σ.obj m)
 | some (.arr _ [] _), none => True
 | some (.tre _ [] none), none => True
 | some _, none => False
def vq (rn : List (Option Nat)) (σ : St) : List (Option VO) → List (Option Nat) → Prop
 | [], [] => True
 | o :: os, m :: ms => objWk rn σ o m ∧ vq rn σ os ms
 | _, _ => False
def zu : List (Option Nat) → Bool
 | [] => true
 | none :: xs => zu xs
 | some x :: xs => !xs.contains (some x) && zu xs
def Wk (σ : St) (sl : List (Nat × SV)) (ob : List (Option VO)) : Prop := ∃ rn, ∃ fs : List GC, zu rn = true ∧ yo rn (σ.frz fs) sl ∧ vq rn (σ.frz fs) ob rn

section
variable (P : Program) (G : Nat → Option (List D))
def wOp (op : VOp) (σ : St) (K : St → SV → Prop) : Prop :=
 match op with
 | .call f args => CallV P G f (args.map (σ.ev G)) σ K
 | .callv f args => match σ.ev G f with
  | .one (.c fn caps) => CallV P G fn (args.map (σ.ev G) ++ caps.map fun x => .one (.p x)) σ K
  | .one (.d (.f fn caps)) => CallV P G fn (args.map (σ.ev G) ++ caps.map fun d => .one (.d d)) σ K
  | _ => False
 | .len x => ∃ n, σ.lenV (σ.ev G x).ur = some n ∧ (n ≤ maxLen → K σ (.one (.d (.i .i64 (n : Int)))))
 | .bslw sz n z parts => ∃ r, σ.bslW G sz n z parts = some r ∧ K r.1 r.2
 | .appw sz bytes x y => ∃ r, σ.appW sz bytes (σ.ev G y) (σ.ev G x) = some r ∧ K r.1 r.2
 | .allocb T e => K (σ.new (.bld T e [])) (.one (.p (.q σ.next 0 0)))
 | .apps bytes x y => ∃ r, σ.apps bytes (σ.ev G y) (σ.ev G x).ur = some r ∧ K r.1 r.2
 | .isnil neg x => ∃ n, σ.lenV (σ.ev G x) = some n ∧ (if n = 0 then ∀ b, K σ (.one (.d (.b b))) else K σ (.one (.d (.b neg))))
 | op => ∃ r, stepF G op σ = some r ∧ K r.1 r.2
def wOps : List VOper → (Ex → St → Prop) → St → Prop
 | [], Q, σ => Q .normal σ
 | o :: r, Q, σ => match o.guard with
  | none => wOp P G o.op σ fun σ' v => wOps r Q (σ'.putO o.dst v)
  | some (t, want) => ∃ v, grd (σ.get t) = some v ∧ if v = some want then wOp P G o.op σ fun σ' v => wOps r Q (σ'.putO o.dst v) else wOps r Q (σ.putO o.dst .und)
def wAll : List (List VOper) → (Ex → St → Prop) → St → Prop
 | [], _, _ => True
 | o :: r, Q, σ => wOps P G o Q σ ∧ wAll r Q σ
def wRegs : List (List VOper) → (Ex → St → Prop) → St → Prop
 | [], Q, σ => Q .normal σ
 | [a], Q, σ => wOps P G a Q σ
 | a :: b :: r, Q, σ => wOps P G a (fun e σ' => match e with | .normal => ∃ sl ob, Wk σ' sl ob ∧ wRegs (b :: r) Q (St.of sl ob) | _ => False) σ
def chkF (o : VOper) (σ : St) : Prop := match ((stepF G o.op σ).map fun r => r.2 : Option SV) with
 | some (SV.one (SC.p (Ptr.q u i j))) => σ.get (o.dst.getD 0) = .one (.p (.q u i j)) ∧ (σ.obj u).isSome = true
 | _ => False
def v2f (o : VOper) : List VOper → (Ex → St → Prop) → St → Prop
 | [], _, _ => False
 | x :: r, Q, σ => wOps P G [x] (fun e σ' => match e with | .normal => chkF G o σ' ∧ wOps P G r Q σ' | _ => False) σ
def wpv : VCode → (Ex → St → Prop) → St → Prop
 | .skip, Q, σ => Q .normal σ
 | .reg ops, Q, σ => wOps P G ops Q σ
 | .draw ops, Q, σ => wDraw P G σ.next 0 ops Q σ
 | .seq a b, Q, σ => wpv a (fun e σ' => match e with | .normal => wpv b Q σ' | e => Q e σ') σ
 | .cond c x y, Q, σ => ∃ t, asBool (σ.ev G c) = some t ∧ if t = true then wpv x Q σ else wpv y Q σ
 | .block id c, Q, σ => wpv c (fun e σ' => match e with | .exit n => if n = id then Q .normal σ' else Q (.exit n) σ' | e => Q e σ') σ
 | .loop c, Q, σ => ∃ (I : Nat → St → Prop) (n : Nat), (I n σ ∨ ∃ sl ob, Wk σ sl ob ∧ I n (St.of sl ob)) ∧ ∀ n σ', I n σ' → wpv c (fun e σ'' => match e with | .normal => ∃ m, m < n ∧ (I m σ'' ∨ ∃ sl ob, Wk σ'' sl ob ∧ I m (St.of sl ob)) | e => Q e σ'') σ'
 | .exit n, Q, σ => Q (.exit n) σ
 | .ret, Q, σ => Q .ret σ
 | .orders l, Q, σ => wAll P G l Q σ
 | .regs l, Q, σ => wRegs P G l Q σ
 | .pre c, Q, σ => ∃ sl ob, Wk σ sl ob ∧ wpv c Q (St.of sl ob)
 | .gho c, Q, σ => ∃ gs : List GC, wpv c Q (σ.frz gs)
 | .drawt m ds, Q, σ => if m < 1000 then wDraw P G σ.next 0 (ds.take m) (fun e σ' => match e with | .normal => wOps P G ((ds.drop m).map DOper.o) Q σ' | _ => False) σ
  else wDraw P G σ.next 0 (ds.take (m % 1000)) (fun e σ' => match e with | .normal => v2f P G (ds.getD (m / 1000 - 1) default).o ((ds.drop (m % 1000)).map DOper.o) Q σ' | _ => False) σ
 | .room t c, Q, σ => ∃ id off len sz rows fz, σ.get t = .one (.r id off len) ∧ σ.obj id = some (.arr sz rows fz) ∧ ∀ cp, len ≤ cp → cp ≤ maxLen → wpv c Q (σ.put t (.one (.rc id off len cp)))
 | .wk c, Q, σ => wpv c (fun e σ' => match e with | .normal => ∃ sl ob, Wk σ' sl ob ∧ Q .normal (St.of sl ob) | e => Q e σ') σ
end
def upd {α : Type} (f : Nat → α) (n : Nat) (x : α) : Nat → α := fun u => if u = n then x else f u
theorem xf {α : Type} (f : Nat → α) (n : Nat) (x : α) : upd f n x n = x := by simp [upd]
theorem yf {α : Type} (f : Nat → α) (n u : Nat) (x : α) (h : u ≠ n) : upd f n x u = f u := by simp [upd, h]

theorem Ext.trans' {F : Nat → Prop} {w w1 w2 : World} (h : Ext F w w1) (hos : w2.os = w1.os) (htape : w2.tape = w1.tape) (hout : w2.output = w1.output) (hsz : w1.heap.size ≤ w2.heap.size)
 (hb : ∀ b, b < w.heap.size → ¬ F b → w2.heap[b]? = w1.heap[b]?) : Ext F w w2 :=
 ⟨hos.trans h.os, htape.trans h.tape, hout.trans h.output, Nat.le_trans h.size hsz, fun b hl hf => (hb b hl hf).trans (h.block b hl hf)⟩

section
variable {G : Nat → Option (List D)} {X : Ctx} {σ : St} {tm : Array Value} {w : World} {O : Nat → LS} {Im : Nat → Prop}

theorem SimW.ownblk (s : SimW G X σ tm w O Im) {u o l b} (ho : σ.objs u = some o) (hl : O u = .live l) (hb : Own o l b) : ¬ Im b ∧ b < w.heap.size ∧ (X.own b ∨ X.w0.heap.size ≤ b) := by
 obtain ⟨l', e, _, h⟩ := s.obj u o ho
 rw [hl] at e; cases e
 exact h b hb

theorem SimW.world (s : SimW G X σ tm w O Im) {w' : World} (hext : Ext X.own X.w0 w') (hsz : w.heap.size ≤ w'.heap.size)
 (hk : ∀ b, b < w.heap.size → (Im b ∨ ∃ u o l, σ.objs u = some o ∧ O u = .live l ∧ Own o l b) → w'.heap[b]? = w.heap[b]?) : SimW G X σ tm w' O Im := by
 have m : Moves w.heap w'.heap Im Im O O := ⟨fun _ h => h, fun b hb => hk b (s.imlt b hb) (.inl hb), fun _ _ => .inl rfl⟩
 refine ⟨hext, s.ownlt, fun b hb => Nat.lt_of_lt_of_le (s.imlt b hb) hsz, s.im0, s.im1, s.dead, ?_, s.disj, fun t => (s.slot t).moves m, fun g c hg => (s.glob g c hg).moves m⟩
 intro u o ho
 obtain ⟨l, hl, hr, hb⟩ := s.obj u o ho
 exact ⟨l, hl, hr.moves m (fun b h => ⟨hk b (hb b h).2.1 (.inr ⟨u, o, l, ho, hl, h⟩), (hb b h).1⟩), fun b h => ⟨(hb b h).1, Nat.lt_of_lt_of_le (hb b h).2.1 hsz, (hb b h).2.2⟩⟩
theorem SimW.alloc (s : SimW G X σ tm w O Im) (ob : Obj) : SimW G X σ tm (w.alloc ob) O Im :=
 s.world (s.ext.trans' rfl rfl rfl (by simp) (fun b hb _ => Go.RowKit.Below.heap_alloc w ob b (Nat.lt_of_lt_of_le hb s.ext.size))) (by simp) (fun b hb _ => Go.RowKit.Below.heap_alloc w ob b hb)
theorem SimW.drawn (s : SimW G X σ tm w O Im) (n : Nat) : SimW G X σ tm { w with drawn := n } O Im :=
 s.world (s.ext.trans' rfl rfl rfl (Nat.le_refl _) (fun _ _ _ => rfl)) (Nat.le_refl _) (fun _ _ _ => rfl)

theorem SimW.adopt (s : SimW G X σ tm w O Im) {n : Nat} (hn : O n = .free) {vo : VO} {l : Loc} (hr : RelO w.heap Im (upd O n (.live l)) vo l)
 (hb : ∀ b, Own vo l b → ¬ Im b ∧ b < w.heap.size ∧ (X.own b ∨ X.w0.heap.size ≤ b) ∧ ∀ u o l', σ.objs u = some o → O u = .live l' → ¬ Own o l' b)
 {σ' : St} (h1 : σ'.slots = σ.slots) (h2 : σ'.objs = upd σ.objs n (some vo)) : SimW G X σ' tm w (upd O n (.live l)) Im := by
 have m : Moves w.heap w.heap Im Im O (upd O n (.live l)) := ⟨fun _ h => h, fun _ _ => rfl, fun u hu => .inl (yf _ _ _ _ (fun e => hu (e ▸ hn)))⟩
 refine ⟨s.ext, s.ownlt, s.imlt, s.im0, s.im1, ?_, ?_, ?_, fun t => by rw [h1]; exact (s.slot t).moves m, s.glob⟩
 ·intro u hu l'
  rw [h2] at hu
  by_cases e : u = n
  ·subst e; rw [xf] at hu; cases hu
  ·rw [yf _ _ _ _ e] at hu ⊢; exact s.dead u hu l'
 ·intro u o ho
  rw [h2] at ho
  by_cases e : u = n
  ·subst e; rw [xf] at ho ⊢; cases ho
   exact ⟨l, rfl, hr, fun b h => ⟨(hb b h).1, (hb b h).2.1, (hb b h).2.2.1⟩⟩
  ·rw [yf _ _ _ _ e] at ho ⊢
   obtain ⟨l', hl, hr', hb'⟩ := s.obj u o ho
   exact ⟨l', hl, hr'.moves m (fun b h => ⟨rfl, (hb' b h).1⟩), hb'⟩
 ·intro u u' o o' lu lu' b hne ho ho' hl hl' hbo hbo'
  rw [h2] at ho ho'
  by_cases e : u = n
  ·subst e; rw [xf] at ho hl; cases ho; cases hl
   rw [yf _ _ _ _ (Ne.symm hne)] at ho' hl'
   exact (hb b hbo).2.2.2 u' o' lu' ho' hl' hbo'
  ·rw [yf _ _ _ _ e] at ho hl
   by_cases e' : u' = n
   ·subst e'; rw [xf] at ho' hl'; cases ho'; cases hl'
    exact (hb b hbo').2.2.2 u o lu ho hl hbo
   ·rw [yf _ _ _ _ e'] at ho' hl'
    exact s.disj u u' o o' lu lu' b hne ho ho' hl hl' hbo hbo'

theorem SimW.kill (s : SimW G X σ tm w O Im) (n : Nat) : SimW G X (σ.setO n none) tm w (upd O n .gone) Im := by
 have m : Moves w.heap w.heap Im Im O (upd O n .gone) := ⟨fun _ h => h, fun _ _ => rfl, fun u _ => by by_cases e : u = n <;> simp [upd, e]⟩
 refine ⟨s.ext, s.ownlt, s.imlt, s.im0, s.im1, ?_, ?_, ?_, fun t => (s.slot t).moves m, s.glob⟩
 ·intro u hu l
  by_cases e : u = n
  ·subst e; rw [xf]; simp
  ·rw [yf _ _ _ _ e]; exact s.dead u (by simpa [St.setO, e] using hu) l
 ·intro u o ho
  by_cases e : u = n
  ·subst e; simp [St.setO] at ho
  ·obtain ⟨l, hl, hr, hb⟩ := s.obj u o (by simpa [St.setO, e] using ho)
   exact ⟨l, by rw [yf _ _ _ _ e]; exact hl, hr.moves m (fun b h => ⟨rfl, (hb b h).1⟩), hb⟩
 ·intro u u' o o' l l' b hne ho ho' hl hl' hb
  by_cases e : u = n
  ·subst e; simp [St.setO] at ho
  ·by_cases e' : u' = n
   ·subst e'; simp [St.setO] at ho'
   ·rw [yf _ _ _ _ e] at hl; rw [yf _ _ _ _ e'] at hl'
    exact s.disj u u' o o' l l' b hne (by simpa [St.setO, e] using ho) (by simpa [St.setO, e'] using ho') hl hl' hb

theorem SimW.write (s : SimW G X σ tm w O Im) {n : Nat} {o o' : VO} {l : Loc} {b : Nat} (ho : σ.objs n = some o) (hl : O n = .live l) (hb : Own o l b) (hb' : ∀ k, Own o' l k ↔ Own o l k)
 {w' : World} (hos : w'.os = w.os) (htape : w'.tape = w.tape) (hout : w'.output = w.output) (hsz : w'.heap.size = w.heap.size) (hk : ∀ k, k ≠ b → w'.heap[k]? = w.heap[k]?)
 (hr : RelO w'.heap Im O o' l) : SimW G X (σ.setO n (some o')) tm w' O Im := by
 obtain ⟨hb1, hb2, hb3⟩ := s.ownblk ho hl hb
 have m : Moves w.heap w'.heap Im Im O O := ⟨fun _ h => h, fun k hk' => hk k (fun e => hb1 (e ▸ hk')), fun _ _ => .inl rfl⟩
 refine ⟨s.ext.trans' hos htape hout (Nat.le_of_eq hsz.symm) (fun k hk1 hk2 => hk k (fun e => by subst e; rcases hb3 with h | h; exact hk2 h; omega)), s.ownlt, fun k h => by rw [hsz]; exact s.imlt k h, s.im0, s.im1, ?_, ?_, ?_, fun t => (s.slot t).moves m, fun g c hg => (s.glob g c hg).moves m⟩
 ·intro u hu l'
  by_cases e : u = n
  ·subst e; simp [St.setO] at hu
  ·exact s.dead u (by simpa [St.setO, e] using hu) l'
 ·intro u ou hou
  by_cases e : u = n
  ·subst e; simp [St.setO] at hou; subst hou
   refine ⟨l, hl, hr, fun k hk' => ?_⟩
   obtain ⟨q1, q2, q3⟩ := s.ownblk ho hl ((hb' k).1 hk')
   exact ⟨q1, by rw [hsz]; exact q2, q3⟩
  ·have hou' : σ.objs u = some ou := by simpa [St.setO, e] using hou
   obtain ⟨lu, hlu, hru, hbu⟩ := s.obj u ou hou'
   exact ⟨lu, hlu, hru.moves m (fun k hk' => ⟨hk k (fun e2 => s.disj u n ou o lu l k e hou' ho hlu hl hk' (e2 ▸ hb)), (hbu k hk').1⟩), fun k hk' => ⟨(hbu k hk').1, by rw [hsz]; exact (hbu k hk').2.1, (hbu k hk').2.2⟩⟩
 ·intro u u' ou ou' lu lu' k hne hou hou' hlu hlu' hbu
  by_cases e : u = n
  ·subst e; simp [St.setO] at hou; subst hou
   rw [hl] at hlu; cases hlu
   exact s.disj u u' o ou' l lu' k hne ho (by simpa [St.setO, Ne.symm hne] using hou') hl hlu' ((hb' k).1 hbu)
  ·by_cases e' : u' = n
   ·subst e'; simp [St.setO] at hou'; subst hou'
    rw [hl] at hlu'; cases hlu'
    intro e2
    exact s.disj u u' ou o lu l k hne (by simpa [St.setO, e] using hou) ho hlu hl hbu ((hb' k).1 e2)
   ·exact s.disj u u' ou ou' lu lu' k hne (by simpa [St.setO, e] using hou) (by simpa [St.setO, e'] using hou') hlu hlu' hbu

theorem SimW.put (s : SimW G X σ tm w O Im) {t : Nat} (ht : t < tm.size) {sv : SV} {v : Value} (r : RelV w.heap Im O sv v) : SimW G X (σ.put t sv) (tm.setIfInBounds t v) w O Im := by
 refine ⟨s.ext, s.ownlt, s.imlt, s.im0, s.im1, s.dead, s.obj, s.disj, ?_, s.glob⟩
 intro u
 by_cases e : u = t
 ·subst e
  simpa [St.put, tmAt, Array.getD, ht] using r
 ·have := s.slot u
  have h2 : tmAt X.gh (tm.setIfInBounds t v) u = tmAt X.gh tm u := by
   simp only [tmAt, Array.getD_eq_getD_getElem?, Array.getElem?_setIfInBounds, if_neg (Ne.symm e)]
  rw [h2]
  simpa [St.put, e] using this
end
end Go.V
