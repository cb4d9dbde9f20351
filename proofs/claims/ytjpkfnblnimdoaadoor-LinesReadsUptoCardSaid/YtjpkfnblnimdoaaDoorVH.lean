/- strconv.Itoa and the methods of strings.Builder, off the contracts of the shelf: what is shown holds of the machine; conditions as stated. -/
import Derived.Test.YtjpkfnblnimdoaaDoorVY
import Derived.Shelf.Strconv.Itoa3
import Derived.Shelf.Strings.BuilderK
import Derived.Lib.ItoaLen
import Derived.Shelf.Strconv.AtoiAll
import Derived.Shelf.Strings.Split
import Derived.Shelf.Strings.Cut
import Derived.Shelf.Small.Strs
set_option linter.unusedVariables false
set_option linter.unusedSimpArgs false
namespace Go.V
open Go
section
open Go Go.Proofs Go.Sort
variable {P : Program} {G : Nat → Option (List D)} {ρ : Go.Shelf.Ren}
/-- A listed table of numbers, as the kit says it. -/
theorem tab_cells {h : Array Obj} {Im : Nat → Prop} {k : IntKind} : ∀ {zs : List Int} {vs : List Value} {fp : List Nat}, RelCs h Im (zs.map fun z => D.i k z) vs fp → vs.take zs.length = zs.map fun z => Value.int k z := by
  intro zs
  induction zs with
  | nil => intro vs fp h; rfl
  | cons z zs ih =>
    intro vs fp h
    simp only [List.map_cons] at h
    cases h with
    | cons _ _ _ _ _ _ h1 h2 =>
      cases h1
      simp [ih h2]
theorem tabIs_of {w : World} {Im : Nat → Prop} {g : Nat} {name : String} {k : IntKind} {zs : List Int} (hG : GOk G w.heap Im) (hn : P.globalNamed name = some g) (hg : G g = some (zs.map fun z => D.i k z)) : Lib.TabIs P w name k zs := by
  obtain ⟨r, c, e, fr, h1, h2⟩ := hG g _ hg
  unfold Lib.TabIs World.var?
  rw [hn]
  simp only [Option.bind_some, h1]
  cases r with
  | k _ _ c' e' fr' him hb hcs =>
    rw [h1] at hb; cases hb
    have := tab_cells hcs
    rw [List.take_of_length_le (by simp at h2; simp [h2])] at this
    congr 1
    rw [← this]
theorem ext_grow (w : World) (k : Nat) (os : Array Obj) : Ext (fun _ => False) w (grow (w.drewN k) os) := by
  refine ⟨rfl, rfl, rfl, by simp [grow, World.drewN], fun b hb _ => ?_⟩
  show (w.heap ++ os)[b]? = w.heap[b]?
  rw [Array.getElem?_append_left hb]
theorem itoa_ro (L : LaysM.n171 P ρ) {f : Nat} (hf : ρ.f 171 = f) (hok : fOk P f = true) {g : Nat} (hn : P.globalNamed "internal/strconv.uint64pow10" = some g) (hg : G g = some (Lib.pow10Tab.map fun z => D.i .u64 z)) (n : Int) (h : IntKind.i64.has n) :
    FnRO P G f [.one (.d (.i .i64 n))] (fun rs => rs = [.one (.s ⟨(Lib.itoa n).toArray⟩)]) := by
  subst hf
  refine ⟨hok, fun w Im vals hG him hv => ?_⟩
  cases hv with
  | cons _ v _ vs r1 r2 =>
    cases r2
    have hd := r1.one_inv.d_inv
    cases hd
    refine (Any.strconv_Itoa L n ?_ ?_ w (tabIs_of hG hn hg)).mono ?_
    · exact h.1
    · exact h.2
    · rintro e w' ⟨rfl, k, os, rfl⟩
      refine ⟨[.string _], _, Im, [], rfl, rfl, ext_grow w k os, fun _ h => h, fun _ h => .inl h, fun b hb => Nat.lt_of_lt_of_le (him b hb) (by simp [grow, World.drewN]), ?_, by simp, fun b hb => by cases hb⟩
      exact .cons _ _ [] _ _ [] (.one _ _ _ (.s _)) .nil
end
section
open Go Go.Proofs Go.Shelf Go.RowKit
variable {P : Program} {ρ : Ren}
/-- All but a builder's own blocks stands. -/
structure BldKept (b : Nat) (sub sub' : List Nat) (w w' : World) : Prop where
  os : w'.os = w.os
  tape : w'.tape = w.tape
  output : w'.output = w.output
  size : w.heap.size ≤ w'.heap.size
  block : ∀ k, k < w.heap.size → k ≠ b → k ∉ sub → w'.heap[k]? = w.heap[k]?
  sub : ∀ g ∈ sub', (g ∈ sub ∨ w.heap.size ≤ g) ∧ g < w'.heap.size
theorem BldAt.own {T e : TypeId} {w : World} {b : Nat} {sub : List Nat} {l : List UInt8} (h : BldAt T e w.heap b sub l) : Lib.IsBuilderF T e 0 b (Lib.byteCells l) w := by
  obtain ⟨p, v, hp, hb, hns, hv⟩ := h
  have hA : Lib.BuilderAtF T e 0 b p (Lib.byteCells l) w := by
    refine ⟨Nat.zero_le _, v, hb, ⟨by simp, ?_⟩, ?_⟩
    · rcases hv with ⟨rfl, rfl, rfl⟩ | ⟨g, cap, cur, fz, rfl, rfl, _, h1, h2, h3, h4, h5, h6⟩
      · exact .inl ⟨rfl, rfl⟩
      · exact .inr ⟨g, cap, cur, fz, by rw [Lib.byteCells_length], Nat.zero_le _, h1, by rw [Lib.byteCells_length]; omega, by rw [Lib.byteCells_length]; omega, h4, by omega, by rw [Lib.byteCells_length, Nat.mul_one]; exact h6⟩
    · rcases hv with ⟨rfl, rfl, rfl⟩ | ⟨g, cap, cur, fz, rfl, rfl, _, h1⟩
      · simp [Value.ownBlock]
      · simp only [List.mem_singleton] at hns; simpa [Value.ownBlock] using fun e => hns e.symm
  rcases hp with rfl | rfl
  · exact .inl hA
  · exact .inr hA
theorem heap_lt {w : World} {b : Nat} {o : Obj} (h : w.heap[b]? = some o) : b < w.heap.size := by
  rcases Nat.lt_or_ge b w.heap.size with h' | h'
  · exact h'
  · rw [Array.getElem?_eq_none h'] at h; cases h
set_option maxHeartbeats 2000000 in
set_option maxRecDepth 100000 in
/-- String: what the builder holds; the bytes behind it are frozen from then on. -/
theorem bld_string (L : Lays.n169 P ρ) (X : Builder.Extra P ρ) (b : Nat) (sub : List Nat) (l : List UInt8) (w : World) (h : BldAt (ρ.t 72) (ρ.t 5) w.heap b sub l) :
    Calls P (ρ.f 169) #[.pointer (some ⟨b, 0, none⟩)] w fun e w' => e = .returned (.string ⟨l.toArray⟩) ∧ BldAt (ρ.t 72) (ρ.t 5) w'.heap b sub l ∧ BldKept b sub sub w w' := by
  have hown := h.own
  have mixed := L.mixed
  have t72 := L.t72; have a72 := L.a72; have z72 := L.z72; have v72 := L.v72; have u72 := run_underlying L.t72
  have t70 := L.t70; have a70 := L.a70; have z70 := L.z70; have v70 := L.v70; have u70 := run_underlying L.t70
  have t37 := L.t37; have a37 := L.a37; have z37 := L.z37; have v37 := L.v37; have u37 := run_underlying L.t37
  have t127 := L.t127; have a127 := L.a127; have z127 := L.z127; have v127 := L.v127; have u127 := run_underlying L.t127
  have t3 := L.t3; have a3 := L.a3; have z3 := L.z3; have v3 := L.v3; have u3 := run_underlying L.t3
  have t9 := L.t9; have a9 := L.a9; have z9 := L.z9; have v9 := L.v9; have u9 := run_underlying L.t9
  have t5 := X.t5; have a5 := X.a5; have z5 := X.z5; have v5 := X.v5; have u5 := run_underlying X.t5
  have h0 := h
  obtain ⟨p, v, hp, hbk, hns, ⟨rfl, rfl, rfl⟩ | ⟨g, cap, cur, fz, rfl, rfl, hl0, hg, hfz, hlc, hcm, hcs, htk⟩⟩ := h
  · have hUS := Any.unsafeString_none L X
    have c1 : w.drew.cell? ⟨b, 1, none⟩ = some (.slice none 0 0) := by
      have : w.drew.heap[b]? = some (.cells #[p, .slice none 0 0] (ρ.t 72) (0, 0)) := hbk
      rw [Lib.cell_of_heap this]; rfl
    have hSD : (Builtin.unsafeSliceData_ #[(ρ.t 37)] (ρ.t 127) #[.slice none 0 0]).run P w.drew = .ok (.pointer none) w.drew := rfl
    have hB : BldAt (ρ.t 72) (ρ.t 5) w.drew.heap b [] [] := h0
    have hK : BldKept b [] [] w w.drew := ⟨rfl, rfl, rfl, Nat.le_refl _, fun _ _ _ _ => rfl, fun g hg => by cases hg⟩
    clear h0 hown
    go_enter L.f169, Body.n169_ntmps ρ
    go_wp2
    go_region_o
    all_goals (go_wp2; go_ret; exact ⟨rfl, hB, hK⟩)
  · have hgl := heap_lt hg
    have hgb : g ≠ b := fun e => hns (by simp [e])
    have hln : l.length ≠ 0 := by simpa using hl0
    have c1 : w.drew.cell? ⟨b, 1, none⟩ = some (.slice (some ⟨g, 0, none⟩) l.length cap) := by
      have : w.drew.heap[b]? = some (.cells #[p, .slice (some ⟨g, 0, none⟩) l.length cap] (ρ.t 72) (0, 0)) := hbk
      rw [Lib.cell_of_heap this]; rfl
    have hSD : (Builtin.unsafeSliceData_ #[(ρ.t 37)] (ρ.t 127) #[.slice (some ⟨g, 0, none⟩) l.length cap]).run P w.drew = .ok (.pointer (some ⟨g, 0, none⟩)) w.drew :=
      Lib.run_unsafeSliceData_row _ _ _ _ _ _ (by omega)
    have hg' : w.drew.heap[g]? = some (.cells cur (ρ.t 5) fz) := hg
    have hUS : (Builtin.unsafeString_ #[(ρ.t 127), (ρ.t 3)] (ρ.t 9) #[.pointer (some ⟨g, 0, none⟩), .int .i64 l.length]).run P w.drew = .ok (.string ⟨l.toArray⟩) (w.drew.freeze ⟨g, 0, none⟩ l.length) := by
      refine Lib.run_unsafeString_row w.drew (ρ.t 127) (ρ.t 3) (ρ.t 9) (ρ.t 5) L.t127 X.cellsByte g cur.size (by simp [World.shape?, hg']) l hl0 (by omega) (by unfold maxLen at hcm; omega) ?_
      intro j x hx
      have hj := (List.getElem?_eq_some_iff.1 hx).1
      have e1 : (cur.toList.take l.length)[j]? = some (.int .u8 x.toNat) := by rw [htk]; simp [Lib.byteCells, hx]
      rw [List.getElem?_take, if_pos hj] at e1
      rw [Addr.add_lit, Nat.zero_add, Lib.cell_of_heap hg']
      simpa using e1
    have hh : ∀ k, k ≠ g → (w.drew.freeze ⟨g, 0, none⟩ l.length).heap[k]? = w.heap[k]? := fun k hk => by
      unfold World.freeze
      rw [if_neg hln]
      show (w.heap.modify g _)[k]? = _
      rw [Array.getElem?_modify, if_neg (fun e => hk e.symm)]
    have hsz : (w.drew.freeze ⟨g, 0, none⟩ l.length).heap.size = w.heap.size := by
      unfold World.freeze
      rw [if_neg hln]
      show (w.heap.modify g _).size = _
      simp
    have hgg : ∃ fz', (w.drew.freeze ⟨g, 0, none⟩ l.length).heap[g]? = some (.cells cur (ρ.t 5) fz') ∧ fz'.2 ≤ l.length := by
      unfold World.freeze
      rw [if_neg hln]
      obtain ⟨lo, hi⟩ := fz
      refine ⟨if lo == hi then (0, 0 + l.length) else (min lo 0, max hi (0 + l.length)), ?_, ?_⟩
      · show (w.heap.modify g _)[g]? = _
        rw [Array.getElem?_modify, if_pos rfl, hg]; rfl
      · simp only at hfz
        split <;> simp <;> omega
    obtain ⟨fz', hg2, hf2⟩ := hgg
    have hB : BldAt (ρ.t 72) (ρ.t 5) (w.drew.freeze ⟨g, 0, none⟩ l.length).heap b [g] l := ⟨p, _, hp, by rw [hh b (fun e => hgb e.symm)]; exact hbk, hns, .inr ⟨g, cap, cur, fz', rfl, rfl, hl0, hg2, hf2, hlc, hcm, hcs, htk⟩⟩
    have hK : BldKept b [g] [g] w (w.drew.freeze ⟨g, 0, none⟩ l.length) := by
      refine ⟨?_, ?_, ?_, by rw [hsz]; exact Nat.le_refl _, fun k _ _ hk => hh k (by simpa using hk), fun k hk => ⟨.inl hk, ?_⟩⟩
      · unfold World.freeze; rw [if_neg hln]; rfl
      · unfold World.freeze; rw [if_neg hln]; rfl
      · unfold World.freeze; rw [if_neg hln]; rfl
      · rw [hsz]; simp at hk; subst hk; exact hgl
    clear h0 hown hh hsz hg2 hf2 htk hcs hcm hlc hfz hp hg hg'
    go_enter L.f169, Body.n169_ntmps ρ
    go_wp2
    go_region_o
    all_goals (go_wp2; go_ret; exact ⟨rfl, hB, hK⟩)
theorem strCells_bytes (s : ByteArray) : Lib.strCells s = Lib.byteCells s.data.toList := rfl
theorem bytes_app (l m : List UInt8) : Lib.byteCells l ++ Lib.byteCells m = Lib.byteCells (l ++ m) := by simp [Lib.byteCells]
theorem BufAt.app {t u ty e : TypeId} {i : TypeInfo} (ht : P.underlying t = some (.slice e)) (hu : P.underlying u = some .string) (hi : P.info? e = some i) (hz : i.zero = some (.int .u8 0)) (hsize : i.size = 1) (hby : i.bytes = 1)
    {w : World} {v : Value} {sub : List Nat} {l : List UInt8} (h : BufAt e w.heap v sub l) (s : ByteArray) (hlen : l.length + s.size ≤ 140737488355328) :
    ∃ v' w' sub', (Builtin.append_ #[t, u] ty #[v, .string s]).run P w = .ok v' w' ∧ BufAt e w'.heap v' sub' (l ++ s.data.toList) ∧ w.grownBy w' v.ownBlock ∧ ∀ g ∈ sub', (g ∈ sub ∨ w.heap.size ≤ g) ∧ g < w'.heap.size := by
  have hs0 : s.data.toList.length = s.size := by rw [Array.length_toList]; rfl
  rcases h with ⟨rfl, rfl, rfl⟩ | ⟨g, cap, cur, fz, rfl, rfl, hl0, hg, hfz, hlc, hcm, hcs, htk⟩
  · obtain ⟨v', w', h1, h2, h3, h4⟩ := Lib.run_append_own_stringF (P := P) w w.heap.size t u ty e i ht hu hi hz hsize hby (.slice none 0 0) 0 [] ⟨rfl, .inl ⟨rfl, rfl⟩⟩ s (by unfold maxLen; omega) (by simpa using hlen) (Nat.le_refl _)
    rcases h2.2 with ⟨hv, hn⟩ | ⟨g', cap, cur, fz, hv, k1, k2, k3, k4, k5, k6, k7⟩
    · have : s.data.toList = [] := List.eq_nil_of_length_eq_zero (by omega)
      exact ⟨v', w', [], h1, .inl ⟨hv, by rw [this]; rfl, rfl⟩, h3, fun g hg => by cases hg⟩
    · have hne : s.size ≠ 0 := fun h0 => by
        have := h4.2 ⟨rfl, h0⟩
        rw [hv] at this; cases this
      refine ⟨v', w', [g'], h1, .inr ⟨g', cap, cur, fz, ?_, rfl, fun hh => hne (by rw [← hs0]; simp at hh; simp [hh]), k2, ?_, ?_, k5, by omega, ?_⟩, h3, fun k hk => ?_⟩
      · rw [hv, List.nil_append, hs0, Nat.zero_add]
      · rw [List.nil_append, hs0]; omega
      · rw [List.nil_append, hs0]; omega
      · rw [List.nil_append, hs0, ← strCells_bytes]; simpa using k7
      · simp at hk; subst hk; exact ⟨.inr k1, heap_lt k2⟩
  · have hll : (l ++ s.data.toList).length = l.length + s.size := by rw [List.length_append, hs0]
    have hln0 : l ++ s.data.toList ≠ [] := fun h => hl0 (List.append_eq_nil_iff.1 h).1
    have hcells : (Lib.byteCells (l ++ s.data.toList)).length = l.length + s.size := by rw [Lib.byteCells_length, hll]
    by_cases hroom : l.length + s.size ≤ cap
    · have hr := Lib.run_append_room_stringF (P := P) w t u ty e i ht hu hi hsize g l.length cap cur fz hg hfz s hroom (by omega)
      refine ⟨_, _, [g], hr, .inr ⟨g, cap, _, fz, by rw [hll], rfl, hln0, setRow_heap w g cur _ e _ hg, by rw [hll]; omega, by rw [hll]; exact hroom, hcm, ?_, ?_⟩, ⟨rfl, rfl, rfl, by simp, fun k _ hk => setRow_other w g k _ (fun e => hk (by simp [Value.ownBlock, e]))⟩, fun k hk => ?_⟩
      · simp only [List.size_toArray, List.length_append, List.length_take, List.length_drop, Array.length_toList, Lib.strCells_length]; omega
      · have e1 : cur.toList.take l.length ++ Lib.strCells s = Lib.byteCells (l ++ s.data.toList) := by rw [htk, strCells_bytes, bytes_app]
        rw [e1, hll, ← hcells]
        exact List.take_left
      · simp at hk; subst hk; exact ⟨.inl (by simp), by simpa using heap_lt hg⟩
    · have holds : ∀ j u, (Lib.byteCells l)[j]? = some u → w.cell? ((⟨g, 0, none⟩ : Addr).add j) = some u := fun j u hj => by
        rw [Addr.add_lit, Nat.zero_add, Lib.cell_of_heap hg]
        have hjl := (List.getElem?_eq_some_iff.1 hj).1
        rw [Lib.byteCells_length] at hjl
        rw [← htk, List.getElem?_take, if_pos hjl] at hj
        simpa using hj
      have hr := Lib.run_append_grow_string (P := P) w t u ty e i (.int .u8 0) ht hu hi hz ⟨g, 0, none⟩ l.length cap (Lib.byteCells l) (by rw [hsize, Nat.mul_one, Lib.byteCells_length]) holds s (by omega) (by omega) (by rw [hby]; exact growslice_fits (by omega) (by omega))
      have hge := grownCap_ge w (l.length + s.size) cap e
      have hcm2 : grownCap w (l.length + s.size) cap e ≤ maxLen := grownCap_le_maxLen w (l.length + s.size) cap e (by unfold maxLen; omega)
      refine ⟨_, _, [w.heap.size], hr, .inr ⟨w.heap.size, _, _, (0, 0), by rw [hll], rfl, hln0, heap_alloc_new w.drew _, Nat.zero_le _, by rw [hll]; exact hge, hcm2, ?_, ?_⟩, ⟨rfl, rfl, rfl, by simp, fun k hk _ => heap_alloc_old w.drew _ hk⟩, fun k hk => ?_⟩
      · have hz1 : (Value.int IntKind.u8 0).cells.size = 1 := rfl
        simp only [Array.size_append, List.size_toArray, size_zeroCells, hz1, Lib.byteCells_length, Lib.strCells_length]
        omega
      · simp only [Array.toList_append, List.append_assoc]
        rw [strCells_bytes, ← List.append_assoc, bytes_app, hll, ← hcells]
        exact List.take_left
      · simp at hk; subst hk; exact ⟨.inr (Nat.le_refl _), by simp⟩
theorem setCell_at (w : World) (b j : Nat) (v : Value) {c : Array Value} {e : TypeId} {fr : Nat × Nat} (h : w.heap[b]? = some (.cells c e fr)) : (w.setCell ⟨b, j, none⟩ v).heap[b]? = some (.cells (c.setIfInBounds j v) e fr) := by
  show (w.heap.modify b _)[b]? = _
  rw [Array.getElem?_modify, if_pos rfl, h]; rfl
theorem setCell_ne (w : World) (b j k : Nat) (v : Value) (h : k ≠ b) : (w.setCell ⟨b, j, none⟩ v).heap[k]? = w.heap[k]? := by
  show (w.heap.modify b _)[k]? = _
  rw [Array.getElem?_modify, if_neg (fun e => h e.symm)]
theorem setCell_size (w : World) (b j : Nat) (v : Value) : (w.setCell ⟨b, j, none⟩ v).heap.size = w.heap.size := by
  show (w.heap.modify b _).size = _
  simp
theorem bld_check (L : Lays.n240 P ρ) (X : Builder.X72 P ρ) {b : Nat} {p v : Value} {w : World} (hp : p = .pointer none ∨ p = .pointer (some ⟨b, 0, none⟩)) (hb : w.heap[b]? = some (.cells #[p, v] (ρ.t 72) (0, 0))) :
    Calls P (ρ.f 240) #[.pointer (some ⟨b, 0, none⟩)] w fun e w' => e = .returned (.tuple #[]) ∧ w'.heap[b]? = some (.cells #[.pointer (some ⟨b, 0, none⟩), v] (ρ.t 72) (0, 0)) ∧ w'.os = w.os ∧ w'.tape = w.tape ∧ w'.output = w.output ∧ w'.heap.size = w.heap.size ∧ ∀ k, k ≠ b → w'.heap[k]? = w.heap[k]? := by
  rcases hp with rfl | rfl
  · refine (Any.Builder_copyCheck_fresh L X b w (by rw [Lib.cell_of_heap hb]; rfl) (by simp [World.shape?, hb]) (Lib.frozen_of_heap hb 0)).mono ?_
    rintro e w' ⟨rfl, rfl⟩
    exact ⟨rfl, setCell_at w b 0 _ hb, rfl, rfl, rfl, setCell_size w b 0 _, fun k hk => setCell_ne w b 0 k _ hk⟩
  · refine (Any.Builder_copyCheck_used L X b w (by rw [Lib.cell_of_heap hb]; rfl)).mono ?_
    rintro e w' ⟨rfl, rfl⟩
    exact ⟨rfl, hb, rfl, rfl, rfl, rfl, fun _ _ => rfl⟩
theorem wpList_bld {w : World} {ops : Array Oper} {rest : List Oper} {o : Oper} {a : Act} {Q : Exit → Act → World → Prop} (hgd : o.guard = none) (sl x : Operand) (t u : TypeId)
    (ho : o.op = .call { callee := .builtin .append, args := #[sl, x], argTypes := #[t, u] })
    (e : TypeId) (i : TypeInfo) (ht : P.underlying t = some (.slice e)) (hu : P.underlying u = some .string) (hi : P.info? e = some i) (hz : i.zero = some (.int .u8 0)) (hsize : i.size = 1) (hby : i.bytes = 1)
    (v : Value) (sub : List Nat) (l : List UInt8) (hs : a.eval sl = v) (hown : BufAt e w.heap v sub l) (s : ByteArray) (hx : a.eval x = .string s) (hlen : l.length + s.size ≤ 140737488355328)
    (h : ∀ v' w' sub', BufAt e w'.heap v' sub' (l ++ s.data.toList) → w.grownBy w' v.ownBlock → (∀ g ∈ sub', (g ∈ sub ∨ w.heap.size ≤ g) ∧ g < w'.heap.size) → wpList P ops Q rest (a.put o.dst v') w') : wpList P ops Q (o :: rest) a w := by
  refine wpList_plain hgd fun K hK => ?_
  obtain ⟨v', w', sub', hr, h2, h3, h4⟩ := BufAt.app (P := P) (ty := o.type) ht hu hi hz hsize hby hown s hlen
  unfold Oper.wp execOp
  simp only [ho, resolve, invoke, builtin, Sem.run_bind, Sem.run_pure, Result.andThen_ok, List.map_toArray, List.map_cons, List.map_nil, hs, hx, hr]
  exact hK _ _ (h v' w' sub' h2 h3 h4)
set_option maxHeartbeats 2000000 in
set_option maxRecDepth 100000 in
/-- WriteString. -/
theorem bld_writeS (L : Lays.n166 P ρ) (X : Builder.Extra P ρ) (b : Nat) (sub : List Nat) (l : List UInt8) (s : ByteArray) (w : World) (h : BldAt (ρ.t 72) (ρ.t 5) w.heap b sub l) (hsub : ∀ g ∈ sub, g < w.heap.size) (hlen : l.length + s.size ≤ 140737488355328) :
    Calls P (ρ.f 166) #[.pointer (some ⟨b, 0, none⟩), .string s] w fun e w' => e = .returned (.tuple #[.int .i64 s.size, .nilIface]) ∧ ∃ sub', BldAt (ρ.t 72) (ρ.t 5) w'.heap b sub' (l ++ s.data.toList) ∧ BldKept b sub sub' w w' := by
  obtain ⟨i0, hi, hz0, hz1, hz2⟩ := info_parts X.infoByte
  have mixed := L.mixed
  have t72 := L.t72; have a72 := L.a72; have z72 := L.z72; have v72 := L.v72; have u72 := run_underlying L.t72
  have t70 := L.t70; have a70 := L.a70; have z70 := L.z70; have v70 := L.v70; have u70 := run_underlying L.t70
  have t37 := L.t37; have a37 := L.a37; have z37 := L.z37; have v37 := L.v37; have u37 := run_underlying L.t37
  have t3 := L.t3; have a3 := L.a3; have z3 := L.z3; have v3 := L.v3; have u3 := run_underlying L.t3
  have t9 := L.t9; have a9 := L.a9; have z9 := L.z9; have v9 := L.v9; have u9 := run_underlying L.t9
  have t4 := L.t4; have a4 := L.a4; have z4 := L.z4; have v4 := L.v4; have u4 := run_underlying L.t4
  have t164 := L.t164; have a164 := L.a164; have z164 := L.z164; have v164 := L.v164; have u164 := run_underlying L.t164
  have t5 := X.t5; have a5 := X.a5; have z5 := X.z5; have v5 := X.v5; have u5 := run_underlying X.t5
  have e240 : ∀ args w, (callFunc (ρ.f 240) args).run P w = .ok (.enter (ρ.f 240) args) w := enters_of L.f240 (by kernel_rfl) rfl
  obtain ⟨p, v, hp, hbk, hns, hv⟩ := h
  have hbl := heap_lt hbk
  go_enter L.f166, Body.n166_ntmps ρ
  go_wp2_with (go_at_fn (ρ.f 240); refine (bld_check { L with } X.toX72 hp hbk).mono ?_)
  rintro e w1 ⟨rfl, hb1, ho1, hta1, hou1, hsz1, hk1⟩
  have c0 : w1.cell? ⟨b, 0, none⟩ = some (.pointer (some ⟨b, 0, none⟩)) := by rw [Lib.cell_of_heap hb1]; rfl
  have c1 : w1.cell? ⟨b, 1, none⟩ = some v := by rw [Lib.cell_of_heap hb1]; rfl
  have hv1 : BufAt (ρ.t 5) w1.heap v sub l := by
    rcases hv with ⟨rfl, rfl, rfl⟩ | ⟨g, cap, cur, fz, rfl, rfl, k1, k2, k3⟩
    · exact .inl ⟨rfl, rfl, rfl⟩
    · exact .inr ⟨g, cap, cur, fz, rfl, rfl, k1, by rw [hk1 g (fun e => hns (by simp [e]))]; exact k2, k3⟩
  have hvb : v.ownBlock ≠ some b := by
    rcases hv with ⟨rfl, rfl, rfl⟩ | ⟨g, cap, cur, fz, rfl, rfl, k1⟩
    · simp [Value.ownBlock]
    · simp only [List.mem_singleton] at hns
      simpa [Value.ownBlock] using fun e => hns e.symm
  have hvs : ∀ k, v.ownBlock = some k → k ∈ sub := fun k hk => by
    rcases hv with ⟨rfl, rfl, rfl⟩ | ⟨g, cap, cur, fz, rfl, rfl, k1⟩
    · cases hk
    · simp [Value.ownBlock] at hk; simp [hk]
  clear hv
  go_wp2_with (at_builtin; refine wpList_bld rfl _ _ (ρ.t 37) (ρ.t 9) rfl (ρ.t 5) i0 L.t37 L.t9 hi hz0 hz1 hz2 _ sub l rfl hv1 s rfl hlen ?_)
  intro v' w2 sub' hown' hgrow hnew
  have hb2 : w2.heap[b]? = some (.cells #[.pointer (some ⟨b, 0, none⟩), v] (ρ.t 72) (0, 0)) := by
    rw [hgrow.block b (by omega) (fun e => hvb e.symm)]
    exact hb1
  have d0 : w2.cell? ⟨b, 0, none⟩ = some (.pointer (some ⟨b, 0, none⟩)) := by rw [Lib.cell_of_heap hb2]; rfl
  have d1 : w2.cell? ⟨b, 1, none⟩ = some v := by rw [Lib.cell_of_heap hb2]; rfl
  have f1 : w2.frozen? ⟨b, 1, none⟩ = false := Lib.frozen_of_heap hb2 1
  obtain ⟨ao, n', cap, rfl⟩ : ∃ ao n' cap, v' = .slice ao n' cap := by
    rcases hown' with ⟨hv, _⟩ | ⟨g, cap, cur, fz, hv, _⟩
    · exact ⟨_, _, _, hv⟩
    · exact ⟨_, _, _, hv⟩
  have hns' : b ∉ sub' := fun hb => by
    rcases (hnew b hb).1 with h | h
    · exact hns h
    · omega
  have hB : BldAt (ρ.t 72) (ρ.t 5) (w2.setCell ⟨b, 1, none⟩ (.slice ao n' cap)).heap b sub' (l ++ s.data.toList) := by
    refine ⟨_, _, .inr rfl, setCell_at w2 b 1 _ hb2, hns', ?_⟩
    rcases hown' with ⟨h1, h2, h3⟩ | ⟨g, cap, cur, fz, h1, h2, h3, h4, h5⟩
    · exact .inl ⟨h1, h2, h3⟩
    · exact .inr ⟨g, cap, cur, fz, h1, h2, h3, by rw [setCell_ne w2 b 1 g _ (fun e => hns' (by rw [h2]; simp [e]))]; exact h4, h5⟩
  have hK : BldKept b sub sub' w (w2.setCell ⟨b, 1, none⟩ (.slice ao n' cap)) := by
    refine ⟨hgrow.os.trans ho1, hgrow.tape.trans hta1, hgrow.output.trans hou1, by rw [setCell_size]; have := hgrow.size; omega, fun k hk hkb hks => ?_, fun g hg => ?_⟩
    · rw [setCell_ne w2 b 1 k _ hkb, hgrow.block k (by omega) (fun e => hks (hvs k e.symm)), hk1 k hkb]
    · rw [setCell_size]
      obtain ⟨q1, q2⟩ := hnew g hg
      exact ⟨q1.imp id (fun h => by omega), q2⟩
  clear hown' hgrow hnew hns' hvs hvb hv1 hk1 hb1 c0 c1 hbk hp hsub
  go_wp2
  go_ret2
  exact ⟨rfl, sub', hB, hK⟩
theorem BufAt.app1 {t ty e : TypeId} {i : TypeInfo} (ht : P.underlying t = some (.slice e)) (hi : P.info? e = some i) (hz : i.zero = some (.int .u8 0)) (hsize : i.size = 1) (hby : i.bytes = 1)
    {w : World} {v : Value} {sub : List Nat} {l : List UInt8} (h : BufAt e w.heap v sub l) (x : UInt8) (hlen : l.length + 1 ≤ 140737488355328) {ad : Addr} {c : Nat} (hx : w.cell? ad = some (.int .u8 x.toNat)) :
    ∃ v' w' sub', (Builtin.append_ #[t, t] ty #[v, .slice (some ad) 1 c]).run P w = .ok v' w' ∧ BufAt e w'.heap v' sub' (l ++ [x]) ∧ w.grownBy w' v.ownBlock ∧ ∀ g ∈ sub', (g ∈ sub ∨ w.heap.size ≤ g) ∧ g < w'.heap.size := by
  have hnews : ∀ (j : Nat) (u : Value), ([.int .u8 x.toNat] : List Value)[j]? = some u → w.cell? (ad.add j) = some u := fun j u hj => by
    match j, hj with
    | 0, hj =>
      simp only [List.getElem?_cons_zero, Option.some.injEq] at hj
      have e0 : ad.add 0 = ad := by obtain ⟨a, b, c⟩ := ad; simp [Addr.add]
      rw [e0, ← hj]; exact hx
  have hone : ∀ u ∈ ([.int .u8 x.toNat] : List Value), u.oneCell' = true := fun u hu => by simp at hu; subst hu; rfl
  have hb1 : ([.int .u8 x.toNat] : List Value) = Lib.byteCells [x] := rfl
  rcases h with ⟨rfl, rfl, rfl⟩ | ⟨g, cap, cur, fz, rfl, rfl, hl0, hg, hfz, hlc, hcm, hcs, htk⟩
  · obtain ⟨v', w', h1, h2, h3, h4⟩ := run_append_ownF (P := P) w w.heap.size t ty e i (.int .u8 0) 1 1 ht hi hz hsize hby rfl (by decide) (.slice none 0 0) 0 [] ⟨rfl, .inl ⟨rfl, rfl⟩⟩ ad 1 c [.int .u8 x.toNat] rfl hnews hone (by unfold maxLen; omega) (by omega) (Nat.le_refl _)
    rcases h2.2 with ⟨hv, hn⟩ | ⟨g', cap, cur, fz, hv, k1, k2, k3, k4, k5, k6, k7⟩
    · cases hn
    · refine ⟨v', w', [g'], h1, .inr ⟨g', cap, cur, fz, ?_, rfl, by simp, k2, ?_, ?_, k5, by omega, ?_⟩, h3, fun k hk => ?_⟩
      · rw [hv]; rfl
      · simpa using k3
      · simpa using k4
      · rw [hb1] at k7; simpa using k7
      · simp at hk; subst hk; exact ⟨.inr k1, heap_lt k2⟩
  · have hll : (l ++ [x]).length = l.length + 1 := by simp
    have hln0 : l ++ [x] ≠ [] := by simp
    have hcells : (Lib.byteCells (l ++ [x])).length = l.length + 1 := by rw [Lib.byteCells_length, hll]
    by_cases hroom : l.length + 1 ≤ cap
    · have hr := run_append_roomF (P := P) w t ty e i ht hi g l.length cap cur fz hg (by rw [hsize, Nat.mul_one]; exact hfz) ad 1 c [.int .u8 x.toNat] (by rw [hsize]; rfl) hnews hone hroom (by rw [hsize]; simp; omega)
      rw [hsize, Nat.mul_one] at hr
      refine ⟨_, _, [g], hr, .inr ⟨g, cap, _, fz, by rw [hll], rfl, hln0, setRow_heap w g cur _ e _ hg, by rw [hll]; omega, by rw [hll]; exact hroom, hcm, ?_, ?_⟩, ⟨rfl, rfl, rfl, by simp, fun k _ hk => setRow_other w g k _ (fun e => hk (by simp [Value.ownBlock, e]))⟩, fun k hk => ?_⟩
      · simp only [List.size_toArray, List.length_append, List.length_take, List.length_drop, Array.length_toList, List.length_cons, List.length_nil]; omega
      · have e1 : cur.toList.take l.length ++ [.int .u8 x.toNat] = Lib.byteCells (l ++ [x]) := by rw [htk, hb1, bytes_app]
        rw [e1, hll, ← hcells]
        exact List.take_left
      · simp at hk; subst hk; exact ⟨.inl (by simp), by simpa using heap_lt hg⟩
    · have holds : ∀ j u, (Lib.byteCells l)[j]? = some u → w.cell? ((⟨g, 0, none⟩ : Addr).add j) = some u := fun j u hj => by
        rw [Addr.add_lit, Nat.zero_add, Lib.cell_of_heap hg]
        have hjl := (List.getElem?_eq_some_iff.1 hj).1
        rw [Lib.byteCells_length] at hjl
        rw [← htk, List.getElem?_take, if_pos hjl] at hj
        simpa using hj
      have hr := run_append_grow (P := P) w t ty e i (.int .u8 0) ht hi hz ⟨g, 0, none⟩ l.length cap (Lib.byteCells l) (by rw [hsize, Nat.mul_one, Lib.byteCells_length]) holds ad 1 c [.int .u8 x.toNat] (by rw [hsize]; rfl) hnews (by omega) (by omega) (by rw [hby]; exact growslice_fits (by omega) (by omega))
      have hge := grownCap_ge w (l.length + 1) cap e
      have hcm2 : grownCap w (l.length + 1) cap e ≤ maxLen := grownCap_le_maxLen w (l.length + 1) cap e (by unfold maxLen; omega)
      refine ⟨_, _, [w.heap.size], hr, .inr ⟨w.heap.size, _, _, (0, 0), by rw [hll], rfl, hln0, heap_alloc_new w.drew _, Nat.zero_le _, by rw [hll]; exact hge, hcm2, ?_, ?_⟩, ⟨rfl, rfl, rfl, by simp, fun k hk _ => heap_alloc_old w.drew _ hk⟩, fun k hk => ?_⟩
      · have hz1 : (Value.int IntKind.u8 0).cells.size = 1 := rfl
        simp only [Array.size_append, List.size_toArray, size_zeroCells, hz1, Lib.byteCells_length, List.length_cons, List.length_nil]
        omega
      · simp only [Array.toList_append, List.append_assoc]
        rw [hb1, ← List.append_assoc, bytes_app, hll, ← hcells]
        exact List.take_left
      · simp at hk; subst hk; exact ⟨.inr (Nat.le_refl _), by simp⟩
theorem wpList_bld1 {w : World} {ops : Array Oper} {rest : List Oper} {o : Oper} {a : Act} {Q : Exit → Act → World → Prop} (hgd : o.guard = none) (sl x : Operand) (t : TypeId)
    (ho : o.op = .call { callee := .builtin .append, args := #[sl, x], argTypes := #[t, t] })
    (e : TypeId) (i : TypeInfo) (ht : P.underlying t = some (.slice e)) (hi : P.info? e = some i) (hz : i.zero = some (.int .u8 0)) (hsize : i.size = 1) (hby : i.bytes = 1)
    (v : Value) (sub : List Nat) (l : List UInt8) (hs : a.eval sl = v) (hown : BufAt e w.heap v sub l) (ad : Addr) (c : Nat) (y : UInt8) (hx : a.eval x = .slice (some ad) 1 c) (hy : w.cell? ad = some (.int .u8 y.toNat)) (hlen : l.length + 1 ≤ 140737488355328)
    (h : ∀ v' w' sub', BufAt e w'.heap v' sub' (l ++ [y]) → w.grownBy w' v.ownBlock → (∀ g ∈ sub', (g ∈ sub ∨ w.heap.size ≤ g) ∧ g < w'.heap.size) → wpList P ops Q rest (a.put o.dst v') w') : wpList P ops Q (o :: rest) a w := by
  refine wpList_plain hgd fun K hK => ?_
  obtain ⟨v', w', sub', hr, h2, h3, h4⟩ := BufAt.app1 (P := P) (ty := o.type) (c := c) ht hi hz hsize hby hown y hlen hy
  unfold Oper.wp execOp
  simp only [ho, resolve, invoke, builtin, Sem.run_bind, Sem.run_pure, Result.andThen_ok, List.map_toArray, List.map_cons, List.map_nil, hs, hx, hr]
  exact hK _ _ (h v' w' sub' h2 h3 h4)
set_option maxHeartbeats 2000000 in
set_option maxRecDepth 100000 in
/-- WriteByte. -/
theorem bld_writeB (L : Lays.n167 P ρ) (X : Builder.Extra P ρ) (b : Nat) (sub : List Nat) (l : List UInt8) (y : UInt8) (w : World) (h : BldAt (ρ.t 72) (ρ.t 5) w.heap b sub l) (hsub : ∀ g ∈ sub, g < w.heap.size) (hlen : l.length + 1 ≤ 140737488355328) :
    Calls P (ρ.f 167) #[.pointer (some ⟨b, 0, none⟩), .int .u8 y.toNat] w fun e w' => e = .returned .nilIface ∧ ∃ sub', BldAt (ρ.t 72) (ρ.t 5) w'.heap b sub' (l ++ [y]) ∧ BldKept b sub sub' w w' := by
  obtain ⟨i0, hi, hz0, hz1, hz2⟩ := info_parts X.infoByte
  have mixed := L.mixed
  have t72 := L.t72; have a72 := L.a72; have z72 := L.z72; have v72 := L.v72; have u72 := run_underlying L.t72
  have t70 := L.t70; have a70 := L.a70; have z70 := L.z70; have v70 := L.v70; have u70 := run_underlying L.t70
  have t37 := L.t37; have a37 := L.a37; have z37 := L.z37; have v37 := L.v37; have u37 := run_underlying L.t37
  have t4 := L.t4; have a4 := L.a4; have z4 := L.z4; have v4 := L.v4; have u4 := run_underlying L.t4
  have t164 := L.t164; have a164 := L.a164; have z164 := L.z164; have v164 := L.v164; have u164 := run_underlying L.t164
  have t5 := X.t5; have a5 := X.a5; have z5 := X.z5; have v5 := X.v5; have u5 := run_underlying X.t5
  have e240 : ∀ args w, (callFunc (ρ.f 240) args).run P w = .ok (.enter (ρ.f 240) args) w := enters_of L.f240 (by kernel_rfl) rfl
  obtain ⟨p, v, hp, hbk, hns, hv⟩ := h
  have hbl := heap_lt hbk
  go_enter L.f167, Body.n167_ntmps ρ
  go_wp2_with (go_at_fn (ρ.f 240); refine (bld_check { L with } X.toX72 hp hbk).mono ?_)
  rintro e w1 ⟨rfl, hb1, ho1, hta1, hou1, hsz1, hk1⟩
  have hsz2 : w1.heap.size ≤ w.heap.size ∧ w.heap.size ≤ w1.heap.size := by omega
  clear hsz1
  have c0 : w1.cell? ⟨b, 0, none⟩ = some (.pointer (some ⟨b, 0, none⟩)) := by rw [Lib.cell_of_heap hb1]; rfl
  have c1 : w1.cell? ⟨b, 1, none⟩ = some v := by rw [Lib.cell_of_heap hb1]; rfl
  have hv1 : ∀ o, BufAt (ρ.t 5) (w1.alloc o).heap v sub l := by
    intro o
    rcases hv with ⟨rfl, rfl, rfl⟩ | ⟨g, cap, cur, fz, rfl, rfl, k1, k2, k3⟩
    · exact .inl ⟨rfl, rfl, rfl⟩
    · exact .inr ⟨g, cap, cur, fz, rfl, rfl, k1, by rw [heap_alloc_old w1 _ (by have := hsub g (by simp); omega), hk1 g (fun e => hns (by simp [e]))]; exact k2, k3⟩
  have hvb : v.ownBlock ≠ some b := by
    rcases hv with ⟨rfl, rfl, rfl⟩ | ⟨g, cap, cur, fz, rfl, rfl, k1⟩
    · simp [Value.ownBlock]
    · simp only [List.mem_singleton] at hns
      simpa [Value.ownBlock] using fun e => hns e.symm
  have hvs : ∀ k, v.ownBlock = some k → k ∈ sub := fun k hk => by
    rcases hv with ⟨rfl, rfl, rfl⟩ | ⟨g, cap, cur, fz, rfl, rfl, k1⟩
    · cases hk
    · simp [Value.ownBlock] at hk; simp [hk]
  clear hv
  go_wp2_with (at_builtin; refine wpList_bld1 rfl _ _ (ρ.t 37) rfl (ρ.t 5) i0 L.t37 hi hz0 hz1 hz2 _ sub l rfl (hv1 _) ⟨w1.heap.size, 0, none⟩ 1 y rfl ?c1 hlen ?_)
  case c1 => simp
  intro v' w2 sub' hown' hgrow hnew
  have hb2 : w2.heap[b]? = some (.cells #[.pointer (some ⟨b, 0, none⟩), v] (ρ.t 72) (0, 0)) := by
    rw [hgrow.block b (by simp; omega) (fun e => hvb e.symm), heap_alloc_old w1 _ (by omega)]
    exact hb1
  have d0 : w2.cell? ⟨b, 0, none⟩ = some (.pointer (some ⟨b, 0, none⟩)) := by rw [Lib.cell_of_heap hb2]; rfl
  have d1 : w2.cell? ⟨b, 1, none⟩ = some v := by rw [Lib.cell_of_heap hb2]; rfl
  have f1 : w2.frozen? ⟨b, 1, none⟩ = false := Lib.frozen_of_heap hb2 1
  obtain ⟨ao, n', cap, rfl⟩ : ∃ ao n' cap, v' = .slice ao n' cap := by
    rcases hown' with ⟨hv, _⟩ | ⟨g, cap, cur, fz, hv, _⟩
    · exact ⟨_, _, _, hv⟩
    · exact ⟨_, _, _, hv⟩
  have hns' : b ∉ sub' := fun hb => by
    rcases (hnew b hb).1 with h | h
    · exact hns h
    · try simp at h
      omega
  have hB : BldAt (ρ.t 72) (ρ.t 5) (w2.setCell ⟨b, 1, none⟩ (.slice ao n' cap)).heap b sub' (l ++ [y]) := by
    refine ⟨_, _, .inr rfl, setCell_at w2 b 1 _ hb2, hns', ?_⟩
    rcases hown' with ⟨h1, h2, h3⟩ | ⟨g, cap, cur, fz, h1, h2, h3, h4, h5⟩
    · exact .inl ⟨h1, h2, h3⟩
    · exact .inr ⟨g, cap, cur, fz, h1, h2, h3, by rw [setCell_ne w2 b 1 g _ (fun e => hns' (by rw [h2]; simp [e]))]; exact h4, h5⟩
  have hK : BldKept b sub sub' w (w2.setCell ⟨b, 1, none⟩ (.slice ao n' cap)) := by
    refine ⟨hgrow.os.trans ho1, hgrow.tape.trans hta1, hgrow.output.trans hou1, by rw [setCell_size]; have := hgrow.size; simp at this; omega, fun k hk hkb hks => ?_, fun g hg => ?_⟩
    · rw [setCell_ne w2 b 1 k _ hkb, hgrow.block k (by simp; omega) (fun e => hks (hvs k e.symm)), heap_alloc_old w1 _ (by omega), hk1 k hkb]
    · rw [setCell_size]
      obtain ⟨q1, q2⟩ := hnew g hg
      exact ⟨q1.imp id (fun h => by omega), q2⟩
  clear hown' hgrow hnew hns' hvs hvb hv1 hk1 hb1 c0 c1 hbk hp hsub
  go_wp2
  go_ret
  exact ⟨rfl, sub', hB, hK⟩
section
variable {G : Nat → Option (List D)} {X : Ctx} {σ : St} {tm : Array Value} {w w' : World} {O : Nat → LS} {Im : Nat → Prop}
/-- A builder that has changed: the state behind it. -/
theorem SimW.bld (s : SimW G X σ tm w O Im) {id T e b : Nat} {l l' : List UInt8} {sub sub' : List Nat} (hob : σ.objs id = some (.bld T e l)) (hO : O id = .live ⟨some b, 1, 2, sub⟩) (hk : BldKept b sub sub' w w') (hB : BldAt T e w'.heap b sub' l') :
    SimW G X (σ.setO id (some (.bld T e l'))) tm w' (upd O id (.live ⟨some b, 1, 2, sub'⟩)) Im := by
  obtain ⟨l0, h0, hr0, hown⟩ := s.obj id _ hob
  rw [hO] at h0; cases h0
  have hbo := hown b (.inl rfl)
  have hso : ∀ g ∈ sub, ¬ Im g ∧ g < w.heap.size ∧ (X.own g ∨ X.w0.heap.size ≤ g) := fun g hg => hown g (.inr hg)
  have hs' : ∀ g ∈ sub', ¬ Im g ∧ g < w'.heap.size ∧ (X.own g ∨ X.w0.heap.size ≤ g) := fun g hg => by
    obtain ⟨q1, q2⟩ := hk.sub g hg
    rcases q1 with q1 | q1
    · exact ⟨(hso g q1).1, q2, (hso g q1).2.2⟩
    · exact ⟨fun h => by have := s.imlt g h; omega, q2, .inr (Nat.le_trans s.ext.size q1)⟩
  have m : Moves w.heap w'.heap Im Im O O := ⟨fun _ h => h, fun k hk' => hk.block k (s.imlt k hk') (fun e => hbo.1 (e ▸ hk')) (fun e => (hso k e).1 hk'), fun _ _ => .inl rfl⟩
  have hs : ∀ u, SameL (O u) (upd O id (.live ⟨some b, 1, 2, sub'⟩) u) := fun u => by
    by_cases e : u = id
    · subst e; rw [hO, upd_same]; exact .inr ⟨b, 1, 2, sub, sub', rfl, rfl⟩
    · rw [upd_ne _ _ _ _ e]; exact .inl rfl
  have hnew : ∀ g, g ∈ b :: sub' → g ∈ b :: sub ∨ w.heap.size ≤ g := fun g hg => by
    rcases List.mem_cons.1 hg with rfl | hg
    · exact .inl (by simp)
    · rcases (hk.sub g hg).1 with q | q
      · exact .inl (by simp [q])
      · exact .inr q
  refine ⟨s.ext.trans' hk.os hk.tape hk.output hk.size (fun k hk1 hk2 => hk.block k (Nat.lt_of_lt_of_le hk1 s.ext.size) (fun e => ?_) (fun e => ?_)), s.ownlt, fun k hk' => Nat.lt_of_lt_of_le (s.imlt k hk') hk.size, s.im0, s.im1, ?_, ?_, ?_, fun t => ((s.slot t).moves m).resub hs, fun g c hg => (s.glob g c hg).moves m⟩
  · subst e; rcases hbo.2.2 with h | h
    · exact hk2 h
    · omega
  · rcases (hso k e).2.2 with h | h
    · exact hk2 h
    · omega
  · intro u hu l2
    by_cases e : u = id
    · subst e; simp [St.setO] at hu
    · rw [upd_ne _ _ _ _ e]; exact s.dead u (by simpa [St.setO, e] using hu) l2
  · intro u o ho
    by_cases e : u = id
    · subst e
      simp [St.setO] at ho
      subst ho
      refine ⟨_, upd_same _ _ _, .bld _ _ _ b sub' hB hbo.1 (fun g hg => (hs' g hg).1) ?_, fun k hk' => ?_⟩
      · obtain ⟨p, v, _, _, hns, hbf⟩ := hB
        refine List.nodup_cons.2 ⟨hns, ?_⟩
        rcases hbf with ⟨_, _, rfl⟩ | ⟨g, _, _, _, _, rfl, _⟩ <;> simp
      · rcases hk' with hk' | hk'
        · simp at hk'; subst hk'; exact ⟨hbo.1, Nat.lt_of_lt_of_le hbo.2.1 hk.size, hbo.2.2⟩
        · exact hs' k hk'
    · have ho' : σ.objs u = some o := by simpa [St.setO, e] using ho
      obtain ⟨l2, h1, h2, h3⟩ := s.obj u o ho'
      refine ⟨l2, by rw [upd_ne _ _ _ _ e]; exact h1, ((h2.moves m fun k hk' => ⟨hk.block k (h3 k hk').2.1 (fun e2 => ?_) (fun e2 => ?_), (h3 k hk').1⟩).resub hs), fun k hk' => ⟨(h3 k hk').1, Nat.lt_of_lt_of_le (h3 k hk').2.1 hk.size, (h3 k hk').2.2⟩⟩
      · exact s.disj u id o _ l2 _ k e ho' hob h1 hO hk' (.inl (by rw [e2]))
      · exact s.disj u id o _ l2 _ k e ho' hob h1 hO hk' (.inr e2)
  · intro u u' o o' l1 l2 k hne h1 h2 h3 h4 h5 h6
    by_cases e : u = id
    · subst e
      have e' : u' ≠ u := fun q => hne q.symm
      rw [upd_same] at h3; cases h3
      rw [upd_ne _ _ _ _ e'] at h4
      have h2' : σ.objs u' = some o' := by simpa [St.setO, e'] using h2
      simp [St.setO] at h1; subst h1
      have hk2 : k ∈ b :: sub' := by rcases h5 with q | q
                                     · simp at q; simp [q]
                                     · exact List.mem_cons_of_mem _ q
      obtain ⟨l3, g1, g2, g3⟩ := s.obj u' o' h2'
      rw [h4] at g1; cases g1
      rcases hnew k hk2 with q | q
      · refine s.disj u u' _ o' _ l2 k hne hob h2' hO h4 ?_ h6
        rcases List.mem_cons.1 q with rfl | q
        · exact .inl rfl
        · exact .inr q
      · have := (g3 k h6).2.1; omega
    · by_cases e' : u' = id
      · subst e'
        rw [upd_same] at h4; cases h4
        rw [upd_ne _ _ _ _ e] at h3
        have h1' : σ.objs u = some o := by simpa [St.setO, e] using h1
        simp [St.setO] at h2; subst h2
        have hk2 : k ∈ b :: sub' := by rcases h6 with q | q
                                       · simp at q; simp [q]
                                       · exact List.mem_cons_of_mem _ q
        obtain ⟨l3, g1, g2, g3⟩ := s.obj u o h1'
        rw [h3] at g1; cases g1
        rcases hnew k hk2 with q | q
        · refine s.disj u u' o _ l1 _ k hne h1' hob h3 hO h5 ?_
          rcases List.mem_cons.1 q with rfl | q
          · exact .inl rfl
          · exact .inr q
        · have := (g3 k h5).2.1; omega
      · rw [upd_ne _ _ _ _ e] at h3
        rw [upd_ne _ _ _ _ e'] at h4
        exact s.disj u u' o o' l1 l2 k hne (by simpa [St.setO, e] using h1) (by simpa [St.setO, e'] using h2) h3 h4 h5 h6
end
/-! ### The methods, as calls -/
theorem bld_inv {G : Nat → Option (List D)} {X : Ctx} {σ : St} {tm : Array Value} {w : World} {O : Nat → LS} {Im : Nat → Prop} (s : SimW G X σ tm w O Im) {id T e : Nat} {l : List UInt8} (hob : σ.objs id = some (.bld T e l)) :
    ∃ b sub, O id = .live ⟨some b, 1, 2, sub⟩ ∧ BldAt T e w.heap b sub l ∧ ∀ g ∈ sub, g < w.heap.size := by
  obtain ⟨l0, h0, hr0, hown⟩ := s.obj id _ hob
  cases hr0 with
  | bld _ _ _ b sub k1 k2 k3 k4 => exact ⟨b, sub, h0, k1, fun g hg => (hown g (.inr hg)).2.1⟩
theorem bld_ptr {h : Array Obj} {Im : Nat → Prop} {O : Nat → LS} {id b : Nat} {sub : List Nat} {v : Value} (r : RelV h Im O (.one (.p (.q id 0 0))) v) (hO : O id = .live ⟨some b, 1, 2, sub⟩) : v = .pointer (some ⟨b, 0, none⟩) := by
  have r1 := r.one_inv
  cases r1 with
  | p _ _ r1 =>
    cases r1 with
    | qd _ _ _ _ h2 => rw [h2] at hO; cases hO
    | q _ _ _ b' cap sz h2 => rw [h2] at hO; cases hO; simp
theorem string_call {G : Nat → Option (List D)} {σ : St} {K : St → SV → Prop} {f id T e : Nat} {l : List UInt8} (L : Lays.n169 P ρ) (X : Builder.Extra P ρ) (hf : ρ.f 169 = f) (hT : ρ.t 72 = T) (he : ρ.t 5 = e) (hok : fOk P f = true) (hob : σ.objs id = some (.bld T e l)) (hk : K σ (.one (.d (.s ⟨l.toArray⟩)))) :
    CallV P G f [.one (.p (.q id 0 0))] σ K := by
  subst hf hT he
  refine .inl ⟨hok, fun Xc tm w O Im vals s hf hv => ?_⟩
  cases hv with
  | cons _ v _ vs r1 r2 =>
    cases r2
    obtain ⟨b, sub, hO, hB, hsub⟩ := bld_inv s hob
    obtain rfl := bld_ptr r1 hO
    refine (bld_string L X b sub l w hB).mono ?_
    rintro e' w' ⟨rfl, hB', hK'⟩
    have s' := s.bld hob hO hK' hB'
    have e1 : σ.setO id (some (.bld (ρ.t 72) (ρ.t 5) l)) = σ := by
      have hh : (fun u => if u = id then some (VO.bld (ρ.t 72) (ρ.t 5) l) else σ.objs u) = σ.objs := by
        funext u
        by_cases h : u = id
        · subst h; simp [hob]
        · simp [h]
      unfold St.setO
      rw [hh]
    have e2 : upd O id (.live ⟨some b, 1, 2, sub⟩) = O := by
      funext u
      by_cases h : u = id
      · subst h; rw [upd_same, hO]
      · rw [upd_ne _ _ _ _ h]
    rw [e1, e2] at s'
    exact ⟨_, σ, _, O, Im, rfl, hk, s', hf, .one _ _ (.d _ _ (.s _))⟩
theorem writeS_call {G : Nat → Option (List D)} {σ : St} {K : St → SV → Prop} {f id T e : Nat} {l : List UInt8} {x : ByteArray} (L : Lays.n166 P ρ) (X : Builder.Extra P ρ) (hf : ρ.f 166 = f) (hT : ρ.t 72 = T) (he : ρ.t 5 = e) (hok : fOk P f = true) (hob : σ.objs id = some (.bld T e l)) (hfit : l.length + x.size ≤ 140737488355328)
    (hk : K (σ.setO id (some (.bld T e (l ++ x.data.toList)))) (.tup [.one (.d (.i .i64 x.size)), .one (.d (.v .nilIface))])) :
    CallV P G f [.one (.p (.q id 0 0)), .one (.d (.s x))] σ K := by
  subst hf hT he
  refine .inl ⟨hok, fun Xc tm w O Im vals s hf hv => ?_⟩
  cases hv with
  | cons _ v _ vs r1 r2 =>
    cases r2 with
    | cons _ v2 _ vs2 r2 r3 =>
      cases r3
      obtain ⟨b, sub, hO, hB, hsub⟩ := bld_inv s hob
      obtain rfl := bld_ptr r1 hO
      have hd := r2.one_inv.d_inv
      cases hd
      refine (bld_writeS L X b sub l x w hB hsub hfit).mono ?_
      rintro e' w' ⟨rfl, sub', hB', hK'⟩
      have s' := s.bld hob hO hK' hB'
      refine ⟨_, _, _, _, Im, rfl, hk, s', fun u hu => ?_, .tup _ _ (.cons _ _ _ _ (.one _ _ (.d _ _ (.i _ _))) (.cons _ _ _ _ (.one _ _ (.d _ _ (.v _ rfl))) .nil))⟩
      rw [upd_ne _ _ _ _ (fun e => by
        have := hf u hu
        rw [e, hO] at this; cases this)]
      exact hf u hu
theorem writeB_call {G : Nat → Option (List D)} {σ : St} {K : St → SV → Prop} {f id T e : Nat} {l : List UInt8} {y : UInt8} {n : Int} (L : Lays.n167 P ρ) (X : Builder.Extra P ρ) (hf : ρ.f 167 = f) (hT : ρ.t 72 = T) (he : ρ.t 5 = e) (hok : fOk P f = true) (hob : σ.objs id = some (.bld T e l)) (hn : n = y.toNat) (hfit : l.length + 1 ≤ 140737488355328)
    (hk : K (σ.setO id (some (.bld T e (l ++ [y])))) (.one (.d (.v .nilIface)))) :
    CallV P G f [.one (.p (.q id 0 0)), .one (.d (.i .u8 n))] σ K := by
  subst hf hT he hn
  refine .inl ⟨hok, fun Xc tm w O Im vals s hf hv => ?_⟩
  cases hv with
  | cons _ v _ vs r1 r2 =>
    cases r2 with
    | cons _ v2 _ vs2 r2 r3 =>
      cases r3
      obtain ⟨b, sub, hO, hB, hsub⟩ := bld_inv s hob
      obtain rfl := bld_ptr r1 hO
      have hd := r2.one_inv.d_inv
      cases hd
      refine (bld_writeB L X b sub l y w hB hsub hfit).mono ?_
      rintro e' w' ⟨rfl, sub', hB', hK'⟩
      have s' := s.bld hob hO hK' hB'
      refine ⟨_, _, _, _, Im, rfl, hk, s', fun u hu => ?_, .one _ _ (.d _ _ (.v _ rfl))⟩
      rw [upd_ne _ _ _ _ (fun e => by
        have := hf u hu
        rw [e, hO] at this; cases this)]
      exact hf u hu
end
section
open Go Go.Proofs Go.Shelf
variable {P : Program} {G : Nat → Option (List D)} {σ : St}
/-- The three methods of strings.Builder stand in this program under these numbers. -/
structure BldOk (P : Program) (T e fS fB fT : Nat) : Prop where
  ok : ∃ ρ : Ren, Lays.n166 P ρ ∧ Lays.n167 P ρ ∧ Lays.n169 P ρ ∧ Builder.Extra P ρ ∧ (ρ.t 72 = T ∧ ρ.t 5 = e) ∧ (ρ.f 166 = fS ∧ ρ.f 167 = fB ∧ ρ.f 169 = fT) ∧ fOk P fS = true ∧ fOk P fB = true ∧ fOk P fT = true
theorem cbs {T e fS fB fT id : Nat} {l : List UInt8} {x : ByteArray} {R : Type} {t : Option R} {r : R} {K : St → SV → Prop} (h : Hd (if l.length + x.size ≤ 140737488355328 then t else none) r) (B : BldOk P T e fS fB fT) (hob : σ.obj id = some (.bld T e l))
    (hk : Hd t r → K (σ.setO id (some (.bld T e (l ++ x.data.toList)))) (.tup [.one (.d (.i .i64 x.size)), .one (.d (.v .nilIface))])) : CallV P G fS [.one (.p (.q id 0 0)), .one (.d (.s x))] σ K := by
  obtain ⟨ρ, L1, L2, L3, X, ⟨hT, he⟩, ⟨h1, h2, h3⟩, k1, k2, k3⟩ := B.ok
  obtain ⟨hc, hr⟩ := of_chk h.e
  exact writeS_call L1 X h1 hT he k1 hob hc (hk ⟨hr⟩)
theorem cbb {T e fS fB fT id : Nat} {l : List UInt8} {n : Int} {R : Type} {t : Option R} {r : R} {K : St → SV → Prop} (h : Hd (if (0 ≤ n ∧ n < 256) ∧ l.length + 1 ≤ 140737488355328 then t else none) r) (B : BldOk P T e fS fB fT) (hob : σ.obj id = some (.bld T e l))
    (hk : Hd t r → K (σ.setO id (some (.bld T e (l ++ [UInt8.ofNat n.toNat])))) (.one (.d (.v .nilIface)))) : CallV P G fB [.one (.p (.q id 0 0)), .one (.d (.i .u8 n))] σ K := by
  obtain ⟨ρ, L1, L2, L3, X, ⟨hT, he⟩, ⟨h1, h2, h3⟩, k1, k2, k3⟩ := B.ok
  obtain ⟨⟨hn, hc⟩, hr⟩ := of_chk h.e
  refine writeB_call L2 X h2 hT he k2 hob ?_ hc (hk ⟨hr⟩)
  have h2 : n.toNat < 256 := by omega
  rw [UInt8.toNat_ofNat_of_lt' (show n.toNat < 256 from h2)]
  exact (Int.toNat_of_nonneg hn.1).symm
theorem cbt {T e fS fB fT id : Nat} {l : List UInt8} {K : St → SV → Prop} (B : BldOk P T e fS fB fT) (hob : σ.obj id = some (.bld T e l))
    (hk : K σ (.one (.d (.s ⟨l.toArray⟩)))) : CallV P G fT [.one (.p (.q id 0 0))] σ K := by
  obtain ⟨ρ, L1, L2, L3, X, ⟨hT, he⟩, ⟨h1, h2, h3⟩, k1, k2, k3⟩ := B.ok
  exact string_call L3 X h3 hT he k3 hob hk
def itoaF (n : Int) : Option ByteArray := if -9223372036854775808 ≤ n ∧ n ≤ 9223372036854775807 then some ⟨(Lib.itoa n).toArray⟩ else none
theorem itoa_okF {ρ : Ren} (L : LaysM.n171 P ρ) {f : Nat} (hf : ρ.f 171 = f) (hok : fOk P f = true) {g : Nat} (hn : P.globalNamed "internal/strconv.uint64pow10" = some g) {ds : List D} (hds : ds = Lib.pow10Tab.map fun z => D.i .u64 z) (hg : constG G g = .one (.d (.k ds))) (n : Int) (r : ByteArray) (h : itoaF n = some r) :
    FnRO P G f [.one (.d (.i .i64 n))] (fun rs => rs = [.one (.s r)]) := by
  unfold itoaF at h
  split at h
  case isFalse => cases h
  rename_i hc
  obtain rfl := Option.some.inj h
  refine itoa_ro L hf hok hn ?_ n ⟨hc.1, hc.2⟩
  unfold constG at hg
  split at hg
  · rename_i e; cases hg; rw [e, hds]
  · cases hg
def andU8 (a b : Int) : Int := bitOp .u8 (fun (x y : BitVec 8) => x &&& y) a b
@[go_sem ↓ high] theorem binI_andU8 (a b : Int) : binI .and .u8 a b = some (.i .u8 (andU8 a b)) := rfl
@[go_sem] theorem bytesOf_cons (n : Int) (r : List (List D)) : bytesOf ([.i .u8 n] :: r) = (bytesOf r).map (n :: ·) := rfl
@[go_sem] theorem bytesOf_nil : bytesOf [] = some [] := rfl
abbrev oB (T e : Nat) (l : List UInt8) : Option VO := some (.bld T e l)
attribute [go_sem] oB
end
section
open Go Go.Proofs Go.Shelf
variable {P : Program} {G : Nat → Option (List D)} {ρ : Ren} {σ : St}
/-- A package's variable that holds some number; some error. -/
def VarI (G : Nat → Option (List D)) (g : Nat) : Prop := ∃ m : Int, constG G g = .one (.d (.k [.i .i64 m]))
def VarE (G : Nat → Option (List D)) (g : Nat) : Prop := ∃ ev : Value, (ev = .nilIface ∨ ∃ te pe, ev = .iface te pe) ∧ constG G g = .one (.d (.k [.v ev]))
theorem G_of_const {g : Nat} {ds : List D} (hg : constG G g = .one (.d (.k ds))) : G g = some ds := by
  unfold constG at hg
  split at hg
  · rename_i e; cases hg; exact e
  · cases hg
theorem cell_of {w : World} {Im : Nat → Prop} {g : Nat} {d : D} {x : Value} (hG : GOk G w.heap Im) (h : constG G g = .one (.d (.k [d]))) (hd : ∀ v fp, RelD w.heap Im d v fp → v = x) : w.cell? ⟨g, 0, none⟩ = some x := by
  obtain ⟨r, _⟩ := hG g _ (G_of_const h)
  cases r with
  | k _ _ c e fr him hb hcs =>
    obtain ⟨v, h0, h1⟩ := hcs.at_ 0 d rfl
    have hv := hd v _ h1
    subst hv
    rw [Array.getElem?_toList] at h0
    simp [World.cell?, hb, h0]
theorem ext_below {w w' : World} (h : RowKit.Below w.heap.size w w') : Ext (fun _ => False) w w' := ⟨h.1, h.2, h.3, h.4, fun b hb _ => h.5 b hb⟩
def atoiF (s : ByteArray) : Option (Int × Bool) :=
  if s.size ≤ 281474976710656 then
    match Lib.atoiAll s.data.toList with
    | .ok v => some (v, true)
    | Lib.NumEnd.syntax => some (0, false)
    | .range => some (Lib.atoiSat s.data.toList, false)
  else none
theorem atoi_okF (L : LaysC.n172 P ρ) {f : Nat} (hf : ρ.f 172 = f) (hok : fOk P f = true) {g15 g16 : Nat} (e15 : ρ.g 15 = g15) (e16 : ρ.g 16 = g16) (h15 : VarE G g15) (h16 : VarE G g16) (s : ByteArray) (r : Int × Bool) (h : atoiF s = some r) :
    FnRO P G f [.one (.d (.s s))] (fun rs => ∃ x : Value, nilB x = some r.2 ∧ rs = [.one (.i .i64 r.1), .one (.v x)]) := by
  subst hf e15 e16
  obtain ⟨ev15, hev15, h15⟩ := h15
  obtain ⟨ev16, hev16, h16⟩ := h16
  unfold atoiF at h
  split at h
  case isFalse => cases h
  rename_i hc
  refine ⟨hok, fun w Im vals hG him hv => ?_⟩
  cases hv with
  | cons _ v _ vs r1 r2 =>
    cases r2
    have hd := r1.one_inv.d_inv
    cases hd
    have done : ∀ (x : Value) (n : Int) (w' : World), x.oneCell' = true → Ext (fun _ => False) w w' → w.heap.size ≤ w'.heap.size → r.1 = n → nilB x = some r.2 →
        ∃ vs rs Im' fp, Value.tuple #[.int .i64 n, x] = packV vs ∧ (∃ x : Value, nilB x = some r.2 ∧ rs = [.one (.i .i64 r.1), .one (.v x)]) ∧ Ext (fun _ => False) w w' ∧ (∀ b, Im b → Im' b) ∧ (∀ b, Im' b → Im b ∨ w.heap.size ≤ b) ∧ (∀ b, Im' b → b < w'.heap.size) ∧
          RelRs w'.heap Im' rs vs fp ∧ fp.Nodup ∧ ∀ b ∈ fp, ¬ Im' b ∧ w.heap.size ≤ b ∧ b < w'.heap.size := by
      intro x n w' hx hext hsz hn hb
      subst hn
      exact ⟨[.int .i64 r.1, x], _, Im, [], rfl, ⟨x, hb, rfl⟩, hext, fun _ h => h, fun _ h => .inl h, fun b hb => Nat.lt_of_lt_of_le (him b hb) hsz, .cons _ _ [] _ _ [] (.one _ _ _ (.i _ _)) (.cons _ _ [] _ _ [] (.one _ _ _ (.v _ hx)) .nil), by simp, fun b hb => by cases hb⟩
    match ha : Lib.atoiAll s.data.toList with
    | Lib.NumEnd.ok n =>
      rw [ha] at h; cases h
      refine (Any.strconv_Atoi_ok L s (by omega) n ha w).mono ?_
      rintro e w' ⟨rfl, hw⟩
      have hx : Ext (fun _ => False) w w' ∧ w.heap.size ≤ w'.heap.size := by
        rcases hw with rfl | ⟨t, rfl⟩
        · exact ⟨⟨rfl, rfl, rfl, Nat.le_refl _, fun _ _ _ => rfl⟩, Nat.le_refl _⟩
        · have hb : RowKit.Below w.heap.size w (Lib.bytesWorld w (ρ.t 5) t) := ⟨rfl, rfl, rfl, by rw [Lib.bytesWorld_size]; omega, fun j hj => Lib.bytesWorld_at_old w (ρ.t 5) t j hj⟩
          exact ⟨ext_below hb, hb.4⟩
      obtain ⟨vs, rs, Im', fp, e, rest⟩ := done .nilIface _ w' rfl hx.1 hx.2 rfl rfl
      exact ⟨vs, rs, Im', fp, by rw [e], rest⟩
    | Lib.NumEnd.syntax =>
      rw [ha] at h; cases h
      have hcell : w.cell? ⟨ρ.g 15, 0, none⟩ = some ev15 := cell_of hG h15 fun v fp h => by cases h; rfl
      refine (Any.strconv_Atoi_syntax L s hc ha ev15 w hcell hev15).mono ?_
      rintro e w' ⟨N, rfl, h1, h2, hb⟩
      obtain ⟨vs, rs, Im', fp, e, rest⟩ := done (.iface (ρ.t 168) (.pointer (some ⟨N, 0, none⟩))) _ w' rfl (ext_below hb) hb.4 rfl rfl
      exact ⟨vs, rs, Im', fp, by rw [e], rest⟩
    | Lib.NumEnd.range =>
      rw [ha] at h; cases h
      have hcell : w.cell? ⟨ρ.g 16, 0, none⟩ = some ev16 := cell_of hG h16 fun v fp h => by cases h; rfl
      refine (Any.strconv_Atoi_range L s hc ha ev16 w hcell hev16).mono ?_
      rintro e w' ⟨N, rfl, h1, h2, hb⟩
      obtain ⟨vs, rs, Im', fp, e, rest⟩ := done (.iface (ρ.t 168) (.pointer (some ⟨N, 0, none⟩))) _ w' rfl (ext_below hb) hb.4 rfl rfl
      exact ⟨vs, rs, Im', fp, by rw [e], rest⟩
def splitF (s sep : ByteArray) : Option (List ByteArray) := if s.size < 4294967281 ∧ 1 ≤ sep.size then some (Lib.splitB sep 0 (Lib.countB s sep) s) else none
theorem cells_strs : ∀ (l : List ByteArray) {h : Array Obj} {Im : Nat → Prop}, RelCs h Im (l.map encS).flatten (l.map Value.string) []
  | [], _, _ => .nil _
  | x :: l, _, _ => .cons _ _ [] _ _ [] (.s x) (cells_strs l)
theorem split_okF (L : Lays.n146 P ρ) (hi9 : (P.info? (ρ.t 9)).map (fun i => (i.zero, i.size, i.bytes)) = some (some (.string ByteArray.empty), 1, 16)) {f : Nat} (hf : ρ.f 146 = f) (hok : fOk P f = true) {g1 : Nat} (e1 : ρ.g 1 = g1) (h1 : VarI G g1) (s sep : ByteArray) (r : List ByteArray) (h : splitF s sep = some r) :
    FnRO P G f [.one (.d (.s s)), .one (.d (.s sep))] (fun rs => rs = [.one (.o 1 (r.map encS))]) := by
  subst hf e1
  obtain ⟨m, h1⟩ := h1
  unfold splitF at h
  split at h
  case isFalse => cases h
  rename_i hc
  cases h
  refine ⟨hok, fun w Im vals hG him hv => ?_⟩
  cases hv with
  | cons _ v _ vs r1 r2 =>
    cases r2 with
    | cons _ v2 _ vs2 r2 r3 =>
      cases r3
      have hd := r1.one_inv.d_inv
      cases hd
      have hd := r2.one_inv.d_inv
      cases hd
      have hcell : w.cell? ⟨ρ.g 1, 0, none⟩ = some (.int .i64 m) := cell_of hG h1 fun v fp h => by cases h; rfl
      refine (Any.strings_Split L hi9 s sep m w hc.1 hcell hc.2).mono ?_
      rintro e w' ⟨rfl, rfl⟩
      have hlen := Lib.splitB_all sep hc.2 0 _ s rfl
      have hle := Lib.countB_le sep hc.2 s.size s (Nat.le_refl _)
      generalize hl : Lib.splitB sep 0 (Lib.countB s sep) s = l at *
      have hnew : (w.alloc (.cells (l.map Value.string).toArray (ρ.t 9))).heap[w.heap.size]? = some (.cells (l.map Value.string).toArray (ρ.t 9) (0, 0)) := by
        show (w.heap.push _)[w.heap.size]? = _
        simp
      have hsz : (w.alloc (.cells (l.map Value.string).toArray (ρ.t 9))).heap.size = w.heap.size + 1 := by
        show (w.heap.push _).size = _
        simp
      refine ⟨[.slice (some ⟨w.heap.size, 0, none⟩) l.length l.length], _, Im, [w.heap.size], by rw [hlen]; rfl, rfl, ⟨rfl, rfl, rfl, by rw [hsz]; omega, fun b hb _ => ?_⟩, fun _ h => h, fun _ h => .inl h, fun b hb => by rw [hsz]; exact Nat.lt_succ_of_lt (him b hb), ?_, by simp, fun b hb => ?_⟩
      · show (w.heap.push _)[b]? = _
        simp [Array.getElem?_push, Nat.ne_of_lt hb]
      · have hr : RelD (w.alloc (.cells (l.map Value.string).toArray (ρ.t 9))).heap Im (.o 1 (l.map encS)) (.slice (some ⟨w.heap.size, 0, none⟩) (l.map encS).length l.length) [w.heap.size] :=
          .o 1 (l.map encS) w.heap.size l.length ⟨w.heap.size, 0, none⟩ l.length _ _ hnew (fun r hr => by obtain ⟨x, _, rfl⟩ := List.mem_map.1 hr; rfl) (by simp) (Nat.le_refl _) (by rw [hlen]; unfold maxLen; omega) (by simp) (.inl rfl) (cells_strs l)
        rw [List.length_map] at hr
        exact .cons _ _ [w.heap.size] _ _ [] (.one _ _ _ hr) .nil
      · simp only [List.mem_singleton] at hb
        subst hb
        exact ⟨fun h => Nat.lt_irrefl _ (him _ h), Nat.le_refl _, by rw [hsz]; omega⟩
/-- A call whose results hold an error: whether it is nil is known. -/
theorem crE {f : Nat} {svs as' : List SV} {K : St → SV → Prop} {V R : Type} {x : Option V} {g : V → Option R} {r : R} {rs : V → Value → List RV} {b : V → Bool} (h : Hd (x.bind g) r) (ok : ∀ v, x = some v → FnRO P G f as' (fun q => ∃ y : Value, nilB y = some (b v) ∧ q = rs v y))
    (hk : ∀ v y, nilB y = some (b v) → Hd (g v) r → K (σ.addRs (rs v y)).1 (packS (σ.addRs (rs v y)).2)) (ha : σ.inVs false svs = some as' := by first | rfl | (simp only [*, go_sem, inVs_caps]; done) | simp only [*, go_sem, inVs_caps, List.map_append, List.map_cons, List.map_nil, List.map_set]) : CallV P G f svs σ K := by
  obtain ⟨v, e, h⟩ := obi h.e
  exact CallV.ro false (ok v e) ha fun q hq => by
    obtain ⟨y, hy, rfl⟩ := hq
    exact ⟨.inl rfl, hk v y hy ⟨h⟩⟩
end
section
open Go Go.Proofs Go.Shelf
variable {P : Program} {G : Nat → Option (List D)} {ρ : Ren} {σ : St}
def orI64 (a b : Int) : Int := bitOp .i64 (fun (x y : BitVec 64) => x ||| y) a b
@[go_sem ↓ high] theorem binI_orI64 (a b : Int) : binI .or .i64 a b = some (.i .i64 (orI64 a b)) := rfl
@[go_sem] theorem shI_shl4 (a : Int) : shI .shl .i64 a 4 = some (.i .i64 (IntKind.i64.wrap (a * 2 ^ 4))) := (rfl)
def idxF (s : ByteArray) (c : Int) : Option Int := some (Lib.indexByte s.data.toList c.toNat.toUInt8)
theorem idx_okF (L : Lays.n137 P ρ) {f : Nat} (hf : ρ.f 137 = f) (hok : fOk P f = true) (s : ByteArray) (c : Int) (r : Int) (h : idxF s c = some r) :
    FnRO P G f [.one (.d (.s s)), .one (.d (.i .u8 c))] (fun rs => rs = [.one (.i .i64 r)]) := by
  subst hf
  cases h
  refine ⟨hok, fun w Im vals hG him hv => ?_⟩
  cases hv with
  | cons _ v _ vs r1 r2 =>
    cases r2 with
    | cons _ v2 _ vs2 r2 r3 =>
      cases r3
      have hd := r1.one_inv.d_inv
      cases hd
      have hd := r2.one_inv.d_inv
      cases hd
      refine (Any.strings_IndexByte L s c w).mono ?_
      rintro e w' ⟨rfl, rfl⟩
      exact ⟨[.int .i64 _], _, Im, [], rfl, rfl, ⟨rfl, rfl, rfl, Nat.le_refl _, fun _ _ _ => rfl⟩, fun _ h => h, fun _ h => .inl h, him, .cons _ _ [] _ _ [] (.one _ _ _ (.i _ _)) .nil, by simp, fun b hb => by cases hb⟩
def cutF (s sep : ByteArray) : Option (ByteArray × ByteArray × Bool) :=
  if s.size < 4294967281 then some (⟨(Lib.cut s.data.toList sep.data.toList).1.toArray⟩, ⟨(Lib.cut s.data.toList sep.data.toList).2.1.toArray⟩, (Lib.cut s.data.toList sep.data.toList).2.2) else none
theorem cut_okF (L : Lays.n145 P ρ) {f : Nat} (hf : ρ.f 145 = f) (hok : fOk P f = true) {g1 : Nat} (e1 : ρ.g 1 = g1) (h1 : VarI G g1) (s sep : ByteArray) (r : ByteArray × ByteArray × Bool) (h : cutF s sep = some r) :
    FnRO P G f [.one (.d (.s s)), .one (.d (.s sep))] (fun rs => rs = [.one (.s r.1), .one (.s r.2.1), .one (.b r.2.2)]) := by
  subst hf e1
  obtain ⟨m, h1⟩ := h1
  unfold cutF at h
  split at h
  case isFalse => cases h
  rename_i hc
  cases h
  refine ⟨hok, fun w Im vals hG him hv => ?_⟩
  cases hv with
  | cons _ v _ vs r1 r2 =>
    cases r2 with
    | cons _ v2 _ vs2 r2 r3 =>
      cases r3
      have hd := r1.one_inv.d_inv
      cases hd
      have hd := r2.one_inv.d_inv
      cases hd
      have hcell : w.cell? ⟨ρ.g 1, 0, none⟩ = some (.int .i64 m) := cell_of hG h1 fun v fp h => by cases h; rfl
      refine (Any.strings_Cut L s sep m w hc hcell).mono ?_
      rintro e w' ⟨rfl, n, rfl⟩
      exact ⟨[.string _, .string _, .bool _], _, Im, [], rfl, rfl, ⟨rfl, rfl, rfl, Nat.le_refl _, fun _ _ _ => rfl⟩, fun _ h => h, fun _ h => .inl h, him, .cons _ _ [] _ _ [] (.one _ _ _ (.s _)) (.cons _ _ [] _ _ [] (.one _ _ _ (.s _)) (.cons _ _ [] _ _ [] (.one _ _ _ (.b _)) .nil)), by simp, fun b hb => by cases hb⟩
end
end Go.V
