/- The law LabelChecks returns true at every input, and its argument reads as it did; no condition. -/
import Derived.Test.YtfjndjehkknajaaRows
import Derived.Test.YtfjndjehkknajaaVC
import Derived.WalkKit
import Derived.ProofKit
import Derived.OpenShut
import Derived.ShutString
import Derived.ChangeOld
import Derived.Below
import Derived.SizedLaws
import Derived.Test.YtfjndjehkknajaaFunLabel
set_option linter.unusedVariables false
set_option linter.unusedSimpArgs false
namespace Go.V.LabelChecks
open Go Go.Proofs Go.V.FunLabel
set_option maxRecDepth 100000
def F9 : VFn := ⟨12, (.seq (.reg [⟨(some 1), .box 3 (.t 0), none⟩, ⟨(some 2), .mv (.c (.one (.d (.b false)))), none⟩]) (.seq (.reg [⟨(some 5), .ld true 3 (.t 1), none⟩, ⟨(some 6), .call 27 [(.t 5)], none⟩, ⟨(some 3), .mv (.t 6), none⟩]) (.seq (.reg [⟨(some 7), .ld true 3 (.t 1), none⟩, ⟨(some 8), .call 28 [(.t 7)], none⟩, ⟨(some 4), .mv (.t 8), none⟩]) (.seq (.reg [⟨(some 9), .mv (.t 3), none⟩, ⟨(some 10), .mv (.t 4), none⟩, ⟨(some 11), .bin .i .eql (.t 9) (.t 10), none⟩, ⟨(some 2), .mv (.t 11), none⟩]) .ret)))), [.t 2]⟩
theorem low9 : lowF Try.prog 9 = some F9 := by kernel_rfl
theorem fok9 : fOk Try.prog 9 = true := by kernel_rfl
theorem walk9 (svs : List SV) (h : fitArgs Try.prog [42] svs) : FnRO Try.prog (fun _ => none) 9 svs (fun rs => rs = [.one (.b true)]) := by
  match svs, h with
  | [x], ⟨hx, _⟩ =>
    obtain ⟨s, ls, p, rfl⟩ := cfg_of hx
    refine FnRO.of' low9 fok9 (by simp [F9]) ?_
    simp only [F9, wpv_skip, wpv_ret, wpv_exit, wpv_reg, wpv_seq, wpv_block, wpv_cond, condK_t, condK_f, loopQ_n, loopQ_e, loopQ_r, wOps_nil, wOps_guard, grdK_tt, grdK_ff, grdK_tf, grdK_ft, stepK_mk, callK_def, wOps_mv, wOps_pick, wOps_alloc, wOps_box, wOps_build, wOps_bsl, wOps_ld, wOps_st, wOps_fa, wOps_fl, wOps_ia, wOps_ix, wOps_sl, wOps_sls, wOps_bin, wOps_eqs, wOps_un, wOps_cvi, wOps_cid, wOps_len, wOps_lens, wOps_app, wOps_mks, wOps_mkf, wOps_ext, wOps_nilchk, wOps_call, wOps_mm, mmV, seqQ_n, seqQ_e, seqQ_r, blkQ_n, blkQ_e, blkQ_r, bindP_some, bindP_none, bindP_bind, bindP_map, stepF, ev_t, ev_c, ev_g, ev_fn, get_put, get_new, get_setO, get_init, obj_put, obj_new, obj_setO, obj_init, next_put, next_new, next_setO, next_init, putO_some, putO_none, asBool_b, asInt_i, asStr_s, asAgg_agg, asPtr_p, asPtr_k, cells_one', cells_agg, Option.bind_some, Option.bind_none, Option.map_some, Option.map_none, ex_some, ex_none, List.getD_cons_zero, List.getD_cons_succ, List.length_cons, List.length_nil, Nat.reduceAdd, Nat.reduceEqDiff, Nat.reduceLeDiff, Nat.reduceSub, reduceCtorEq, addOff, St.alive, St.ld, mkV, binV, binI, isSh, List.drop_succ_cons, List.drop_zero, List.take_succ_cons, List.take_zero, Option.isSome_some, ↓reduceIte, and_self, and_true, true_and, decide_true, decide_false, endQ, resVs, resV, St.outs, St.outV, St.outC, St.outC0, nodupB, List.append_nil, List.nil_append, List.cons_append, List.map_cons, List.map_nil, St.addRs, St.addR, St.addD, St.addD0, St.addDs, packS, Bool.false_eq_true, not_true, not_false_iff, St.stO, St.toD, St.toDs, St.fill, repl, eqCs, eqC, Nat.zero_add, Nat.add_zero, List.set_cons_zero, List.set_cons_succ, List.getElem?_cons_zero, List.getElem?_cons_succ, ldRow, svExt, St.outCs, Bool.and_true, Bool.true_and, beq_self_eq_true, wpv_draw, wDraw_nil, wDraw_guard, wDraw_call, wDraw_mv, wDraw_pick, wDraw_alloc, wDraw_box, wDraw_build, wDraw_bsl, wDraw_ld, wDraw_st, wDraw_fa, wDraw_fl, wDraw_ia, wDraw_ix, wDraw_sl, wDraw_sls, wDraw_bin, wDraw_eqs, wDraw_un, wDraw_cvi, wDraw_cid, wDraw_len, wDraw_lens, wDraw_app, wDraw_mks, wDraw_mkf, wDraw_ext, wDraw_nilchk, wDraw_mm, drawK_mk, drawG_tt, drawG_ff, drawG_tf, drawG_ft, drawC_def, addO_none, addO_some, get_nx, obj_nx, next_nx, vis_nil, back_nil, get_vis, obj_vis, next_vis, get_back, obj_back, next_back, isHid_nil, isHid_cons, Bool.or_false, Bool.or_true, Bool.true_or, Bool.false_or, St.lenV, St.ia, St.slV, optI, List.length_map, unV, eq_self, Option.getD_none, Option.getD_some, Int.toNat_natCast, Int.sub_zero, Int.toNat_zero, List.getElem?_map, Nat.sub_zero, Nat.left_eq_add, Nat.add_eq_left, Nat.add_eq_zero_iff, Nat.le_refl, Int.natCast_nonneg, Int.ofNat_lt, Int.ofNat_le, Int.le_refl, Bool.not_true, Bool.not_false, true_or, or_true, false_or, or_false, false_and, and_false, Bool.and_false, Bool.false_and]
    refine CallV.ro false (ok27 _ s ls p) rfl ?_
    rintro rs rfl
    refine ⟨.inl rfl, ?_⟩
    simp only [wpv_skip, wpv_ret, wpv_exit, wpv_reg, wpv_seq, wpv_block, wpv_cond, condK_t, condK_f, loopQ_n, loopQ_e, loopQ_r, wOps_nil, wOps_guard, grdK_tt, grdK_ff, grdK_tf, grdK_ft, stepK_mk, callK_def, wOps_mv, wOps_pick, wOps_alloc, wOps_box, wOps_build, wOps_bsl, wOps_ld, wOps_st, wOps_fa, wOps_fl, wOps_ia, wOps_ix, wOps_sl, wOps_sls, wOps_bin, wOps_eqs, wOps_un, wOps_cvi, wOps_cid, wOps_len, wOps_lens, wOps_app, wOps_mks, wOps_mkf, wOps_ext, wOps_nilchk, wOps_call, wOps_mm, mmV, seqQ_n, seqQ_e, seqQ_r, blkQ_n, blkQ_e, blkQ_r, bindP_some, bindP_none, bindP_bind, bindP_map, stepF, ev_t, ev_c, ev_g, ev_fn, get_put, get_new, get_setO, get_init, obj_put, obj_new, obj_setO, obj_init, next_put, next_new, next_setO, next_init, putO_some, putO_none, asBool_b, asInt_i, asStr_s, asAgg_agg, asPtr_p, asPtr_k, cells_one', cells_agg, Option.bind_some, Option.bind_none, Option.map_some, Option.map_none, ex_some, ex_none, List.getD_cons_zero, List.getD_cons_succ, List.length_cons, List.length_nil, Nat.reduceAdd, Nat.reduceEqDiff, Nat.reduceLeDiff, Nat.reduceSub, reduceCtorEq, addOff, St.alive, St.ld, mkV, binV, binI, isSh, List.drop_succ_cons, List.drop_zero, List.take_succ_cons, List.take_zero, Option.isSome_some, ↓reduceIte, and_self, and_true, true_and, decide_true, decide_false, endQ, resVs, resV, St.outs, St.outV, St.outC, St.outC0, nodupB, List.append_nil, List.nil_append, List.cons_append, List.map_cons, List.map_nil, St.addRs, St.addR, St.addD, St.addD0, St.addDs, packS, Bool.false_eq_true, not_true, not_false_iff, St.stO, St.toD, St.toDs, St.fill, repl, eqCs, eqC, Nat.zero_add, Nat.add_zero, List.set_cons_zero, List.set_cons_succ, List.getElem?_cons_zero, List.getElem?_cons_succ, ldRow, svExt, St.outCs, Bool.and_true, Bool.true_and, beq_self_eq_true, wpv_draw, wDraw_nil, wDraw_guard, wDraw_call, wDraw_mv, wDraw_pick, wDraw_alloc, wDraw_box, wDraw_build, wDraw_bsl, wDraw_ld, wDraw_st, wDraw_fa, wDraw_fl, wDraw_ia, wDraw_ix, wDraw_sl, wDraw_sls, wDraw_bin, wDraw_eqs, wDraw_un, wDraw_cvi, wDraw_cid, wDraw_len, wDraw_lens, wDraw_app, wDraw_mks, wDraw_mkf, wDraw_ext, wDraw_nilchk, wDraw_mm, drawK_mk, drawG_tt, drawG_ff, drawG_tf, drawG_ft, drawC_def, addO_none, addO_some, get_nx, obj_nx, next_nx, vis_nil, back_nil, get_vis, obj_vis, next_vis, get_back, obj_back, next_back, isHid_nil, isHid_cons, Bool.or_false, Bool.or_true, Bool.true_or, Bool.false_or, St.lenV, St.ia, St.slV, optI, List.length_map, unV, eq_self, Option.getD_none, Option.getD_some, Int.toNat_natCast, Int.sub_zero, Int.toNat_zero, List.getElem?_map, Nat.sub_zero, Nat.left_eq_add, Nat.add_eq_left, Nat.add_eq_zero_iff, Nat.le_refl, Int.natCast_nonneg, Int.ofNat_lt, Int.ofNat_le, Int.le_refl, Bool.not_true, Bool.not_false, true_or, or_true, false_or, or_false, false_and, and_false, Bool.and_false, Bool.false_and]
    refine CallV.ro false (ok28 _ s ls p) rfl ?_
    rintro rs rfl
    refine ⟨.inl rfl, ?_⟩
    simp only [wpv_skip, wpv_ret, wpv_exit, wpv_reg, wpv_seq, wpv_block, wpv_cond, condK_t, condK_f, loopQ_n, loopQ_e, loopQ_r, wOps_nil, wOps_guard, grdK_tt, grdK_ff, grdK_tf, grdK_ft, stepK_mk, callK_def, wOps_mv, wOps_pick, wOps_alloc, wOps_box, wOps_build, wOps_bsl, wOps_ld, wOps_st, wOps_fa, wOps_fl, wOps_ia, wOps_ix, wOps_sl, wOps_sls, wOps_bin, wOps_eqs, wOps_un, wOps_cvi, wOps_cid, wOps_len, wOps_lens, wOps_app, wOps_mks, wOps_mkf, wOps_ext, wOps_nilchk, wOps_call, wOps_mm, mmV, seqQ_n, seqQ_e, seqQ_r, blkQ_n, blkQ_e, blkQ_r, bindP_some, bindP_none, bindP_bind, bindP_map, stepF, ev_t, ev_c, ev_g, ev_fn, get_put, get_new, get_setO, get_init, obj_put, obj_new, obj_setO, obj_init, next_put, next_new, next_setO, next_init, putO_some, putO_none, asBool_b, asInt_i, asStr_s, asAgg_agg, asPtr_p, asPtr_k, cells_one', cells_agg, Option.bind_some, Option.bind_none, Option.map_some, Option.map_none, ex_some, ex_none, List.getD_cons_zero, List.getD_cons_succ, List.length_cons, List.length_nil, Nat.reduceAdd, Nat.reduceEqDiff, Nat.reduceLeDiff, Nat.reduceSub, reduceCtorEq, addOff, St.alive, St.ld, mkV, binV, binI, isSh, List.drop_succ_cons, List.drop_zero, List.take_succ_cons, List.take_zero, Option.isSome_some, ↓reduceIte, and_self, and_true, true_and, decide_true, decide_false, endQ, resVs, resV, St.outs, St.outV, St.outC, St.outC0, nodupB, List.append_nil, List.nil_append, List.cons_append, List.map_cons, List.map_nil, St.addRs, St.addR, St.addD, St.addD0, St.addDs, packS, Bool.false_eq_true, not_true, not_false_iff, St.stO, St.toD, St.toDs, St.fill, repl, eqCs, eqC, Nat.zero_add, Nat.add_zero, List.set_cons_zero, List.set_cons_succ, List.getElem?_cons_zero, List.getElem?_cons_succ, ldRow, svExt, St.outCs, Bool.and_true, Bool.true_and, beq_self_eq_true, wpv_draw, wDraw_nil, wDraw_guard, wDraw_call, wDraw_mv, wDraw_pick, wDraw_alloc, wDraw_box, wDraw_build, wDraw_bsl, wDraw_ld, wDraw_st, wDraw_fa, wDraw_fl, wDraw_ia, wDraw_ix, wDraw_sl, wDraw_sls, wDraw_bin, wDraw_eqs, wDraw_un, wDraw_cvi, wDraw_cid, wDraw_len, wDraw_lens, wDraw_app, wDraw_mks, wDraw_mkf, wDraw_ext, wDraw_nilchk, wDraw_mm, drawK_mk, drawG_tt, drawG_ff, drawG_tf, drawG_ft, drawC_def, addO_none, addO_some, get_nx, obj_nx, next_nx, vis_nil, back_nil, get_vis, obj_vis, next_vis, get_back, obj_back, next_back, isHid_nil, isHid_cons, Bool.or_false, Bool.or_true, Bool.true_or, Bool.false_or, St.lenV, St.ia, St.slV, optI, List.length_map, unV, eq_self, Option.getD_none, Option.getD_some, Int.toNat_natCast, Int.sub_zero, Int.toNat_zero, List.getElem?_map, Nat.sub_zero, Nat.left_eq_add, Nat.add_eq_left, Nat.add_eq_zero_iff, Nat.le_refl, Int.natCast_nonneg, Int.ofNat_lt, Int.ofNat_le, Int.le_refl, Bool.not_true, Bool.not_false, true_or, or_true, false_or, or_false, false_and, and_false, Bool.and_false, Bool.false_and]
end Go.V.LabelChecks
namespace Go.Proofs.Ytfjndjehkknajaa.labelChecks
open Go.ChangeShapes Go.WideShapes Go.ChangeAt Go.RowKit Go.V
theorem own : ownKnob Try.prog.godebug = none := by kernel_rfl
theorem laidOut : laidOutB Try.prog = true := by kernel_rfl
set_option maxRecDepth 100000 in
theorem lifted (os : Os) (started : os.Started) (H : Type) (enc : TypeId × Value → H) :
    ReturnsInHanded {} Try.checked os 9 .any (Rows.labelChecksSpec.pre6 enc Try.prog Try.f9 Rows.labelChecksRow.domain false) (Rows.labelChecksSpec.post enc Try.prog Try.f9 false true false false) := by
  refine returnsInHanded_of_change_sized (C := Try.checked) own started (by kernel_rfl) Try.func9
    (ChangeSpec.witness6 (enc := enc) (C := Try.checked) false ⟨#[], #[.agg #[.int .i64 0, .slice none 0 0, .int .i64 0]], []⟩ 8 (by kernel_rfl) (by kernel_rfl) (by kernel_rfl) (by kernel_rfl)) ?_
  intro W base args ds gs before hval0 hW hcnd hsz0 _
  have hsz : (DataW.weightsEach Try.prog (Try.f9.params.toList ++ Rows.labelChecksSpec.plain.varTypes Try.prog) (ds ++ gs)).all (· ≤ reachBytes) = true := hsz0
  have hval : ∀ (j : Nat) t v, Try.f9.params.toList[j]? = some t → args.toList[j]? = some v → Value.okWide Try.prog W .any base t v := fun j t v h1 h2 => hval0 j t v (by simpa using h1) (by simpa using h2)
  have hW' := hW
  obtain ⟨p, q, hA0, hV, rfl, hfz, hnd⟩ := hW
  have hA : DataW.TrodAll enc Try.prog W 0 (fun _ => true) true Try.f9.params.toList args.toList ds p := hA0
  obtain ⟨rfl, rfl⟩ := trodVars_none hV
  have hsz' : (DataW.weightsEach Try.prog Try.f9.params.toList ds).all (· ≤ reachBytes) = true := by
    have e : Try.f9.params.toList ++ Rows.labelChecksSpec.plain.varTypes Try.prog = Try.f9.params.toList := by rfl
    rw [e, List.append_nil] at hsz; exact hsz
  rw [Try.params9] at hA hval hsz'
  obtain ⟨svs, hr, hfit⟩ := law_args (by kernel_rfl) hA hval hsz'
  clear hA0 hval0 hsz0 hsz
  have hA2 := hA
  obtain ⟨v0, vs0, d0, ds0, p0, q0, hargs0, rfl, rfl, h0, r0⟩ := trodAll_cons hA
  obtain ⟨hargs1, rfl, rfl⟩ := trodAll_nil r0
  refine (law_run (Go.V.LabelChecks.walk9 svs hfit) hr).mono fun e W' ⟨he, bel⟩ => ?_
  subst he
  have hA3 := law_kept laidOut bel (by kernel_rfl) hA2
  exact ⟨_, rfl, _, _, _, [], _, [], hW', trodAll_mk1 (shut_bool Try.underlying4 _), hA3, rfl, bel.frame _, fun h => by cases h⟩
theorem over : Rows.labelChecksRow.holds Try.pinned (OpenSpec.ofChange Rows.labelChecksSpec) :=
  OpenClaim.holds_of_wide 9 Try.f9 rfl rfl rfl rfl rfl rfl rfl ⟨rfl, rfl, rfl, rfl, rfl⟩ rfl rfl rfl rfl rfl (by kernel_rfl) Try.func9 (by kernel_rfl)
    (of_decide_eq_true (by kernel_rfl)) (by unfold Func.isWrapper; first | (rw [if_pos (by decide +kernel)]; kernel_rfl) | (rw [if_neg (by decide +kernel)]; exact ⟨rfl, rfl⟩))
    (fun os started H enc _ => lifted os started H enc)
theorem proved : Rows.LabelChecksSaid := over
#print axioms proved
end Go.Proofs.Ytfjndjehkknajaa.labelChecks
namespace Go.Proofs.Ytfjndjehkknajaa
/-- The row, under a short name, for the claim. -/
theorem labelChecks_holds : Rows.LabelChecksSaid := labelChecks.proved
end Go.Proofs.Ytfjndjehkknajaa
