/- The first law: the reference's judgement is the program's. -/
import Derived.Test.YtlbommlpkdcmnaaE6
namespace Go.Proofs.Ytlbommlpkdcmnaa.PI
open Go Go.PI

set_option maxRecDepth 100000
set_option maxHeartbeats 4000000
set_option linter.unusedSimpArgs false



theorem rises_ok (xs : List Int) (hi : Int) : rises xs 0 hi = (!(xs.any fun n => !decide (0 ≤ n ∧ n ≤ hi)) && increasing xs) := by
  rw [Bool.eq_iff_iff, rises_iff, Bool.and_eq_true, increasing_iff]
  have hany : (!(xs.any fun n => !decide (0 ≤ n ∧ n ≤ hi))) = true ↔ ∀ i, 0 ≤ i → i < xs.length → 0 ≤ xs.getD i 0 ∧ xs.getD i 0 ≤ hi := by
    simp only [Bool.not_eq_true', List.any_eq_false, Bool.not_eq_true', decide_eq_false_iff_not, Decidable.not_not]
    constructor
    · intro h i _ hi'
      rw [getD_of_lt hi']
      exact h _ (List.getElem_mem hi')
    · intro h x hx
      obtain ⟨i, hi', rfl⟩ := List.getElem_of_mem hx
      have := h i (Nat.zero_le _) hi'
      rwa [getD_of_lt hi'] at this
  rw [hany]
  constructor
  · intro h
    exact ⟨fun i h1 h2 => (h i h1 h2).1, fun i h1 h2 => (h i (Nat.zero_le _) h2).2 (by omega)⟩
  · rintro ⟨h1, h2⟩ i h3 h4
    exact ⟨h1 i h3 h4, fun h5 => h2 i (by omega) h4⟩

theorem valid_eq (xs : List (List Int)) : specValid xs = implValid xs := by
  unfold specValid implValid okAt
  simp only [rises_ok]

/-- What a bound says. -/
theorem szL_bound : ∀ (xs : List (List Int)) (l l' : Int), 0 ≤ l → l ≤ 1048576 → (∀ x ∈ xs, x.length < 1000000000000000000) → szL xs l = some l' → ∀ x ∈ xs, x.length ≤ 1048576
  | [], _, _, _, _, _, _, x, hx => by simp at hx
  | y :: xs, l, l', h0, h1, hc, h, x, hx => by
    have hy := hc y (by simp)
    have hw : IntKind.i64.wrap (l - y.length) = l - y.length := by rw [wrap_small] <;> omega
    simp only [szL, hw] at h
    split at h
    · cases h
    · rcases List.mem_cons.1 hx with rfl | hx
      · omega
      · exact szL_bound xs _ l' (by omega) (by omega) (fun z hz => hc z (by simp [hz])) h x hx

theorem szT_bound (xs : List (List Int)) (l' : Int) (hb : xs.length < 1000000000000000000) (hc : ∀ x ∈ xs, x.length < 1000000000000000000) (h : szT xs 1048576 = some l') : xs.length ≤ 1048576 ∧ ∀ x ∈ xs, x.length ≤ 1048576 := by
  have hw : IntKind.i64.wrap (1048576 - xs.length) = 1048576 - xs.length := by rw [wrap_small] <;> omega
  simp only [szT, hw] at h
  split at h
  · cases h
  · exact ⟨by omega, szL_bound xs _ l' (by omega) (by omega) hc h⟩

theorem law_3 (xs : List (List Int)) (hb : xs.length < 1000000000000000000) (hc : ∀ x ∈ xs, x.length < 1000000000000000000) : callOf pr 3 [.agg [LL xs]] = some (B true) := by
  rw [call_eq pr 3 _ Try.f3 fn_3 _ rfl _ ann_3 rfl]
  have h9 := call_9 xs hb 1048576
  by_cases hneg : (szT xs 1048576).getD (-1) < 0
  · rw [if_pos hneg] at h9
    simp -implicitDefEqProofs only [fin_3, tab_3, tab_4, tab_41, tab_2, tab_22, tab_24, tab_27, h9, pr_tab, pr_ty, Go.PI.ite_bind, Go.PI.ite_map, Go.PI.env_tab, Go.PI.env_ty, Go.PI.env_call, Go.PI.sget_nil, Go.PI.sget_cons, Go.PI.sset_nil, Go.PI.sset_cons, Go.PI.sdrop_nil, Go.PI.sdrop_cons, Go.PI.hget_nil, Go.PI.hget_cons, Go.PI.hput_nil, Go.PI.hput_cons, Go.PI.st_put_some, Go.PI.st_put_none, Go.PI.eval_tmp, Go.PI.eval_const, Go.PI.eval_func, Go.PI.const_bool, Go.PI.const_int, Go.PI.const_str, Go.PI.const_nilS, Go.PI.const_nilI, Go.PI.const_nilF, Go.PI.const_nilP, Go.PI.const_agg, Go.PI.const1_bool, Go.PI.const1_int, Go.PI.const1_str, Go.PI.const1_nilS, Go.PI.runOps_nil, Go.PI.runOps_cons, Go.PI.runOps_guard, Go.PI.guarded_bool, Go.PI.guarded_skip, Go.PI.st_get, Go.PI.gslot_zero, Go.PI.gslot_succ, Go.PI.ex_move, Go.PI.ex_assign, Go.PI.ex_pick, Go.PI.pickOf_bool, Go.PI.ex_build, Go.PI.ex_load, Go.PI.ex_nil, Go.PI.nilOf_rp, Go.PI.nilOf_op, Go.PI.nilOf_el, Go.PI.ex_bin, Go.PI.ex_un, Go.PI.ex_conv, Go.PI.ex_fn, Go.PI.ex_slice, Go.PI.intOf_int, Go.PI.opt_none, Go.PI.opt_some, Go.PI.ex_fa, Go.PI.ex_field, Go.PI.ex_ia, Go.PI.ex_index, Go.PI.extractOf_tuple, Go.PI.ex_extract, Go.PI.ex_len, Go.PI.newId_some, Go.PI.put2_mk, Go.PI.ex_box, Go.PI.boxOf_eq, Go.PI.ex_alloc, Go.PI.ex_bs, Go.PI.ex_store, Go.PI.ex_ms, Go.PI.ex_append, Go.PI.ex_call, Go.PI.callVia_fn, Go.PI.adoptVia_false, Go.PI.prun_skip, Go.PI.prun_region, Go.PI.leave_some, Go.PI.leave_none, Go.PI.drop_nil, Go.PI.drop_cons, Go.PI.order_text, Go.PI.order_draw, Go.PI.orderVia_some, Go.PI.orderVia_none, Go.PI.look_nil, Go.PI.look_cons, Go.PI.andThen_normal, Go.PI.andThen_exit, Go.PI.andThen_ret, Go.PI.prun_seq, Go.PI.prun_cond, Go.PI.condOf_bool, Go.PI.unblock_normal, Go.PI.unblock_ret, Go.PI.unblock_exit, Go.PI.prun_block, Go.PI.prun_loop, Go.PI.prun_exit, Go.PI.prun_ret, Go.PI.prun_scope, Go.PI.prun_label, Go.PI.gc_nil, Go.PI.gc_cons, Go.PI.nl_skip, Go.PI.nl_region, Go.PI.nl_seq, Go.PI.nl_cond, Go.PI.nl_block, Go.PI.nl_loop, Go.PI.nl_exit, Go.PI.nl_ret, Go.PI.nl_label, Go.PI.nl_scope, Go.PI.done_normal, Go.PI.done_ret, Go.PI.again_normal, Go.PI.again_exit, Go.PI.again_ret, Go.PI.tupleOf_one, Go.PI.tupleOf_two, Go.PI.tupleOf_nil, Go.PI.rv_tmp, Go.PI.rv_cell, Go.PI.mapO_nil, Go.PI.mapO_cons, Go.PI.bind0_nil, Go.PI.bind0_cons, Go.PI.asDen_self, Go.PI.asList_self, Go.PI.bt_int, Go.PI.bt_str, Go.PI.bt_bool, Go.PI.boolVia_bool, Go.PI.bi_add, Go.PI.bi_sub, Go.PI.bi_mul, Go.PI.bi_quo, Go.PI.bi_rem, Go.PI.bi_shl, Go.PI.bi_shr, Go.PI.bi_and, Go.PI.bi_or, Go.PI.bi_xor, Go.PI.bi_andNot, Go.PI.bi_eql, Go.PI.bi_neq, Go.PI.bi_lss, Go.PI.bi_leq, Go.PI.bi_gtr, Go.PI.bi_geq, Go.PI.bb_eql, Go.PI.bb_neq, Go.PI.bs_all, Go.PI.un_not, Go.PI.un_neg, Go.PI.agg_struct, Go.PI.agg_arr, Go.PI.agg_int, Go.PI.agg_bool, Go.PI.agg_str, Go.PI.agg_err, Go.PI.agg_slice, Go.PI.agg_ptr, Go.PI.agg_func, Go.PI.ca_rp, Go.PI.ca_op, Go.PI.ca_el, Go.PI.cells_agg, Go.PI.cells_d, Go.PI.cells_os, Go.PI.cells_sub, Go.PI.cells_nilS, Go.PI.cells_empS, Go.PI.cells_fn, Go.PI.cells_op, Go.PI.cells_rp, Go.PI.cells_el, Go.PI.und_agg, Go.PI.und_d, Go.PI.und_os, Go.PI.und_sub, Go.PI.und_nilS, Go.PI.und_empS, Go.PI.und_fn, Go.PI.und_op, Go.PI.und_rp, Go.PI.und_el, Go.PI.resVals, Go.PI.resVal, Go.PI.res1, Go.PI.resCells, Go.PI.fieldAddr.eq_def, Go.PI.field.eq_def, Go.PI.index.eq_def, Go.PI.flat, Go.PI.lenT.eq_def, Go.PI.lenOf, Option.bind_some, Option.bind_none, Option.map_some, Option.map_none, Option.getD_some, Option.getD_none, List.map_cons, List.map_nil, List.filterMap_cons, List.filterMap_nil, List.length_cons, List.length_nil, List.getElem?_cons_succ, List.getElem?_cons_zero, List.contains_cons, List.contains_nil, List.drop_zero, List.drop_succ_cons, List.take_succ_cons, List.take_zero, AV.isOne, Ty.size, Go.PI.convertT.eq_def, Go.PI.sliceT.eq_def, Go.PI.sliceOp, List.nil_append, List.cons_append, List.append_nil, Go.PI.args.eq_def, Go.PI.argOf, AV.shares, AV.sharess, AV.owned, AV.owneds, Go.PI.adopt, Go.PI.adopts, Go.PI.adopts.adopt0, Go.PI.adopt1, Go.PI.St.alloc.eq_def, Go.PI.St.kill.eq_def, Go.PI.St.subst.eq_def, Slots.subst, Heap.subst, Obj.subst, AV.subst, AV.substs, Ty.refs, Go.PI.gc1, Heap.keepIf, Slots.leads, Heap.leads, AV.leads, AV.leadss, List.headD_cons, List.all_cons, List.all_nil, Go.PI.makeSlice.eq_def, Go.PI.buildSlice.eq_def, Go.PI.append.eq_def, Go.PI.storeAt.eq_def, Go.PI.build.eq_def, Go.PI.zeros, Go.PI.fillAt, Go.PI.elems, Go.PI.inOrder, St.freezes, St.freeze1, St.freezeV, St.freezeVs, Go.PI.frozenAs, Go.PI.unflat, Go.PI.listOf, Go.PI.bounds, Go.PI.cut, Go.PI.castDen, Ty.zero, List.replicate_zero, List.replicate_succ, List.isEmpty_nil, List.isEmpty_cons, List.foldlM_cons, List.foldlM_nil, Option.bind_eq_bind, Option.pure_def, Go.PI.indexAddr.eq_def, Go.PI.loadAt.eq_def, Go.PI.mkV.eq_def, Go.PI.binStr, Nat.reduceAdd, Nat.reduceSub, Nat.reduceMul, Nat.reduceLT, Nat.reduceLeDiff, Nat.reduceEqDiff, Nat.reduceBEq, Nat.reduceDiv, Int.reduceLT, Int.reduceLE, Int.reduceToNat, Int.reduceNeg, ↓reduceIte, reduceCtorEq, ↓reduceDIte, Bool.false_eq_true, Bool.true_eq_false, ne_eq, not_true_eq_false, not_false_eq_true, Bool.true_or, Bool.false_or, Bool.or_true, Bool.or_false, Bool.true_and, Bool.false_and, Bool.and_true, Bool.and_false, Bool.not_true, Bool.not_false, Bool.not_eq_false', Bool.not_eq_true', and_true, true_and, and_false, false_and, or_true, true_or, or_false, false_or, decide_eq_true_eq, decide_true, decide_false, decide_eq_false_iff_not, ite_not, if_true, if_false]
  · rw [if_neg hneg] at h9
    have hneg' : ((szT xs 1048576).getD (-1) < 0) = False := by simp only [hneg]
    have hbd : xs.length ≤ 1048576 ∧ ∀ x ∈ xs, x.length ≤ 1048576 := by
      cases hs : szT xs 1048576 with
      | none => rw [hs] at hneg; exact absurd (by decide) hneg
      | some l' => exact szT_bound xs l' hb hc hs
    have h11 := call_11 xs (by omega) (fun x hx => by have := hbd.2 x hx; omega)
    have h10 := call_10 xs hb hc
    have h12 := call_12 xs hb hc
    have h13 := call_13 xs xs hb hc
    rw [← valid_eq] at h12
    have hself : (specValid xs == specValid xs) = true := by simp
    simp -implicitDefEqProofs only [fin_3, tab_3, tab_4, tab_41, tab_2, tab_22, tab_24, tab_27, h9, hneg', h11, h10, h12, h13, hself, decide_true, pr_tab, pr_ty, Go.PI.ite_bind, Go.PI.ite_map, Go.PI.env_tab, Go.PI.env_ty, Go.PI.env_call, Go.PI.sget_nil, Go.PI.sget_cons, Go.PI.sset_nil, Go.PI.sset_cons, Go.PI.sdrop_nil, Go.PI.sdrop_cons, Go.PI.hget_nil, Go.PI.hget_cons, Go.PI.hput_nil, Go.PI.hput_cons, Go.PI.st_put_some, Go.PI.st_put_none, Go.PI.eval_tmp, Go.PI.eval_const, Go.PI.eval_func, Go.PI.const_bool, Go.PI.const_int, Go.PI.const_str, Go.PI.const_nilS, Go.PI.const_nilI, Go.PI.const_nilF, Go.PI.const_nilP, Go.PI.const_agg, Go.PI.const1_bool, Go.PI.const1_int, Go.PI.const1_str, Go.PI.const1_nilS, Go.PI.runOps_nil, Go.PI.runOps_cons, Go.PI.runOps_guard, Go.PI.guarded_bool, Go.PI.guarded_skip, Go.PI.st_get, Go.PI.gslot_zero, Go.PI.gslot_succ, Go.PI.ex_move, Go.PI.ex_assign, Go.PI.ex_pick, Go.PI.pickOf_bool, Go.PI.ex_build, Go.PI.ex_load, Go.PI.ex_nil, Go.PI.nilOf_rp, Go.PI.nilOf_op, Go.PI.nilOf_el, Go.PI.ex_bin, Go.PI.ex_un, Go.PI.ex_conv, Go.PI.ex_fn, Go.PI.ex_slice, Go.PI.intOf_int, Go.PI.opt_none, Go.PI.opt_some, Go.PI.ex_fa, Go.PI.ex_field, Go.PI.ex_ia, Go.PI.ex_index, Go.PI.extractOf_tuple, Go.PI.ex_extract, Go.PI.ex_len, Go.PI.newId_some, Go.PI.put2_mk, Go.PI.ex_box, Go.PI.boxOf_eq, Go.PI.ex_alloc, Go.PI.ex_bs, Go.PI.ex_store, Go.PI.ex_ms, Go.PI.ex_append, Go.PI.ex_call, Go.PI.callVia_fn, Go.PI.adoptVia_false, Go.PI.prun_skip, Go.PI.prun_region, Go.PI.leave_some, Go.PI.leave_none, Go.PI.drop_nil, Go.PI.drop_cons, Go.PI.order_text, Go.PI.order_draw, Go.PI.orderVia_some, Go.PI.orderVia_none, Go.PI.look_nil, Go.PI.look_cons, Go.PI.andThen_normal, Go.PI.andThen_exit, Go.PI.andThen_ret, Go.PI.prun_seq, Go.PI.prun_cond, Go.PI.condOf_bool, Go.PI.unblock_normal, Go.PI.unblock_ret, Go.PI.unblock_exit, Go.PI.prun_block, Go.PI.prun_loop, Go.PI.prun_exit, Go.PI.prun_ret, Go.PI.prun_scope, Go.PI.prun_label, Go.PI.gc_nil, Go.PI.gc_cons, Go.PI.nl_skip, Go.PI.nl_region, Go.PI.nl_seq, Go.PI.nl_cond, Go.PI.nl_block, Go.PI.nl_loop, Go.PI.nl_exit, Go.PI.nl_ret, Go.PI.nl_label, Go.PI.nl_scope, Go.PI.done_normal, Go.PI.done_ret, Go.PI.again_normal, Go.PI.again_exit, Go.PI.again_ret, Go.PI.tupleOf_one, Go.PI.tupleOf_two, Go.PI.tupleOf_nil, Go.PI.rv_tmp, Go.PI.rv_cell, Go.PI.mapO_nil, Go.PI.mapO_cons, Go.PI.bind0_nil, Go.PI.bind0_cons, Go.PI.asDen_self, Go.PI.asList_self, Go.PI.bt_int, Go.PI.bt_str, Go.PI.bt_bool, Go.PI.boolVia_bool, Go.PI.bi_add, Go.PI.bi_sub, Go.PI.bi_mul, Go.PI.bi_quo, Go.PI.bi_rem, Go.PI.bi_shl, Go.PI.bi_shr, Go.PI.bi_and, Go.PI.bi_or, Go.PI.bi_xor, Go.PI.bi_andNot, Go.PI.bi_eql, Go.PI.bi_neq, Go.PI.bi_lss, Go.PI.bi_leq, Go.PI.bi_gtr, Go.PI.bi_geq, Go.PI.bb_eql, Go.PI.bb_neq, Go.PI.bs_all, Go.PI.un_not, Go.PI.un_neg, Go.PI.agg_struct, Go.PI.agg_arr, Go.PI.agg_int, Go.PI.agg_bool, Go.PI.agg_str, Go.PI.agg_err, Go.PI.agg_slice, Go.PI.agg_ptr, Go.PI.agg_func, Go.PI.ca_rp, Go.PI.ca_op, Go.PI.ca_el, Go.PI.cells_agg, Go.PI.cells_d, Go.PI.cells_os, Go.PI.cells_sub, Go.PI.cells_nilS, Go.PI.cells_empS, Go.PI.cells_fn, Go.PI.cells_op, Go.PI.cells_rp, Go.PI.cells_el, Go.PI.und_agg, Go.PI.und_d, Go.PI.und_os, Go.PI.und_sub, Go.PI.und_nilS, Go.PI.und_empS, Go.PI.und_fn, Go.PI.und_op, Go.PI.und_rp, Go.PI.und_el, Go.PI.resVals, Go.PI.resVal, Go.PI.res1, Go.PI.resCells, Go.PI.fieldAddr.eq_def, Go.PI.field.eq_def, Go.PI.index.eq_def, Go.PI.flat, Go.PI.lenT.eq_def, Go.PI.lenOf, Option.bind_some, Option.bind_none, Option.map_some, Option.map_none, Option.getD_some, Option.getD_none, List.map_cons, List.map_nil, List.filterMap_cons, List.filterMap_nil, List.length_cons, List.length_nil, List.getElem?_cons_succ, List.getElem?_cons_zero, List.contains_cons, List.contains_nil, List.drop_zero, List.drop_succ_cons, List.take_succ_cons, List.take_zero, AV.isOne, Ty.size, Go.PI.convertT.eq_def, Go.PI.sliceT.eq_def, Go.PI.sliceOp, List.nil_append, List.cons_append, List.append_nil, Go.PI.args.eq_def, Go.PI.argOf, AV.shares, AV.sharess, AV.owned, AV.owneds, Go.PI.adopt, Go.PI.adopts, Go.PI.adopts.adopt0, Go.PI.adopt1, Go.PI.St.alloc.eq_def, Go.PI.St.kill.eq_def, Go.PI.St.subst.eq_def, Slots.subst, Heap.subst, Obj.subst, AV.subst, AV.substs, Ty.refs, Go.PI.gc1, Heap.keepIf, Slots.leads, Heap.leads, AV.leads, AV.leadss, List.headD_cons, List.all_cons, List.all_nil, Go.PI.makeSlice.eq_def, Go.PI.buildSlice.eq_def, Go.PI.append.eq_def, Go.PI.storeAt.eq_def, Go.PI.build.eq_def, Go.PI.zeros, Go.PI.fillAt, Go.PI.elems, Go.PI.inOrder, St.freezes, St.freeze1, St.freezeV, St.freezeVs, Go.PI.frozenAs, Go.PI.unflat, Go.PI.listOf, Go.PI.bounds, Go.PI.cut, Go.PI.castDen, Ty.zero, List.replicate_zero, List.replicate_succ, List.isEmpty_nil, List.isEmpty_cons, List.foldlM_cons, List.foldlM_nil, Option.bind_eq_bind, Option.pure_def, Go.PI.indexAddr.eq_def, Go.PI.loadAt.eq_def, Go.PI.mkV.eq_def, Go.PI.binStr, Nat.reduceAdd, Nat.reduceSub, Nat.reduceMul, Nat.reduceLT, Nat.reduceLeDiff, Nat.reduceEqDiff, Nat.reduceBEq, Nat.reduceDiv, Int.reduceLT, Int.reduceLE, Int.reduceToNat, Int.reduceNeg, ↓reduceIte, reduceCtorEq, ↓reduceDIte, Bool.false_eq_true, Bool.true_eq_false, ne_eq, not_true_eq_false, not_false_eq_true, Bool.true_or, Bool.false_or, Bool.or_true, Bool.or_false, Bool.true_and, Bool.false_and, Bool.and_true, Bool.and_false, Bool.not_true, Bool.not_false, Bool.not_eq_false', Bool.not_eq_true', and_true, true_and, and_false, false_and, or_true, true_or, or_false, false_or, decide_eq_true_eq, decide_true, decide_false, decide_eq_false_iff_not, ite_not, if_true, if_false]
end Go.Proofs.Ytlbommlpkdcmnaa.PI
