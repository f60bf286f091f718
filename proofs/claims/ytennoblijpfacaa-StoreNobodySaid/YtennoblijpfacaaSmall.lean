/-
small: a span that may be a store's.
-/
import Derived.Test.YtennoblijpfacaaOpen
set_option linter.unusedSimpArgs false
set_option linter.unusedVariables false
set_option maxRecDepth 100000
namespace Go.Ev
open Go.Proofs

theorem u64_wrap (x : Int) : IntKind.u64.wrap x = x % 18446744073709551616 := by
  simp only [IntKind.wrap, IntKind.signed, IntKind.bits]
  simp
theorem u64_nonneg (x : Int) : 0 ≤ IntKind.u64.wrap x := by rw [u64_wrap]; omega
theorem u64_small {x : Int} (h : 0 ≤ x ∧ x < 18446744073709551616) : IntKind.u64.wrap x = x := by rw [u64_wrap]; omega
theorem tmod_in {a b : Int} (ha : 0 ≤ a) (hb : 0 < b) : ∃ r, a.tmod b = r ∧ 0 ≤ r ∧ r < b := ⟨_, rfl, Int.tmod_nonneg _ ha, Int.tmod_lt_of_pos _ hb⟩

theorem small_at (x y : Int) (h : Heap) : ∃ a b : Int, D X (.fn 21 []) [.agg [.int .i64 x, .int .i64 y]] h = some (.agg [.int .i64 a, .int .i64 b], h) ∧ 0 ≤ a ∧ a < b ∧ b ≤ 256 ∧ b - a ≤ 40 := by
  obtain ⟨r1, e1, h1, h2⟩ := tmod_in (u64_nonneg x) (b := 250) (by omega)
  have hm : 0 < (if 256 - r1 < 40 then 256 - r1 else 40) ∧ (if 256 - r1 < 40 then 256 - r1 else 40) ≤ 40 ∧ (if 256 - r1 < 40 then 256 - r1 else 40) ≤ 256 - r1 := by split <;> omega
  generalize hmm : (if 256 - r1 < 40 then 256 - r1 else 40) = m at hm
  obtain ⟨r2, e2, h3, h4⟩ := tmod_in (u64_nonneg y) (b := m) (by omega)
  have e3 : IntKind.u64.wrap m = m := u64_small (by omega)
  refine ⟨r1, r1 + 1 + r2, Ok.eq ?_, h1, by omega, by omega, by omega⟩
  (refine Ok.body body21 pin21 ?_; simp only [c21, Try.f21, Option.getD_some, nslot21, List.append_nil, List.map, List.replicate, List.length_cons, List.length_nil, Nat.reduceAdd, Nat.reduceSub, List.cons_append, List.nil_append])
  (repeat' (first | (simp -implicitDefEqProofs (maxSteps := 1000000) (disch := first | assumption | omega | (simp only [List.length_append, List.length_cons, List.length_nil, List.length_set]; omega)) only [*, ty3, ty25, ty26, ty37, slot21, wrap_i64, grd_tr, and_true, true_and, Int.le_refl, evC_seq, evC_region, evC_plan, evC_block, evC_cond, evC_exit, evC_ret, evC_skip, evC_label, evC_loop, loopK_eq, exOps_nil, exOps_cons, wantedT, bnd_s, stepK_t, stepK_f, putK_eq, seqK_n, seqK_e, seqK_r, blockK_n, blockK_e, blockK_r, brK_t, brK_f, bnd_bnd, thenK_eq, ok_some, stopK_eq, beq_f, beq_t, Bool.not_not, cond_true, cond_false, resK_n, resK_r, exOp_move, exOp_assign, exOp_pick, exOp_alloc, exOp_box, exOp_build, exOp_buildSlice, exOp_load, exOp_store, exOp_nilCheck, exOp_binOp, exOp_unOp, exOp_convert, exOp_makeFunc, exOp_makeSlice, exOp_slice, exOp_fieldAddr, exOp_field, exOp_indexAddr, exOp_index, exOp_extract, exOp_builtin, exOp_call, callK_eq, exPure, opd, getT, constT, ofValue, cellsV, newVar, St.put, setT, posT, Option.bind_some, List.getD_cons_zero, List.getD_cons_succ, List.set_cons_zero, List.set_cons_succ, List.getElem?_cons_zero, List.getElem?_cons_succ, List.getElem?_nil, decide_true, decide_false, Nat.reduceEqDiff, fieldAddrV, fieldOff, load, store, lcells, rd, TI.kind, grd_t, Nat.reduceLT, Nat.reduceAdd, and_self, cnd_t, cnd_f, binOp, intOp, Bool.not_true, Bool.not_false, Bool.true_beq, Bool.false_beq, beq_self_eq_true, exPlan_nil, exPlan_cons, entryK_eq, leadK_t, leadK_f, lookK_nil, lookK_cons, leadsT, again, rdV, vsame, vsames, Bool.and_true, Bool.true_and, Op.operands, callops_v, callops_b, List.elem_cons, List.elem_nil, List.toList_toArray, makeSliceV, buildV, fillV, splice, List.zip, List.map_cons, List.map_nil, Nat.reduceBEq, List.all_cons, List.all_nil, List.length_cons, List.length_nil, List.take, List.drop, List.cons_append, List.nil_append, results, resV, isCell, wr, List.set, nilCheckV, Nat.reduceSub, Nat.reduceMul, Nat.mul_one, Nat.zero_add, Nat.add_zero, Nat.le_refl, List.append_nil, allV, builtinV, lenV, indexAddrV, veq_eq, veqM_int, veqM_str, veqM_bool, veqM_p1, veqM_p2, veqM_p3, veqM_s1, veqM_s2, veqM_s3, veqM_s4, veqM_s5, veqM_m1, veqM_m2, veqM_m3, veqM_f1, veqM_f2, veqM_f3, veqM_struct, veqM_arr, veqF_nil, veqF_cons, veqA_nil, veqA_cons, partK_eq, cnd_and, unOp, minmaxV, minmax, sliceV, bound, asInt, idx, idxLe, appendV, copyV, clearV, convV, putBlk, sliceCells, newBlk, buildSliceV, shift, Int.toNat_natCast, Option.isSome_none, Option.isNone_none, Option.isSome_some, Option.isNone_some, Bool.or_false, Bool.or_true, Bool.true_or, Bool.false_or, Bool.and_false, Bool.false_and, unrK_n, unrK_e, unrK_r, hcells_app, hcells_ge, hcells_c0, hcells_cs, heap_set_ge, heap_set_lt, Nat.add_sub_cancel_left, Nat.sub_self, List.append_assoc, hcells_set_ne, hcells_set_eq, evC_rf, rfK_eq, reduceCtorEq, Int.reduceLT, Int.reduceLE, Int.reduceAdd, Int.reduceSub, Int.reduceNeg, Int.reduceToNat, Int.reduceEq, nat_cast_0, nat_cast_1, List.length_append, List.length_set, Nat.reduceLeDiff, List.replicate_zero, List.flatten_nil, itT, itF, reps_0, reps_1, arr_empty, asgK_n, asgM_s, endRound_eq, endM_n, endM_r, endM_e, loopAt_set_ne, loopAt_set_eq, loopAt_app, List.set_set, or_true, true_or, or_false, false_or, loopAt_ge, loopAt_c0, loopAt_cs, endRF_eq, endFM_n, endFM_r, endFM_e]) | ((with_reducible (first | refine Ok.br ?_ ?_ | refine Ok.gd ?_ ?_ | refine Ok.ld ?_ ?_)) <;> (intro g; (try simp only [decide_eq_true_eq, decide_eq_false_iff_not, beq_f, beq_t, Bool.not_eq_true', Bool.not_eq_false', Bool.not_not, Bool.false_eq_true, Bool.true_eq_false] at g); (first | (exfalso; omega) | skip)))))
end Go.Ev
