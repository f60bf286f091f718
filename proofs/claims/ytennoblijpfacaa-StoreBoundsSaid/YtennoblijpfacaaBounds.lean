/-
StoreBounds.
-/
import Derived.Test.YtennoblijpfacaaParts
import Derived.Test.YtennoblijpfacaaSmall
set_option linter.unusedSimpArgs false
set_option linter.unusedVariables false
set_option maxRecDepth 100000
namespace Go.Ev
open Go.Proofs

theorem reps_2 (z : List V) : reps 2 z = z ++ z := by simp [reps, List.replicate_succ]

/-- What part says of any span. -/
theorem part_any {H : Heap} {p c g : Nat} {s : Sto} (hs : StoreAt H p c g s) (f t : Int) :
    Ev.Ok (D X (.fn 33 []) [.ptr p 0 0, .agg [.int .i64 f, .int .i64 t]] H) fun y => ∃ H' pv e, y = (.tup [pv, .int .i64 e], H') ∧ Keeps [] H H' ∧
      ((t ≤ f ∧ e = 1 ∧ pv = .nilp) ∨ (f < t ∧ (f < s.a ∨ (¬ f < s.a ∧ s.b < t)) ∧ e = 9 ∧ pv = .nilp) ∨ (f < t ∧ ¬ f < s.a ∧ ¬ s.b < t ∧ e = 0 ∧ ∃ q, pv = .ptr q 0 0)) := by
  by_cases h1 : t ≤ f
  · exact .of (part_bad hs (by omega)) ⟨_, _, _, rfl, .refl _ _, .inl ⟨h1, rfl, rfl⟩⟩
  · by_cases h2 : f < s.a ∨ s.b < t
    · exact .of (part_out hs (by omega) h2) ⟨_, _, _, rfl, .refl _ _, .inr (.inl ⟨by omega, by omega, rfl, rfl⟩)⟩
    · refine (part_in hs (f := f) (t := t) (by omega) (by omega) (by omega)).mono ?_
      rintro _ ⟨H', rfl, hk, _⟩
      exact ⟨_, _, _, rfl, hk, .inr (.inr ⟨by omega, by omega, by omega, rfl, _, rfl⟩)⟩

set_option maxHeartbeats 8000000 in
theorem storeBounds_at (x1 x2 f t k0 k1 : Int) (h : Heap) : Ev.Ok (D X (.fn 9 []) [.agg [.int .i64 x1, .int .i64 x2], .agg [.int .i64 f, .int .i64 t], .agg [.int .i64 k0, .int .i64 k1]] h) fun r => r.1 = .bool true := by
  refine Ok.aim fun Q hQ => ?_
  have hQ' := Hid.mk hQ
  clear hQ
  obtain ⟨a, b, es, ha, hab, hb, _⟩ := small_at x1 x2 h
  obtain ⟨y, en, H1, rfl, n1, n2, n3⟩ := new_store ha hab hb h
  have esp := spanOf_at n3
  obtain ⟨y, ep, H2, pv, e, rfl, p1, p2⟩ := part_any n3 f t
  have st2 := n3.keeps p1 (by simp) (by simp)
  have em0 := merge_none H2
  obtain ⟨y, em1, H3, rfl, m1⟩ := merge_nil (b := H2.length) (rw := true) (st2.keeps (.app [] _ [.cells 0 true [.ptr (h.length + 1) 0 0, .nilp]]) (by simp) (by simp)) (by rw [hcells_ge (by omega), Nat.sub_self]; exact grd_t rfl _)
  have st3 := (st2.keeps (.app [] _ [.cells 0 true [.ptr (h.length + 1) 0 0, .nilp]]) (by simp) (by simp)).keeps m1 (by simp) (by simp)
  have em2 := merge_nilfirst (H := H3 ++ [.cells 0 true [.nilp, .ptr (h.length + 1) 0 0]]) (b := H3.length) (rw := true) (x := .ptr (h.length + 1) 0 0) (by rw [hcells_ge (by omega), Nat.sub_self]; exact grd_t rfl _)
  have st4 := st3.keeps (.app [] _ [.cells 0 true [.nilp, .ptr (h.length + 1) 0 0], .cells 0 true [.ptr (h.length + 1) 0 0, .ptr (h.length + 1) 0 0]]) (by simp) (by simp)
  obtain ⟨y, em3, H5, rfl, m3⟩ := merge_off (b := H3.length + 1) (rw := true) st4 st4 (by show a ≠ b; omega) (by rw [hcells_ge (by omega), Nat.add_sub_cancel_left]; exact grd_t rfl _)
  have h5 := D_pin (X := X) (f := 16) (b := true) rfl
  have eb : ∀ ok : Prop, ok = (a ≤ k0 ∧ k0 < b) → (∃ tx, D X (.fn 23 []) [.ptr (h.length + 1) 0 0, .int .i64 k0] H2 = some (.tup [.str tx, .int .i64 0], H2) ∧ ok) ∨ (D X (.fn 23 []) [.ptr (h.length + 1) 0 0, .int .i64 k0] H2 = some (.tup [.str ⟨#[]⟩, .int .i64 9], H2) ∧ ¬ ok) := by
    rintro ok rfl
    by_cases hk : a ≤ k0 ∧ k0 < b
    · exact .inl ⟨_, block_in st2 hk.1 hk.2, hk⟩
    · exact .inr ⟨block_out st2 hk, hk⟩
  have est : (emptySto a b).a = a ∧ (emptySto a b).b = b := ⟨rfl, rfl⟩
  rw [est.1, est.2] at esp
  simp only [est.1, est.2] at p2
  have e01 : 0 ≤ (0 : Int) ∧ (0 : Int) < ((2 : Nat) : Int) := by omega
  have e02 : 0 ≤ (1 : Int) ∧ (1 : Int) < ((2 : Nat) : Int) := by omega
  have emk : (¬ (a ≤ k0 ∧ k0 < b) ∧ D X (.fn 24 []) [.ptr (h.length + 1) 0 0, .int .i64 k0, .int .i64 k1] H2 = some (.tup [.int .i64 0, .int .i64 9], H2)) ∨
      ((a ≤ k0 ∧ k0 < b) ∧ (0 ≤ k1 ∧ k1 < 4) ∧ ∃ m, D X (.fn 24 []) [.ptr (h.length + 1) 0 0, .int .i64 k0, .int .i64 k1] H2 = some (.tup [.int .i64 m, .int .i64 0], H2)) ∨
      ((a ≤ k0 ∧ k0 < b) ∧ ¬ (0 ≤ k1 ∧ k1 < 4) ∧ D X (.fn 24 []) [.ptr (h.length + 1) 0 0, .int .i64 k0, .int .i64 k1] H2 = some (.tup [.int .i64 0, .int .i64 1], H2)) := by
    by_cases hk : a ≤ k0 ∧ k0 < b
    · by_cases hq : 0 ≤ k1 ∧ k1 < 4
      · exact .inr (.inl ⟨hk, hq, _, mark_in st2 hk.1 hk.2 hq⟩)
      · exact .inr (.inr ⟨hk, hq, mark_bad st2 hk.1 hk.2 hq⟩)
    · exact .inl ⟨hk, mark_out st2 hk k1⟩
  clear n1 n2 n3 p1 st2 m1 st3 st4 m3 est
  generalize h.length + 1 = ps at *
  have eb' := eb _ rfl
  clear eb
  have em3' := em3
  rcases emk with ⟨hk, emk⟩ | ⟨hk, hq, m, emk⟩ | ⟨hk, hq, emk⟩
  · rcases eb' with ⟨tx, eb, hok⟩ | ⟨eb, hok⟩
    · exact absurd hok hk
    · have hk' : k0 < a ∨ (a ≤ k0 ∧ ¬ k0 < b) := by omega
      clear hk hok
      rcases p2 with ⟨q1, rfl, rfl⟩ | ⟨q1, q2, rfl, rfl⟩ | ⟨q1, q2, q3, rfl, q, rfl⟩
      all_goals (
        (refine Ok.body body9 pin9 ?_; simp only [c9, Try.f9, Option.getD_some, nslot9, List.append_nil, List.map, List.replicate, List.length_cons, List.length_nil, Nat.reduceAdd, Nat.reduceSub, List.cons_append, List.nil_append])
        (repeat' (first | (simp -implicitDefEqProofs (maxSteps := 1000000) (disch := first | assumption | omega | (simp only [List.length_append, List.length_cons, List.length_nil, List.length_set]; omega)) only [*, reps_2, Nat.reduceLT, ty3, ty4, ty9, ty25, ty26, ty29, ty30, ty35, ty81, ty82, ty83, ty92, ty93, ty94, ty95, ty104, slot9, wrap_i64, grd_tr, and_true, true_and, Int.le_refl, evC_seq, evC_region, evC_plan, evC_block, evC_cond, evC_exit, evC_ret, evC_skip, evC_label, evC_loop, loopK_eq, exOps_nil, exOps_cons, wantedT, bnd_s, stepK_t, stepK_f, putK_eq, seqK_n, seqK_e, seqK_r, blockK_n, blockK_e, blockK_r, brK_t, brK_f, bnd_bnd, thenK_eq, ok_some, stopK_eq, beq_f, beq_t, Bool.not_not, cond_true, cond_false, resK_n, resK_r, exOp_move, exOp_assign, exOp_pick, exOp_alloc, exOp_box, exOp_build, exOp_buildSlice, exOp_load, exOp_store, exOp_nilCheck, exOp_binOp, exOp_unOp, exOp_convert, exOp_makeFunc, exOp_makeSlice, exOp_slice, exOp_fieldAddr, exOp_field, exOp_indexAddr, exOp_index, exOp_extract, exOp_builtin, exOp_call, callK_eq, exPure, opd, getT, constT, ofValue, cellsV, newVar, St.put, setT, posT, Option.bind_some, List.getD_cons_zero, List.getD_cons_succ, List.set_cons_zero, List.set_cons_succ, List.getElem?_cons_zero, List.getElem?_cons_succ, List.getElem?_nil, decide_true, decide_false, Nat.reduceEqDiff, fieldAddrV, fieldOff, load, store, lcells, rd, TI.kind, grd_t, Nat.reduceLT, Nat.reduceAdd, and_self, cnd_t, cnd_f, binOp, intOp, Bool.not_true, Bool.not_false, Bool.true_beq, Bool.false_beq, beq_self_eq_true, exPlan_nil, exPlan_cons, entryK_eq, leadK_t, leadK_f, lookK_nil, lookK_cons, leadsT, again, rdV, vsame, vsames, Bool.and_true, Bool.true_and, Op.operands, callops_v, callops_b, List.elem_cons, List.elem_nil, List.toList_toArray, makeSliceV, buildV, fillV, splice, List.zip, List.map_cons, List.map_nil, Nat.reduceBEq, List.all_cons, List.all_nil, List.length_cons, List.length_nil, List.take, List.drop, List.cons_append, List.nil_append, results, resV, isCell, wr, List.set, nilCheckV, Nat.reduceSub, Nat.reduceMul, Nat.mul_one, Nat.zero_add, Nat.add_zero, Nat.le_refl, List.append_nil, allV, builtinV, lenV, indexAddrV, veq_eq, veqM_int, veqM_str, veqM_bool, veqM_p1, veqM_p2, veqM_p3, veqM_s1, veqM_s2, veqM_s3, veqM_s4, veqM_s5, veqM_m1, veqM_m2, veqM_m3, veqM_f1, veqM_f2, veqM_f3, veqM_struct, veqM_arr, veqF_nil, veqF_cons, veqA_nil, veqA_cons, partK_eq, cnd_and, unOp, minmaxV, minmax, sliceV, bound, asInt, idx, idxLe, appendV, copyV, clearV, convV, putBlk, sliceCells, newBlk, buildSliceV, shift, Int.toNat_natCast, Option.isSome_none, Option.isNone_none, Option.isSome_some, Option.isNone_some, Bool.or_false, Bool.or_true, Bool.true_or, Bool.false_or, Bool.and_false, Bool.false_and, unrK_n, unrK_e, unrK_r, hcells_app, hcells_ge, hcells_c0, hcells_cs, heap_set_ge, heap_set_lt, Nat.add_sub_cancel_left, Nat.sub_self, List.append_assoc, hcells_set_ne, hcells_set_eq, evC_rf, rfK_eq, reduceCtorEq, Int.reduceLT, Int.reduceLE, Int.reduceAdd, Int.reduceSub, Int.reduceNeg, Int.reduceToNat, Int.reduceEq, nat_cast_0, nat_cast_1, List.length_append, List.length_set, Nat.reduceLeDiff, List.replicate_zero, List.flatten_nil, itT, itF, reps_0, reps_1, arr_empty, asgK_n, asgM_s, endRound_eq, endM_n, endM_r, endM_e, loopAt_set_ne, loopAt_set_eq, loopAt_app, List.set_set, or_true, true_or, or_false, false_or, loopAt_ge, loopAt_c0, loopAt_cs, endRF_eq, endFM_n, endFM_r, endFM_e]) | ((with_reducible (first | refine Ok.br ?_ ?_ | refine Ok.gd ?_ ?_ | refine Ok.ld ?_ ?_)) <;> (intro g; (try simp only [decide_eq_true_eq, decide_eq_false_iff_not, beq_f, beq_t, Bool.not_eq_true', Bool.not_eq_false', Bool.not_not, Bool.false_eq_true, Bool.true_eq_false] at g); (first | (exfalso; omega) | skip)))))
        all_goals exact hQ'.out _ rfl)
  · rcases eb' with ⟨tx, eb, hok⟩ | ⟨eb, hok⟩
    · clear hok
      obtain ⟨hk1, hk2⟩ := hk
      obtain ⟨hq1, hq2⟩ := hq
      rcases p2 with ⟨q1, rfl, rfl⟩ | ⟨q1, q2, rfl, rfl⟩ | ⟨q1, q2, q3, rfl, q, rfl⟩
      all_goals (
        (refine Ok.body body9 pin9 ?_; simp only [c9, Try.f9, Option.getD_some, nslot9, List.append_nil, List.map, List.replicate, List.length_cons, List.length_nil, Nat.reduceAdd, Nat.reduceSub, List.cons_append, List.nil_append])
        (repeat' (first | (simp -implicitDefEqProofs (maxSteps := 1000000) (disch := first | assumption | omega | (simp only [List.length_append, List.length_cons, List.length_nil, List.length_set]; omega)) only [*, reps_2, Nat.reduceLT, ty3, ty4, ty9, ty25, ty26, ty29, ty30, ty35, ty81, ty82, ty83, ty92, ty93, ty94, ty95, ty104, slot9, wrap_i64, grd_tr, and_true, true_and, Int.le_refl, evC_seq, evC_region, evC_plan, evC_block, evC_cond, evC_exit, evC_ret, evC_skip, evC_label, evC_loop, loopK_eq, exOps_nil, exOps_cons, wantedT, bnd_s, stepK_t, stepK_f, putK_eq, seqK_n, seqK_e, seqK_r, blockK_n, blockK_e, blockK_r, brK_t, brK_f, bnd_bnd, thenK_eq, ok_some, stopK_eq, beq_f, beq_t, Bool.not_not, cond_true, cond_false, resK_n, resK_r, exOp_move, exOp_assign, exOp_pick, exOp_alloc, exOp_box, exOp_build, exOp_buildSlice, exOp_load, exOp_store, exOp_nilCheck, exOp_binOp, exOp_unOp, exOp_convert, exOp_makeFunc, exOp_makeSlice, exOp_slice, exOp_fieldAddr, exOp_field, exOp_indexAddr, exOp_index, exOp_extract, exOp_builtin, exOp_call, callK_eq, exPure, opd, getT, constT, ofValue, cellsV, newVar, St.put, setT, posT, Option.bind_some, List.getD_cons_zero, List.getD_cons_succ, List.set_cons_zero, List.set_cons_succ, List.getElem?_cons_zero, List.getElem?_cons_succ, List.getElem?_nil, decide_true, decide_false, Nat.reduceEqDiff, fieldAddrV, fieldOff, load, store, lcells, rd, TI.kind, grd_t, Nat.reduceLT, Nat.reduceAdd, and_self, cnd_t, cnd_f, binOp, intOp, Bool.not_true, Bool.not_false, Bool.true_beq, Bool.false_beq, beq_self_eq_true, exPlan_nil, exPlan_cons, entryK_eq, leadK_t, leadK_f, lookK_nil, lookK_cons, leadsT, again, rdV, vsame, vsames, Bool.and_true, Bool.true_and, Op.operands, callops_v, callops_b, List.elem_cons, List.elem_nil, List.toList_toArray, makeSliceV, buildV, fillV, splice, List.zip, List.map_cons, List.map_nil, Nat.reduceBEq, List.all_cons, List.all_nil, List.length_cons, List.length_nil, List.take, List.drop, List.cons_append, List.nil_append, results, resV, isCell, wr, List.set, nilCheckV, Nat.reduceSub, Nat.reduceMul, Nat.mul_one, Nat.zero_add, Nat.add_zero, Nat.le_refl, List.append_nil, allV, builtinV, lenV, indexAddrV, veq_eq, veqM_int, veqM_str, veqM_bool, veqM_p1, veqM_p2, veqM_p3, veqM_s1, veqM_s2, veqM_s3, veqM_s4, veqM_s5, veqM_m1, veqM_m2, veqM_m3, veqM_f1, veqM_f2, veqM_f3, veqM_struct, veqM_arr, veqF_nil, veqF_cons, veqA_nil, veqA_cons, partK_eq, cnd_and, unOp, minmaxV, minmax, sliceV, bound, asInt, idx, idxLe, appendV, copyV, clearV, convV, putBlk, sliceCells, newBlk, buildSliceV, shift, Int.toNat_natCast, Option.isSome_none, Option.isNone_none, Option.isSome_some, Option.isNone_some, Bool.or_false, Bool.or_true, Bool.true_or, Bool.false_or, Bool.and_false, Bool.false_and, unrK_n, unrK_e, unrK_r, hcells_app, hcells_ge, hcells_c0, hcells_cs, heap_set_ge, heap_set_lt, Nat.add_sub_cancel_left, Nat.sub_self, List.append_assoc, hcells_set_ne, hcells_set_eq, evC_rf, rfK_eq, reduceCtorEq, Int.reduceLT, Int.reduceLE, Int.reduceAdd, Int.reduceSub, Int.reduceNeg, Int.reduceToNat, Int.reduceEq, nat_cast_0, nat_cast_1, List.length_append, List.length_set, Nat.reduceLeDiff, List.replicate_zero, List.flatten_nil, itT, itF, reps_0, reps_1, arr_empty, asgK_n, asgM_s, endRound_eq, endM_n, endM_r, endM_e, loopAt_set_ne, loopAt_set_eq, loopAt_app, List.set_set, or_true, true_or, or_false, false_or, loopAt_ge, loopAt_c0, loopAt_cs, endRF_eq, endFM_n, endFM_r, endFM_e]) | ((with_reducible (first | refine Ok.br ?_ ?_ | refine Ok.gd ?_ ?_ | refine Ok.ld ?_ ?_)) <;> (intro g; (try simp only [decide_eq_true_eq, decide_eq_false_iff_not, beq_f, beq_t, Bool.not_eq_true', Bool.not_eq_false', Bool.not_not, Bool.false_eq_true, Bool.true_eq_false] at g); (first | (exfalso; omega) | skip)))))
        all_goals exact hQ'.out _ rfl)
    · exact absurd hk hok
  · rcases eb' with ⟨tx, eb, hok⟩ | ⟨eb, hok⟩
    · clear hok
      obtain ⟨hk1, hk2⟩ := hk
      have hq' : k1 < 0 ∨ (0 ≤ k1 ∧ 4 ≤ k1) := by omega
      clear hq
      rcases p2 with ⟨q1, rfl, rfl⟩ | ⟨q1, q2, rfl, rfl⟩ | ⟨q1, q2, q3, rfl, q, rfl⟩
      all_goals (
        (refine Ok.body body9 pin9 ?_; simp only [c9, Try.f9, Option.getD_some, nslot9, List.append_nil, List.map, List.replicate, List.length_cons, List.length_nil, Nat.reduceAdd, Nat.reduceSub, List.cons_append, List.nil_append])
        (repeat' (first | (simp -implicitDefEqProofs (maxSteps := 1000000) (disch := first | assumption | omega | (simp only [List.length_append, List.length_cons, List.length_nil, List.length_set]; omega)) only [*, reps_2, Nat.reduceLT, ty3, ty4, ty9, ty25, ty26, ty29, ty30, ty35, ty81, ty82, ty83, ty92, ty93, ty94, ty95, ty104, slot9, wrap_i64, grd_tr, and_true, true_and, Int.le_refl, evC_seq, evC_region, evC_plan, evC_block, evC_cond, evC_exit, evC_ret, evC_skip, evC_label, evC_loop, loopK_eq, exOps_nil, exOps_cons, wantedT, bnd_s, stepK_t, stepK_f, putK_eq, seqK_n, seqK_e, seqK_r, blockK_n, blockK_e, blockK_r, brK_t, brK_f, bnd_bnd, thenK_eq, ok_some, stopK_eq, beq_f, beq_t, Bool.not_not, cond_true, cond_false, resK_n, resK_r, exOp_move, exOp_assign, exOp_pick, exOp_alloc, exOp_box, exOp_build, exOp_buildSlice, exOp_load, exOp_store, exOp_nilCheck, exOp_binOp, exOp_unOp, exOp_convert, exOp_makeFunc, exOp_makeSlice, exOp_slice, exOp_fieldAddr, exOp_field, exOp_indexAddr, exOp_index, exOp_extract, exOp_builtin, exOp_call, callK_eq, exPure, opd, getT, constT, ofValue, cellsV, newVar, St.put, setT, posT, Option.bind_some, List.getD_cons_zero, List.getD_cons_succ, List.set_cons_zero, List.set_cons_succ, List.getElem?_cons_zero, List.getElem?_cons_succ, List.getElem?_nil, decide_true, decide_false, Nat.reduceEqDiff, fieldAddrV, fieldOff, load, store, lcells, rd, TI.kind, grd_t, Nat.reduceLT, Nat.reduceAdd, and_self, cnd_t, cnd_f, binOp, intOp, Bool.not_true, Bool.not_false, Bool.true_beq, Bool.false_beq, beq_self_eq_true, exPlan_nil, exPlan_cons, entryK_eq, leadK_t, leadK_f, lookK_nil, lookK_cons, leadsT, again, rdV, vsame, vsames, Bool.and_true, Bool.true_and, Op.operands, callops_v, callops_b, List.elem_cons, List.elem_nil, List.toList_toArray, makeSliceV, buildV, fillV, splice, List.zip, List.map_cons, List.map_nil, Nat.reduceBEq, List.all_cons, List.all_nil, List.length_cons, List.length_nil, List.take, List.drop, List.cons_append, List.nil_append, results, resV, isCell, wr, List.set, nilCheckV, Nat.reduceSub, Nat.reduceMul, Nat.mul_one, Nat.zero_add, Nat.add_zero, Nat.le_refl, List.append_nil, allV, builtinV, lenV, indexAddrV, veq_eq, veqM_int, veqM_str, veqM_bool, veqM_p1, veqM_p2, veqM_p3, veqM_s1, veqM_s2, veqM_s3, veqM_s4, veqM_s5, veqM_m1, veqM_m2, veqM_m3, veqM_f1, veqM_f2, veqM_f3, veqM_struct, veqM_arr, veqF_nil, veqF_cons, veqA_nil, veqA_cons, partK_eq, cnd_and, unOp, minmaxV, minmax, sliceV, bound, asInt, idx, idxLe, appendV, copyV, clearV, convV, putBlk, sliceCells, newBlk, buildSliceV, shift, Int.toNat_natCast, Option.isSome_none, Option.isNone_none, Option.isSome_some, Option.isNone_some, Bool.or_false, Bool.or_true, Bool.true_or, Bool.false_or, Bool.and_false, Bool.false_and, unrK_n, unrK_e, unrK_r, hcells_app, hcells_ge, hcells_c0, hcells_cs, heap_set_ge, heap_set_lt, Nat.add_sub_cancel_left, Nat.sub_self, List.append_assoc, hcells_set_ne, hcells_set_eq, evC_rf, rfK_eq, reduceCtorEq, Int.reduceLT, Int.reduceLE, Int.reduceAdd, Int.reduceSub, Int.reduceNeg, Int.reduceToNat, Int.reduceEq, nat_cast_0, nat_cast_1, List.length_append, List.length_set, Nat.reduceLeDiff, List.replicate_zero, List.flatten_nil, itT, itF, reps_0, reps_1, arr_empty, asgK_n, asgM_s, endRound_eq, endM_n, endM_r, endM_e, loopAt_set_ne, loopAt_set_eq, loopAt_app, List.set_set, or_true, true_or, or_false, false_or, loopAt_ge, loopAt_c0, loopAt_cs, endRF_eq, endFM_n, endFM_r, endFM_e]) | ((with_reducible (first | refine Ok.br ?_ ?_ | refine Ok.gd ?_ ?_ | refine Ok.ld ?_ ?_)) <;> (intro g; (try simp only [decide_eq_true_eq, decide_eq_false_iff_not, beq_f, beq_t, Bool.not_eq_true', Bool.not_eq_false', Bool.not_not, Bool.false_eq_true, Bool.true_eq_false] at g); (first | (exfalso; omega) | skip)))))
        all_goals exact hQ'.out _ rfl)
    · exact absurd hk hok
end Go.Ev
