/-
StoreParts.
-/
import Derived.Test.YtennoblijpfacaaParts
set_option linter.unusedSimpArgs false
set_option linter.unusedVariables false
set_option maxRecDepth 100000
namespace Go.Ev
open Go.Proofs

theorem refThaw {H : Heap} {p T M : Nat} {mb : Nat → Nat} {n : Nat} {s : Sto} (hr : RefAt H p T M mb n s) {gT gM : Nat}
    (g1 : hcells H p 0 = some (true, [.int .i64 s.a, .int .i64 s.b, .bool s.fz, .sl (.at T gT 0) n n 1, .sl (.at M gM 0) n n 1])) :
    RefAt (H.set p (.cells 0 true [.int .i64 s.a, .int .i64 s.b, .bool false, .sl (.at T gT 0) n n 1, .sl (.at M gM 0) n n 1])) p T M mb n { s with fz := false } := by
  obtain ⟨⟨gT', gM', ts', ms', f1, f2, f3, f4, f5, f6, f7⟩, f8, f9, f10, f11, f12, f13⟩ := hr
  rw [g1] at f1
  simp only [Option.some.injEq, Prod.mk.injEq, List.cons.injEq, V.sl.injEq, SA.at.injEq, true_and, and_true] at f1
  obtain ⟨rfl, rfl⟩ := f1
  refine ⟨⟨gT, gM, ts', ms', hcells_set_eq (hcells_lt g1), ?_, f3, f4, ?_, f6, f7⟩, fun i hi => ?_, f9, f10, f11, f12, f13⟩
  · rw [hcells_set_ne (Ne.symm f9)]; exact f2
  · rw [hcells_set_ne (Ne.symm f10)]; exact f5
  · obtain ⟨q, q1, q2⟩ := f8 i hi
    exact ⟨q, by rw [hcells_set_ne (f12 i hi).1]; exact q1, q2⟩

theorem Sto.part_all (s : Sto) : s.part s.a s.b = { s with fz := false } := by
  refine Sto.ext' rfl rfl rfl (fun j => ?_) (fun j k => ?_)
  · show s.txt (j + (s.a - s.a).toNat) = s.txt j
    rw [Int.sub_self]; rfl
  · show s.mrk (j + (s.a - s.a).toNat) k = s.mrk j k
    rw [Int.sub_self]; rfl

theorem Sto.part_join (s : Sto) {k : Int} (h1 : s.a ≤ k) : (s.part s.a k).join (s.part k s.b) = { s with fz := false } := by
  have e0 : (s.a - s.a).toNat = 0 := by omega
  have en : (s.part s.a k).n = (k - s.a).toNat := rfl
  refine Sto.ext' rfl rfl rfl (fun j => ?_) (fun j q => ?_)
  · show (if j < (s.part s.a k).n then s.txt (j + (s.a - s.a).toNat) else s.txt (j - (s.part s.a k).n + (k - s.a).toNat)) = s.txt j
    rw [en, e0]
    split
    · rfl
    · congr 1; omega
  · show (if j < (s.part s.a k).n then s.mrk (j + (s.a - s.a).toNat) q else s.mrk (j - (s.part s.a k).n + (k - s.a).toNat) q) = s.mrk j q
    rw [en, e0]
    split
    · rfl
    · congr 1; omega

theorem reps_2 (z : List V) : reps 2 z = z ++ z := by simp [reps, List.replicate_succ]

set_option maxHeartbeats 4000000 in
theorem storeParts_at (x1 x2 m : Int) (hm : 0 ≤ m) {h : Heap} {v : V} {L : List Cm} (hL : CmdsAt h v L) :
    Ev.Ok (D X (.fn 10 []) [.agg [.int .i64 x1, .int .i64 x2], v, .int .u64 m] h) fun r => r.1 = .bool true := by
  refine Ok.aim fun Q hQ => ?_
  have hQ' := Hid.mk hQ
  clear hQ
  obtain ⟨a, b, es, ha, hab, hb, _⟩ := small_at x1 x2 h
  obtain ⟨y, ep, H, ps, cb, pr, T, M, mb, s, rfl, hB, hsa, hsb⟩ := play_at ha hab hb hL 30
  have esp := spanOf_at hB.st
  have hok : s.Ok := by obtain ⟨_, _, _, _, _, _, _, h⟩ := hB.st; exact h.toOk
  have h5 := D_pin (X := X) (f := 16) (b := true) rfl
  obtain ⟨r, er, hr1, hr2⟩ := tmod_in hm (b := s.b - s.a) (by omega)
  have eu : IntKind.u64.wrap (s.b - s.a) = s.b - s.a := u64_small (by omega)
  have k0 := hok.h0
  have k1 := hok.h1
  have k2 := hok.h2
  have hlt := hB.rf.lt
  have hpr : pr < H.length := hlt pr (mem_refBlocks.2 (.inl rfl))
  obtain ⟨y, e1, H1, rfl, q1, st1⟩ := part_in hB.st (f := s.a + r) (t := s.b) (by omega) (by omega) (by omega)
  obtain ⟨sa, cap, z, rfl, _⟩ := hL
  have hl1 := q1.1
  by_cases hr0 : r = 0
  · subst hr0
    have e1' := e1
    rw [Int.add_zero] at e1' st1
    rw [Sto.part_all] at st1
    have hrf := hB.rf.keeps q1 (by simp)
    obtain ⟨⟨gT, gM, _, _, g1, _⟩, _⟩ := id hrf
    have hth := refThaw hrf g1
    have hal := alike_at (st1.keeps (F := [pr]) (.set (.refl _ _) (.inl (by simp)) _) (by simp; omega) (by simp; omega)) hth
    have hpr1 : pr < H1.length := by omega
    clear hB hsa hsb st1 hrf hth q1 hlt hok
    (refine Ok.body body10 pin10 ?_; simp only [c10, Try.f10, Option.getD_some, nslot10, List.append_nil, List.map, List.replicate, List.length_cons, List.length_nil, Nat.reduceAdd, Nat.reduceSub, List.cons_append, List.nil_append])
    (repeat' (first | (simp -implicitDefEqProofs (maxSteps := 1000000) (disch := first | assumption | omega | (simp only [List.length_append, List.length_cons, List.length_nil, List.length_set]; omega)) only [*, ty3, ty4, ty9, ty22, ty23, ty24, ty25, ty26, ty29, ty30, ty37, ty48, ty49, ty60, ty61, ty62, ty81, ty82, ty83, ty92, ty93, ty94, ty95, ty102, ty104, slot10, plan10_7, wrap_i64, grd_tr, and_true, true_and, Int.le_refl, evC_seq, evC_region, evC_plan, evC_block, evC_cond, evC_exit, evC_ret, evC_skip, evC_label, evC_loop, loopK_eq, exOps_nil, exOps_cons, wantedT, bnd_s, stepK_t, stepK_f, putK_eq, seqK_n, seqK_e, seqK_r, blockK_n, blockK_e, blockK_r, brK_t, brK_f, bnd_bnd, thenK_eq, ok_some, stopK_eq, beq_f, beq_t, Bool.not_not, cond_true, cond_false, resK_n, resK_r, exOp_move, exOp_assign, exOp_pick, exOp_alloc, exOp_box, exOp_build, exOp_buildSlice, exOp_load, exOp_store, exOp_nilCheck, exOp_binOp, exOp_unOp, exOp_convert, exOp_makeFunc, exOp_makeSlice, exOp_slice, exOp_fieldAddr, exOp_field, exOp_indexAddr, exOp_index, exOp_extract, exOp_builtin, exOp_call, callK_eq, exPure, opd, getT, constT, ofValue, cellsV, newVar, St.put, setT, posT, Option.bind_some, List.getD_cons_zero, List.getD_cons_succ, List.set_cons_zero, List.set_cons_succ, List.getElem?_cons_zero, List.getElem?_cons_succ, List.getElem?_nil, decide_true, decide_false, Nat.reduceEqDiff, fieldAddrV, fieldOff, load, store, lcells, rd, TI.kind, grd_t, Nat.reduceLT, Nat.reduceAdd, and_self, cnd_t, cnd_f, binOp, intOp, Bool.not_true, Bool.not_false, Bool.true_beq, Bool.false_beq, beq_self_eq_true, exPlan_nil, exPlan_cons, entryK_eq, leadK_t, leadK_f, lookK_nil, lookK_cons, leadsT, again, rdV, vsame, vsames, Bool.and_true, Bool.true_and, Op.operands, callops_v, callops_b, List.elem_cons, List.elem_nil, List.toList_toArray, makeSliceV, buildV, fillV, splice, List.zip, List.map_cons, List.map_nil, Nat.reduceBEq, List.all_cons, List.all_nil, List.length_cons, List.length_nil, List.take, List.drop, List.cons_append, List.nil_append, results, resV, isCell, wr, List.set, nilCheckV, Nat.reduceSub, Nat.reduceMul, Nat.mul_one, Nat.zero_add, Nat.add_zero, Nat.le_refl, List.append_nil, allV, builtinV, lenV, indexAddrV, veq_eq, veqM_int, veqM_str, veqM_bool, veqM_p1, veqM_p2, veqM_p3, veqM_s1, veqM_s2, veqM_s3, veqM_s4, veqM_s5, veqM_m1, veqM_m2, veqM_m3, veqM_f1, veqM_f2, veqM_f3, veqM_struct, veqM_arr, veqF_nil, veqF_cons, veqA_nil, veqA_cons, partK_eq, cnd_and, unOp, minmaxV, minmax, sliceV, bound, asInt, idx, idxLe, appendV, copyV, clearV, convV, putBlk, sliceCells, newBlk, buildSliceV, shift, Int.toNat_natCast, Option.isSome_none, Option.isNone_none, Option.isSome_some, Option.isNone_some, Bool.or_false, Bool.or_true, Bool.true_or, Bool.false_or, Bool.and_false, Bool.false_and, unrK_n, unrK_e, unrK_r, hcells_app, hcells_ge, hcells_c0, hcells_cs, heap_set_ge, heap_set_lt, Nat.add_sub_cancel_left, Nat.sub_self, List.append_assoc, hcells_set_ne, hcells_set_eq, evC_rf, rfK_eq, reduceCtorEq, Int.reduceLT, Int.reduceLE, Int.reduceAdd, Int.reduceSub, Int.reduceNeg, Int.reduceToNat, Int.reduceEq, nat_cast_0, nat_cast_1, List.length_append, List.length_set, Nat.reduceLeDiff, List.replicate_zero, List.flatten_nil, itT, itF, reps_0, reps_1, arr_empty, asgK_n, asgM_s, endRound_eq, endM_n, endM_r, endM_e, loopAt_set_ne, loopAt_set_eq, loopAt_app, List.set_set, or_true, true_or, or_false, false_or, loopAt_ge, loopAt_c0, loopAt_cs, endRF_eq, endFM_n, endFM_r, endFM_e]) | ((with_reducible (first | refine Ok.br ?_ ?_ | refine Ok.gd ?_ ?_ | refine Ok.ld ?_ ?_)) <;> (intro g; (try simp only [decide_eq_true_eq, decide_eq_false_iff_not, beq_f, beq_t, Bool.not_eq_true', Bool.not_eq_false', Bool.not_not, Bool.false_eq_true, Bool.true_eq_false] at g); (first | (exfalso; omega) | skip)))))
    exact hQ'.out _ rfl
  · have hB1 := hB.st.keeps q1 (by simp) (by simp)
    obtain ⟨y, e2, H2, rfl, q2, st2⟩ := part_in hB1 (f := s.a) (t := s.a + r) (by omega) (by omega) (by omega)
    have st12 := st1.keeps q2 (by simp) (by simp)
    obtain ⟨y, e3, H3, rfl, q3, st3⟩ := merge_in (b := H2.length) (rw := true) (st2.keeps (.app [] _ [.cells 0 true [.ptr (H1.length + 2) 0 0, .ptr (H.length + 2) 0 0]]) (by simp) (by simp)) (st12.keeps (.app [] _ [.cells 0 true [.ptr (H1.length + 2) 0 0, .ptr (H.length + 2) 0 0]]) (by simp) (by simp)) rfl (by rw [hcells_ge (by omega), Nat.sub_self]; exact grd_t rfl _)
    have q23 : Keeps [] H2 H3 := (Keeps.app [] _ _).trans q3
    obtain ⟨y, e4, H4, rfl, q4⟩ := merge_off (b := H3.length) (rw := true) ((st12.keeps q23 (by simp) (by simp)).keeps (.app [] _ [.cells 0 true [.ptr (H.length + 2) 0 0, .ptr (H1.length + 2) 0 0]]) (by simp) (by simp))
      ((st2.keeps q23 (by simp) (by simp)).keeps (.app [] _ [.cells 0 true [.ptr (H.length + 2) 0 0, .ptr (H1.length + 2) 0 0]]) (by simp) (by simp)) (by show s.a ≠ s.b; omega) (by rw [hcells_ge (by omega), Nat.sub_self]; exact grd_t rfl _)
    have q34 : Keeps [] H3 H4 := (Keeps.app [] _ _).trans q4
    rw [Sto.part_join s (by omega)] at st3
    have st4 := st3.keeps q34 (by simp) (by simp)
    have hrf := (((hB.rf.keeps q1 (by simp)).keeps q2 (by simp)).keeps q23 (by simp)).keeps q34 (by simp)
    obtain ⟨⟨gT, gM, _, _, g1, _⟩, _⟩ := id hrf
    have hth := refThaw hrf g1
    have hl2 := q2.1
    have hl3 := q23.1
    have hl4 := q34.1
    simp only [List.length_append, List.length_cons, List.length_nil, Nat.zero_add] at e3 st4
    have hal := alike_at (st4.keeps (F := [pr]) (.set (.refl _ _) (.inl (by simp)) _) (by simp; omega) (by simp; omega)) hth
    have hpr4 : pr < H4.length := by omega
    clear hB hsa hsb st1 st2 st12 st3 st4 hrf hth q1 q2 q3 q23 q34 q4 hlt hok hB1
    (refine Ok.body body10 pin10 ?_; simp only [c10, Try.f10, Option.getD_some, nslot10, List.append_nil, List.map, List.replicate, List.length_cons, List.length_nil, Nat.reduceAdd, Nat.reduceSub, List.cons_append, List.nil_append])
    (repeat' (first | (simp -implicitDefEqProofs (maxSteps := 1000000) (disch := first | assumption | omega | (simp only [List.length_append, List.length_cons, List.length_nil, List.length_set]; omega)) only [*, reps_2, ty3, ty4, ty9, ty22, ty23, ty24, ty25, ty26, ty29, ty30, ty37, ty48, ty49, ty60, ty61, ty62, ty81, ty82, ty83, ty92, ty93, ty94, ty95, ty102, ty104, slot10, plan10_7, wrap_i64, grd_tr, and_true, true_and, Int.le_refl, evC_seq, evC_region, evC_plan, evC_block, evC_cond, evC_exit, evC_ret, evC_skip, evC_label, evC_loop, loopK_eq, exOps_nil, exOps_cons, wantedT, bnd_s, stepK_t, stepK_f, putK_eq, seqK_n, seqK_e, seqK_r, blockK_n, blockK_e, blockK_r, brK_t, brK_f, bnd_bnd, thenK_eq, ok_some, stopK_eq, beq_f, beq_t, Bool.not_not, cond_true, cond_false, resK_n, resK_r, exOp_move, exOp_assign, exOp_pick, exOp_alloc, exOp_box, exOp_build, exOp_buildSlice, exOp_load, exOp_store, exOp_nilCheck, exOp_binOp, exOp_unOp, exOp_convert, exOp_makeFunc, exOp_makeSlice, exOp_slice, exOp_fieldAddr, exOp_field, exOp_indexAddr, exOp_index, exOp_extract, exOp_builtin, exOp_call, callK_eq, exPure, opd, getT, constT, ofValue, cellsV, newVar, St.put, setT, posT, Option.bind_some, List.getD_cons_zero, List.getD_cons_succ, List.set_cons_zero, List.set_cons_succ, List.getElem?_cons_zero, List.getElem?_cons_succ, List.getElem?_nil, decide_true, decide_false, Nat.reduceEqDiff, fieldAddrV, fieldOff, load, store, lcells, rd, TI.kind, grd_t, Nat.reduceLT, Nat.reduceAdd, and_self, cnd_t, cnd_f, binOp, intOp, Bool.not_true, Bool.not_false, Bool.true_beq, Bool.false_beq, beq_self_eq_true, exPlan_nil, exPlan_cons, entryK_eq, leadK_t, leadK_f, lookK_nil, lookK_cons, leadsT, again, rdV, vsame, vsames, Bool.and_true, Bool.true_and, Op.operands, callops_v, callops_b, List.elem_cons, List.elem_nil, List.toList_toArray, makeSliceV, buildV, fillV, splice, List.zip, List.map_cons, List.map_nil, Nat.reduceBEq, List.all_cons, List.all_nil, List.length_cons, List.length_nil, List.take, List.drop, List.cons_append, List.nil_append, results, resV, isCell, wr, List.set, nilCheckV, Nat.reduceSub, Nat.reduceMul, Nat.mul_one, Nat.zero_add, Nat.add_zero, Nat.le_refl, List.append_nil, allV, builtinV, lenV, indexAddrV, veq_eq, veqM_int, veqM_str, veqM_bool, veqM_p1, veqM_p2, veqM_p3, veqM_s1, veqM_s2, veqM_s3, veqM_s4, veqM_s5, veqM_m1, veqM_m2, veqM_m3, veqM_f1, veqM_f2, veqM_f3, veqM_struct, veqM_arr, veqF_nil, veqF_cons, veqA_nil, veqA_cons, partK_eq, cnd_and, unOp, minmaxV, minmax, sliceV, bound, asInt, idx, idxLe, appendV, copyV, clearV, convV, putBlk, sliceCells, newBlk, buildSliceV, shift, Int.toNat_natCast, Option.isSome_none, Option.isNone_none, Option.isSome_some, Option.isNone_some, Bool.or_false, Bool.or_true, Bool.true_or, Bool.false_or, Bool.and_false, Bool.false_and, unrK_n, unrK_e, unrK_r, hcells_app, hcells_ge, hcells_c0, hcells_cs, heap_set_ge, heap_set_lt, Nat.add_sub_cancel_left, Nat.sub_self, List.append_assoc, hcells_set_ne, hcells_set_eq, evC_rf, rfK_eq, reduceCtorEq, Int.reduceLT, Int.reduceLE, Int.reduceAdd, Int.reduceSub, Int.reduceNeg, Int.reduceToNat, Int.reduceEq, nat_cast_0, nat_cast_1, List.length_append, List.length_set, Nat.reduceLeDiff, List.replicate_zero, List.flatten_nil, itT, itF, reps_0, reps_1, arr_empty, asgK_n, asgM_s, endRound_eq, endM_n, endM_r, endM_e, loopAt_set_ne, loopAt_set_eq, loopAt_app, List.set_set, or_true, true_or, or_false, false_or, loopAt_ge, loopAt_c0, loopAt_cs, endRF_eq, endFM_n, endFM_r, endFM_e]) | ((with_reducible (first | refine Ok.br ?_ ?_ | refine Ok.gd ?_ ?_ | refine Ok.ld ?_ ?_)) <;> (intro g; (try simp only [decide_eq_true_eq, decide_eq_false_iff_not, beq_f, beq_t, Bool.not_eq_true', Bool.not_eq_false', Bool.not_not, Bool.false_eq_true, Bool.true_eq_false] at g); (first | (exfalso; omega) | skip)))))
    exact hQ'.out _ rfl
end Go.Ev
