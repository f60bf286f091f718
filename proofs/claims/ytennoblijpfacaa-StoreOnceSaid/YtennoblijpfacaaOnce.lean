/-
StoreOnce.
-/
import Derived.Test.YtennoblijpfacaaCloneSame
set_option linter.unusedSimpArgs false
set_option linter.unusedVariables false
set_option maxRecDepth 100000
namespace Go.Ev
open Go.Proofs

theorem Sto.to_again (s : Sto) (o c q f t : Int) (l : List ByteArray) : (s.to o c q f t l).to o c q f t l = s.to o c q f t l := by
  have key : ∀ j : Nat, ¬ ((o = 2 ∨ o = 3) ∧ f ≤ s.a + j ∧ s.a + j < t ∧ (s.to o c q f t l).mrk j c.toNat < q) := by
    intro j ⟨h1, h2, h3, h4⟩
    have e : (s.to o c q f t l).mrk j c.toNat = if (o = 2 ∨ o = 3) ∧ f ≤ s.a + j ∧ s.a + j < t ∧ s.mrk j c.toNat < q ∧ c.toNat = c.toNat then q else s.mrk j c.toNat := rfl
    by_cases hc : s.mrk j c.toNat < q
    · rw [if_pos ⟨h1, h2, h3, hc, rfl⟩] at e; omega
    · rw [if_neg (fun h => hc h.2.2.2.1)] at e; omega
  refine Sto.ext' rfl rfl rfl (fun j => ?_) (fun j k => ?_)
  · exact if_neg (key j)
  · exact if_neg (fun h => key j ⟨h.1, h.2.1, h.2.2.1, h.2.2.2.1⟩)

theorem Sto.data_to (s : Sto) (o c q f t : Int) (l : List ByteArray) : (s.to o c q f t l).data o f t = s.data o f t := by
  by_cases ho : o = 1
  · have : s.to o c q f t l = s := by rw [Sto.to_look s (by omega) c q f t f l, Sto.to_start]
    rw [this]
  · unfold Sto.data; rw [if_neg ho, if_neg ho]

theorem apply_again (s : Sto) (o c q f t : Int) (l : List ByteArray) : ∃ s1 k d e k' d', s.apply o c q f t l = (s1, k, d, e) ∧ s1.apply o c q f t l = (s1, k', d', e) ∧
    (e ≠ 0 → k = false ∧ k' = false) ∧ (o = 5 ∧ e = 0 → k' = false ∧ s1.fz = true) ∧ (¬ (o = 5 ∧ e = 0) → k' = k ∧ d' = d) := by
  by_cases h1 : mayP o c q f t l
  · by_cases h2 : (1 ≤ o ∧ o ≤ 4) ∧ (f < s.a ∨ s.b < t)
    · have e : s.apply o c q f t l = (s, false, [], 9) := by unfold Sto.apply; rw [if_neg (by simpa using h1), if_pos h2]
      exact ⟨_, _, _, _, _, _, e, e, fun _ => ⟨rfl, rfl⟩, fun h => by omega, fun _ => ⟨rfl, rfl⟩⟩
    · by_cases h3 : s.fz = true ∨ o = 0
      · have e : s.apply o c q f t l = (s, false, [], 0) := by unfold Sto.apply; rw [if_neg (by simpa using h1), if_neg h2, if_pos h3]
        refine ⟨_, _, _, _, _, _, e, e, fun _ => ⟨rfl, rfl⟩, fun h => ⟨rfl, ?_⟩, fun _ => ⟨rfl, rfl⟩⟩
        rcases h3 with h3 | h3
        · exact h3
        · omega
      · by_cases h4 : o = 5
        · have e : s.apply o c q f t l = ({ s with fz := true }, true, [], 0) := by unfold Sto.apply; rw [if_neg (by simpa using h1), if_neg h2, if_neg h3, if_pos h4]
          have e' : ({ s with fz := true } : Sto).apply o c q f t l = ({ s with fz := true }, false, [], 0) := by unfold Sto.apply; rw [if_neg (by simpa using h1), if_neg h2, if_pos (.inl rfl)]
          exact ⟨_, _, _, _, _, _, e, e', fun h => absurd rfl h, fun _ => ⟨rfl, rfl⟩, fun h => absurd ⟨h4, rfl⟩ h⟩
        · have e : s.apply o c q f t l = (s.to o c q f t l, true, s.data o f t, 0) := by unfold Sto.apply; rw [if_neg (by simpa using h1), if_neg h2, if_neg h3, if_neg h4]
          have e' : (s.to o c q f t l).apply o c q f t l = (s.to o c q f t l, true, s.data o f t, 0) := by
            unfold Sto.apply
            rw [if_neg (by simpa using h1), if_neg (show ¬ ((1 ≤ o ∧ o ≤ 4) ∧ (f < (s.to o c q f t l).a ∨ (s.to o c q f t l).b < t)) from h2), if_neg (show ¬ ((s.to o c q f t l).fz = true ∨ o = 0) from h3), if_neg h4, Sto.to_again, Sto.data_to]
          exact ⟨_, _, _, _, _, _, e, e', fun h => absurd rfl h, fun h => absurd h.1 h4, fun _ => ⟨rfl, rfl⟩⟩
  · have e : s.apply o c q f t l = (s, false, [], 1) := by unfold Sto.apply; rw [if_pos h1]
    exact ⟨_, _, _, _, _, _, e, e, fun _ => ⟨rfl, rfl⟩, fun h => by omega, fun _ => ⟨rfl, rfl⟩⟩

set_option maxHeartbeats 4000000 in
theorem storeOnce_at (x1 x2 : Int) {h : Heap} {v : V} {L : List Cm} {o c q f t : Int} {w : V} {l : List ByteArray} (hL : CmdsAt h v L) (hs : StrsAt h w l) :
    Ev.Ok (D X (.fn 7 []) [.agg [.int .i64 x1, .int .i64 x2], v, .agg [.int .i64 o, .int .i64 c, .int .i64 q, .int .i64 f, .int .i64 t, w]] h) fun r => r.1 = .bool true := by
  refine Ok.aim fun Q hQ => ?_
  have hQ' := Hid.mk hQ
  clear hQ
  have hlight := light_at (o := o) (c := c) (q := q) (f := f) (t := t) hs
  generalize lightB 0 0 l = lb at hlight
  obtain ⟨a, b, es, ha, hab, hb, _⟩ := small_at x1 x2 h
  obtain ⟨y, ep, H, ps, cb, pr, T, M, mb, s, rfl, hB, hsa, hsb⟩ := play_at ha hab hb hL 30
  have hs0 := hs.keeps hB.kp (fun _ => away_nil _)
  have hlen := apply_len s o c q f t l
  obtain ⟨s1, k, d, e, k', d', e1, e2, e3, e4, e5⟩ := apply_again s o c q f t l
  have hnew := hB.new
  obtain ⟨y, ea, H1, dv1, rfl, w1, w2, w3⟩ := apply_at (o := o) (c := c) (q := q) (f := f) (t := t) hB.st hs0 (away_of (H := H) hs (by intro j hj; simp at hj; omega))
  rw [e1] at ea w1 w3 hlen
  have hk1 : Keeps [] h H1 := hB.kp.wide w2 (by intro j hj hlt; simp at hj; omega)
  obtain ⟨y, ec, H2, rfl, c1, c2⟩ := clone_at w1
  have hk2 := hk1.trans c1
  have hs2 := hs.keeps hk2 (fun _ => away_nil _)
  obtain ⟨y, eb, H3, dv2, rfl, z1, z2, z3⟩ := apply_at (o := o) (c := c) (q := q) (f := f) (t := t) (w1.keeps c1 (by simp) (by simp)) hs2 (away_of (H := H2) hs (by intro j hj; simp at hj; omega))
  rw [e2] at eb z1 z3
  have hpl := StoreAt.lt w1
  have hpl0 := StoreAt.lt hB.st
  have d1 := (w3.keeps c1 (by simp)).keeps z2 (by intro j hj; simp at hj; omega)
  have d1' := d1.strs (by dsimp only at hlen ⊢; omega)
  have c3 := c2.keeps z2 (by simp; omega) (by simp; omega)
  have hsame := same_at z1 c3
  have hfz := frozen_at z1
  have h5 := D_pin (X := X) (f := 16) (b := true) rfl
  simp only [cmdV] at ea eb
  have hsrp : ¬ (o = 5 ∧ e = 0) → D X (.fn 32 []) [.agg [.bool k, dv1], .agg [.bool k', dv2]] H3 = some (.bool true, H3) := by
    intro hne
    obtain ⟨rfl, rfl⟩ := e5 hne
    exact sameReply_at d1' (z3.strs (by dsimp only at hlen ⊢; omega))
  have hv1 : ∃ a1 n1 c1 z1, dv1 = .sl a1 n1 c1 z1 := by obtain ⟨_, _, _, h, _⟩ := d1'; exact ⟨_, _, _, _, h⟩
  have hv2 : ∃ a1 n1 c1 z1, dv2 = .sl a1 n1 c1 z1 := by
    rcases z3 with ⟨_, h⟩ | ⟨_, _, h, _⟩ <;> exact ⟨_, _, _, _, h⟩
  obtain ⟨a1, n1, cc1, zz1, rfl⟩ := hv1
  obtain ⟨a2, n2, cc2, zz2, rfl⟩ := hv2
  obtain ⟨sa, cap, z, rfl, _⟩ := hL
  obtain ⟨sa2, cap2, z', rfl, _⟩ := hs
  clear hB hsa hsb hs0 hlen e1 e2 e5 hnew w1 w2 w3 hk1 c1 c2 hk2 hs2 z1 z2 z3 hpl hpl0 d1 d1' c3
  by_cases he : e = 0
  · subst he
    clear e3
    by_cases ho : o = 5
    · obtain ⟨rfl, h1⟩ := e4 ⟨ho, rfl⟩
      subst ho
      rw [h1] at hfz
      clear hsrp e4 h1
      (refine Ok.body body7 pin7 ?_; simp only [c7, Try.f7, Option.getD_some, nslot7, List.append_nil, List.map, List.replicate, List.length_cons, List.length_nil, Nat.reduceAdd, Nat.reduceSub, List.cons_append, List.nil_append])
      (repeat' (first | (simp -implicitDefEqProofs (maxSteps := 1000000) (disch := first | assumption | omega | (simp only [List.length_append, List.length_cons, List.length_nil, List.length_set]; omega)) only [*, lenV, ty3, ty4, ty9, ty22, ty23, ty24, ty25, ty26, ty29, ty30, ty38, ty39, ty48, ty81, ty82, ty83, ty92, ty93, ty94, ty95, slot7, wrap_i64, grd_tr, and_true, true_and, Int.le_refl, evC_seq, evC_region, evC_plan, evC_block, evC_cond, evC_exit, evC_ret, evC_skip, evC_label, evC_loop, loopK_eq, exOps_nil, exOps_cons, wantedT, bnd_s, stepK_t, stepK_f, putK_eq, seqK_n, seqK_e, seqK_r, blockK_n, blockK_e, blockK_r, brK_t, brK_f, bnd_bnd, thenK_eq, ok_some, stopK_eq, beq_f, beq_t, Bool.not_not, cond_true, cond_false, resK_n, resK_r, exOp_move, exOp_assign, exOp_pick, exOp_alloc, exOp_box, exOp_build, exOp_buildSlice, exOp_load, exOp_store, exOp_nilCheck, exOp_binOp, exOp_unOp, exOp_convert, exOp_makeFunc, exOp_makeSlice, exOp_slice, exOp_fieldAddr, exOp_field, exOp_indexAddr, exOp_index, exOp_extract, exOp_builtin, exOp_call, callK_eq, exPure, opd, getT, constT, ofValue, cellsV, newVar, St.put, setT, posT, Option.bind_some, List.getD_cons_zero, List.getD_cons_succ, List.set_cons_zero, List.set_cons_succ, List.getElem?_cons_zero, List.getElem?_cons_succ, List.getElem?_nil, decide_true, decide_false, Nat.reduceEqDiff, fieldAddrV, fieldOff, load, store, lcells, rd, TI.kind, grd_t, Nat.reduceLT, Nat.reduceAdd, and_self, cnd_t, cnd_f, binOp, intOp, Bool.not_true, Bool.not_false, Bool.true_beq, Bool.false_beq, beq_self_eq_true, exPlan_nil, exPlan_cons, entryK_eq, leadK_t, leadK_f, lookK_nil, lookK_cons, leadsT, again, rdV, vsame, vsames, Bool.and_true, Bool.true_and, Op.operands, callops_v, callops_b, List.elem_cons, List.elem_nil, List.toList_toArray, makeSliceV, buildV, fillV, splice, List.zip, List.map_cons, List.map_nil, Nat.reduceBEq, List.all_cons, List.all_nil, List.length_cons, List.length_nil, List.take, List.drop, List.cons_append, List.nil_append, results, resV, isCell, wr, List.set, nilCheckV, Nat.reduceSub, Nat.reduceMul, Nat.mul_one, Nat.zero_add, Nat.add_zero, Nat.le_refl, List.append_nil, allV, builtinV, lenV, indexAddrV, veq_eq, veqM_int, veqM_str, veqM_bool, veqM_p1, veqM_p2, veqM_p3, veqM_s1, veqM_s2, veqM_s3, veqM_s4, veqM_s5, veqM_m1, veqM_m2, veqM_m3, veqM_f1, veqM_f2, veqM_f3, veqM_struct, veqM_arr, veqF_nil, veqF_cons, veqA_nil, veqA_cons, partK_eq, cnd_and, unOp, minmaxV, minmax, sliceV, bound, asInt, idx, idxLe, appendV, copyV, clearV, convV, putBlk, sliceCells, newBlk, buildSliceV, shift, Int.toNat_natCast, Option.isSome_none, Option.isNone_none, Option.isSome_some, Option.isNone_some, Bool.or_false, Bool.or_true, Bool.true_or, Bool.false_or, Bool.and_false, Bool.false_and, unrK_n, unrK_e, unrK_r, hcells_app, hcells_ge, hcells_c0, hcells_cs, heap_set_ge, heap_set_lt, Nat.add_sub_cancel_left, Nat.sub_self, List.append_assoc, hcells_set_ne, hcells_set_eq, evC_rf, rfK_eq, reduceCtorEq, Int.reduceLT, Int.reduceLE, Int.reduceAdd, Int.reduceSub, Int.reduceNeg, Int.reduceToNat, Int.reduceEq, nat_cast_0, nat_cast_1, List.length_append, List.length_set, Nat.reduceLeDiff, List.replicate_zero, List.flatten_nil, itT, itF, reps_0, reps_1, arr_empty, asgK_n, asgM_s, endRound_eq, endM_n, endM_r, endM_e, loopAt_set_ne, loopAt_set_eq, loopAt_app, List.set_set, or_true, true_or, or_false, false_or, loopAt_ge, loopAt_c0, loopAt_cs, endRF_eq, endFM_n, endFM_r, endFM_e]) | ((with_reducible (first | refine Ok.br ?_ ?_ | refine Ok.gd ?_ ?_ | refine Ok.ld ?_ ?_)) <;> (intro g; (try simp only [decide_eq_true_eq, decide_eq_false_iff_not, beq_f, beq_t, Bool.not_eq_true', Bool.not_eq_false', Bool.not_not, Bool.false_eq_true, Bool.true_eq_false] at g); (first | (exfalso; omega) | skip)))))
      all_goals exact hQ'.out _ rfl
    · have hsr := hsrp (by omega)
      clear hsrp e4 hfz
      (refine Ok.body body7 pin7 ?_; simp only [c7, Try.f7, Option.getD_some, nslot7, List.append_nil, List.map, List.replicate, List.length_cons, List.length_nil, Nat.reduceAdd, Nat.reduceSub, List.cons_append, List.nil_append])
      (repeat' (first | (simp -implicitDefEqProofs (maxSteps := 1000000) (disch := first | assumption | omega | (simp only [List.length_append, List.length_cons, List.length_nil, List.length_set]; omega)) only [*, lenV, ty3, ty4, ty9, ty22, ty23, ty24, ty25, ty26, ty29, ty30, ty38, ty39, ty48, ty81, ty82, ty83, ty92, ty93, ty94, ty95, slot7, wrap_i64, grd_tr, and_true, true_and, Int.le_refl, evC_seq, evC_region, evC_plan, evC_block, evC_cond, evC_exit, evC_ret, evC_skip, evC_label, evC_loop, loopK_eq, exOps_nil, exOps_cons, wantedT, bnd_s, stepK_t, stepK_f, putK_eq, seqK_n, seqK_e, seqK_r, blockK_n, blockK_e, blockK_r, brK_t, brK_f, bnd_bnd, thenK_eq, ok_some, stopK_eq, beq_f, beq_t, Bool.not_not, cond_true, cond_false, resK_n, resK_r, exOp_move, exOp_assign, exOp_pick, exOp_alloc, exOp_box, exOp_build, exOp_buildSlice, exOp_load, exOp_store, exOp_nilCheck, exOp_binOp, exOp_unOp, exOp_convert, exOp_makeFunc, exOp_makeSlice, exOp_slice, exOp_fieldAddr, exOp_field, exOp_indexAddr, exOp_index, exOp_extract, exOp_builtin, exOp_call, callK_eq, exPure, opd, getT, constT, ofValue, cellsV, newVar, St.put, setT, posT, Option.bind_some, List.getD_cons_zero, List.getD_cons_succ, List.set_cons_zero, List.set_cons_succ, List.getElem?_cons_zero, List.getElem?_cons_succ, List.getElem?_nil, decide_true, decide_false, Nat.reduceEqDiff, fieldAddrV, fieldOff, load, store, lcells, rd, TI.kind, grd_t, Nat.reduceLT, Nat.reduceAdd, and_self, cnd_t, cnd_f, binOp, intOp, Bool.not_true, Bool.not_false, Bool.true_beq, Bool.false_beq, beq_self_eq_true, exPlan_nil, exPlan_cons, entryK_eq, leadK_t, leadK_f, lookK_nil, lookK_cons, leadsT, again, rdV, vsame, vsames, Bool.and_true, Bool.true_and, Op.operands, callops_v, callops_b, List.elem_cons, List.elem_nil, List.toList_toArray, makeSliceV, buildV, fillV, splice, List.zip, List.map_cons, List.map_nil, Nat.reduceBEq, List.all_cons, List.all_nil, List.length_cons, List.length_nil, List.take, List.drop, List.cons_append, List.nil_append, results, resV, isCell, wr, List.set, nilCheckV, Nat.reduceSub, Nat.reduceMul, Nat.mul_one, Nat.zero_add, Nat.add_zero, Nat.le_refl, List.append_nil, allV, builtinV, lenV, indexAddrV, veq_eq, veqM_int, veqM_str, veqM_bool, veqM_p1, veqM_p2, veqM_p3, veqM_s1, veqM_s2, veqM_s3, veqM_s4, veqM_s5, veqM_m1, veqM_m2, veqM_m3, veqM_f1, veqM_f2, veqM_f3, veqM_struct, veqM_arr, veqF_nil, veqF_cons, veqA_nil, veqA_cons, partK_eq, cnd_and, unOp, minmaxV, minmax, sliceV, bound, asInt, idx, idxLe, appendV, copyV, clearV, convV, putBlk, sliceCells, newBlk, buildSliceV, shift, Int.toNat_natCast, Option.isSome_none, Option.isNone_none, Option.isSome_some, Option.isNone_some, Bool.or_false, Bool.or_true, Bool.true_or, Bool.false_or, Bool.and_false, Bool.false_and, unrK_n, unrK_e, unrK_r, hcells_app, hcells_ge, hcells_c0, hcells_cs, heap_set_ge, heap_set_lt, Nat.add_sub_cancel_left, Nat.sub_self, List.append_assoc, hcells_set_ne, hcells_set_eq, evC_rf, rfK_eq, reduceCtorEq, Int.reduceLT, Int.reduceLE, Int.reduceAdd, Int.reduceSub, Int.reduceNeg, Int.reduceToNat, Int.reduceEq, nat_cast_0, nat_cast_1, List.length_append, List.length_set, Nat.reduceLeDiff, List.replicate_zero, List.flatten_nil, itT, itF, reps_0, reps_1, arr_empty, asgK_n, asgM_s, endRound_eq, endM_n, endM_r, endM_e, loopAt_set_ne, loopAt_set_eq, loopAt_app, List.set_set, or_true, true_or, or_false, false_or, loopAt_ge, loopAt_c0, loopAt_cs, endRF_eq, endFM_n, endFM_r, endFM_e]) | ((with_reducible (first | refine Ok.br ?_ ?_ | refine Ok.gd ?_ ?_ | refine Ok.ld ?_ ?_)) <;> (intro g; (try simp only [decide_eq_true_eq, decide_eq_false_iff_not, beq_f, beq_t, Bool.not_eq_true', Bool.not_eq_false', Bool.not_not, Bool.false_eq_true, Bool.true_eq_false] at g); (first | (exfalso; omega) | skip)))))
      all_goals exact hQ'.out _ rfl
  · obtain ⟨rfl, rfl⟩ := e3 he
    have hsr := hsrp (by omega)
    clear hsrp e4 hfz
    (refine Ok.body body7 pin7 ?_; simp only [c7, Try.f7, Option.getD_some, nslot7, List.append_nil, List.map, List.replicate, List.length_cons, List.length_nil, Nat.reduceAdd, Nat.reduceSub, List.cons_append, List.nil_append])
    (repeat' (first | (simp -implicitDefEqProofs (maxSteps := 1000000) (disch := first | assumption | omega | (simp only [List.length_append, List.length_cons, List.length_nil, List.length_set]; omega)) only [*, lenV, ty3, ty4, ty9, ty22, ty23, ty24, ty25, ty26, ty29, ty30, ty38, ty39, ty48, ty81, ty82, ty83, ty92, ty93, ty94, ty95, slot7, wrap_i64, grd_tr, and_true, true_and, Int.le_refl, evC_seq, evC_region, evC_plan, evC_block, evC_cond, evC_exit, evC_ret, evC_skip, evC_label, evC_loop, loopK_eq, exOps_nil, exOps_cons, wantedT, bnd_s, stepK_t, stepK_f, putK_eq, seqK_n, seqK_e, seqK_r, blockK_n, blockK_e, blockK_r, brK_t, brK_f, bnd_bnd, thenK_eq, ok_some, stopK_eq, beq_f, beq_t, Bool.not_not, cond_true, cond_false, resK_n, resK_r, exOp_move, exOp_assign, exOp_pick, exOp_alloc, exOp_box, exOp_build, exOp_buildSlice, exOp_load, exOp_store, exOp_nilCheck, exOp_binOp, exOp_unOp, exOp_convert, exOp_makeFunc, exOp_makeSlice, exOp_slice, exOp_fieldAddr, exOp_field, exOp_indexAddr, exOp_index, exOp_extract, exOp_builtin, exOp_call, callK_eq, exPure, opd, getT, constT, ofValue, cellsV, newVar, St.put, setT, posT, Option.bind_some, List.getD_cons_zero, List.getD_cons_succ, List.set_cons_zero, List.set_cons_succ, List.getElem?_cons_zero, List.getElem?_cons_succ, List.getElem?_nil, decide_true, decide_false, Nat.reduceEqDiff, fieldAddrV, fieldOff, load, store, lcells, rd, TI.kind, grd_t, Nat.reduceLT, Nat.reduceAdd, and_self, cnd_t, cnd_f, binOp, intOp, Bool.not_true, Bool.not_false, Bool.true_beq, Bool.false_beq, beq_self_eq_true, exPlan_nil, exPlan_cons, entryK_eq, leadK_t, leadK_f, lookK_nil, lookK_cons, leadsT, again, rdV, vsame, vsames, Bool.and_true, Bool.true_and, Op.operands, callops_v, callops_b, List.elem_cons, List.elem_nil, List.toList_toArray, makeSliceV, buildV, fillV, splice, List.zip, List.map_cons, List.map_nil, Nat.reduceBEq, List.all_cons, List.all_nil, List.length_cons, List.length_nil, List.take, List.drop, List.cons_append, List.nil_append, results, resV, isCell, wr, List.set, nilCheckV, Nat.reduceSub, Nat.reduceMul, Nat.mul_one, Nat.zero_add, Nat.add_zero, Nat.le_refl, List.append_nil, allV, builtinV, lenV, indexAddrV, veq_eq, veqM_int, veqM_str, veqM_bool, veqM_p1, veqM_p2, veqM_p3, veqM_s1, veqM_s2, veqM_s3, veqM_s4, veqM_s5, veqM_m1, veqM_m2, veqM_m3, veqM_f1, veqM_f2, veqM_f3, veqM_struct, veqM_arr, veqF_nil, veqF_cons, veqA_nil, veqA_cons, partK_eq, cnd_and, unOp, minmaxV, minmax, sliceV, bound, asInt, idx, idxLe, appendV, copyV, clearV, convV, putBlk, sliceCells, newBlk, buildSliceV, shift, Int.toNat_natCast, Option.isSome_none, Option.isNone_none, Option.isSome_some, Option.isNone_some, Bool.or_false, Bool.or_true, Bool.true_or, Bool.false_or, Bool.and_false, Bool.false_and, unrK_n, unrK_e, unrK_r, hcells_app, hcells_ge, hcells_c0, hcells_cs, heap_set_ge, heap_set_lt, Nat.add_sub_cancel_left, Nat.sub_self, List.append_assoc, hcells_set_ne, hcells_set_eq, evC_rf, rfK_eq, reduceCtorEq, Int.reduceLT, Int.reduceLE, Int.reduceAdd, Int.reduceSub, Int.reduceNeg, Int.reduceToNat, Int.reduceEq, nat_cast_0, nat_cast_1, List.length_append, List.length_set, Nat.reduceLeDiff, List.replicate_zero, List.flatten_nil, itT, itF, reps_0, reps_1, arr_empty, asgK_n, asgM_s, endRound_eq, endM_n, endM_r, endM_e, loopAt_set_ne, loopAt_set_eq, loopAt_app, List.set_set, or_true, true_or, or_false, false_or, loopAt_ge, loopAt_c0, loopAt_cs, endRF_eq, endFM_n, endFM_r, endFM_e]) | ((with_reducible (first | refine Ok.br ?_ ?_ | refine Ok.gd ?_ ?_ | refine Ok.ld ?_ ?_)) <;> (intro g; (try simp only [decide_eq_true_eq, decide_eq_false_iff_not, beq_f, beq_t, Bool.not_eq_true', Bool.not_eq_false', Bool.not_not, Bool.false_eq_true, Bool.true_eq_false] at g); (first | (exfalso; omega) | skip)))))
    all_goals exact hQ'.out _ rfl
end Go.Ev
