/-
StoreFrozen.
-/
import Derived.Test.YtennoblijpfacaaCloneSame
set_option linter.unusedSimpArgs false
set_option linter.unusedVariables false
set_option maxRecDepth 100000
namespace Go.Ev
open Go.Proofs

theorem apply_freeze (s : Sto) : ∃ k, s.apply 5 0 0 0 0 [] = ({ s with fz := true }, k, [], 0) := by
  have hm : mayP 5 0 0 0 0 [] := by unfold mayP; simp
  unfold Sto.apply
  rw [if_neg (by simpa using hm), if_neg (by omega)]
  by_cases hz : s.fz = true
  · rw [if_pos (.inl hz)]
    refine ⟨false, ?_⟩
    have : ({ s with fz := true } : Sto) = s := by obtain ⟨a, b, fz, t, m⟩ := s; simp only at hz; subst hz; rfl
    rw [this]
  · rw [if_neg (by simp [hz]), if_pos rfl]
    exact ⟨true, rfl⟩

theorem apply_frozen {s : Sto} (hz : s.fz = true) (o c q f t : Int) (l : List ByteArray) : ∃ e, s.apply o c q f t l = (s, false, [], e) ∧ (e = 0 → mayP o c q f t l) := by
  unfold Sto.apply
  by_cases h1 : mayP o c q f t l
  · rw [if_neg (by simpa using h1)]
    split
    · exact ⟨9, rfl, fun _ => h1⟩
    · rw [if_pos (.inl hz)]
      exact ⟨0, rfl, fun _ => h1⟩
  · rw [if_pos h1]
    exact ⟨1, rfl, fun h => by omega⟩

theorem DataAt.nil {H : Heap} {dv : V} {lo : Nat} (h : DataAt H dv [] lo) : ∃ a cap z, dv = .sl a 0 cap z := by
  rcases h with ⟨_, rfl⟩ | ⟨db, dg, rfl, _⟩
  · exact ⟨_, _, _, rfl⟩
  · exact ⟨_, _, _, rfl⟩

theorem strs_nil (H : Heap) : StrsAt H (.sl .nil 0 0 0) [] := ⟨.nil, 0, 0, rfl, by simp, trivial, .inl rfl⟩

set_option maxHeartbeats 4000000 in
theorem storeFrozen_at (x1 x2 : Int) {h : Heap} {v v' : V} {L L' : List Cm} (hL : CmdsAt h v L) (hL' : CmdsAt h v' L') : Ev.Ok (D X (.fn 8 []) [.agg [.int .i64 x1, .int .i64 x2], v, v'] h) fun r => r.1 = .bool true := by
  refine Ok.aim fun Q hQ => ?_
  have hQ' := Hid.mk hQ
  clear hQ
  obtain ⟨a, b, es, ha, hab, hb, _⟩ := small_at x1 x2 h
  obtain ⟨y, ep, H, ps, cb, pr, T, M, mb, s, rfl, hB, hsa, hsb⟩ := play_at ha hab hb hL 30
  obtain ⟨k, hfr⟩ := apply_freeze s
  obtain ⟨y, ef, H1, dv1, rfl, w1, w2, w3⟩ := apply_at (o := 5) (c := 0) (q := 0) (f := 0) (t := 0) hB.st (strs_nil H) (fun hne => absurd rfl hne)
  rw [hfr] at ef w1 w3
  obtain ⟨ad, capd, zd, rfl⟩ := w3.nil
  have efz := frozen_at w1
  obtain ⟨y, ec, H2, rfl, c1, c2⟩ := clone_at w1
  have hk1 : Keeps [] h H1 := hB.kp.wide w2 (by have := hB.new; intro j hj hlt; simp at hj; omega)
  have hk2 := hk1.trans c1
  have hst2 := w1.keeps c1 (by simp) (by simp)
  have hnew := hB.new
  have hpl := StoreAt.lt w1
  generalize hs1 : ({ s with fz := true } : Sto) = s1 at hst2 c2 w1 efz
  have hfz1 : s1.fz = true := by rw [← hs1]
  simp only [cmdV] at ef
  obtain ⟨sa, cap, z, rfl, _⟩ := hL
  obtain ⟨sa', cap', z', rfl, _, hcs, hcl⟩ := hL'
  have hcs' := Hid.mk hcs
  have hcl' := Hid.mk hcl
  have hk2' := Hid.mk hk2
  have hst2' := Hid.mk hst2
  have c2' := Hid.mk c2
  have hfz1' := Hid.mk hfz1
  have hapart : H1.length + 2 ∉ [ps, cb] ∧ H1.length + 1 ∉ [ps, cb] := by simp; omega
  have hapart' := Hid.mk hapart
  have hnew' : h.length ≤ ps ∧ h.length ≤ cb := ⟨hnew.1, hnew.2.1⟩
  have hnew2 := Hid.mk hnew'
  have h5 := D_pin (X := X) (f := 16) (b := true) rfl
  have efz' : D X (.fn 30 []) [.ptr ps 0 0] H1 = some (.bool true, H1) := by rw [efz, hfz1]
  clear efz hs1 hfr hcs hcl hk1 hk2 hst2 c2 w1 w2 w3 c1 hfz1 hapart hnew hnew' hpl hB hsa hsb
  (refine Ok.body body8 pin8 ?_; simp only [c8, Try.f8, Option.getD_some, nslot8, List.append_nil, List.map, List.replicate, List.length_cons, List.length_nil, Nat.reduceAdd, Nat.reduceSub, List.cons_append, List.nil_append])
  (repeat' (first | (simp -implicitDefEqProofs (maxSteps := 1000000) (disch := first | assumption | omega | (simp only [List.length_append, List.length_cons, List.length_nil, List.length_set]; omega)) only [*, lenV, ty3, ty4, ty9, ty22, ty23, ty24, ty25, ty26, ty29, ty30, ty38, ty39, ty48, ty81, ty82, ty83, ty92, ty93, ty94, ty95, slot8, wrap_i64, grd_tr, and_true, true_and, Int.le_refl, evC_seq, evC_region, evC_plan, evC_block, evC_cond, evC_exit, evC_ret, evC_skip, evC_label, evC_loop, loopK_eq, exOps_nil, exOps_cons, wantedT, bnd_s, stepK_t, stepK_f, putK_eq, seqK_n, seqK_e, seqK_r, blockK_n, blockK_e, blockK_r, brK_t, brK_f, bnd_bnd, thenK_eq, ok_some, stopK_eq, beq_f, beq_t, Bool.not_not, cond_true, cond_false, resK_n, resK_r, exOp_move, exOp_assign, exOp_pick, exOp_alloc, exOp_box, exOp_build, exOp_buildSlice, exOp_load, exOp_store, exOp_nilCheck, exOp_binOp, exOp_unOp, exOp_convert, exOp_makeFunc, exOp_makeSlice, exOp_slice, exOp_fieldAddr, exOp_field, exOp_indexAddr, exOp_index, exOp_extract, exOp_builtin, exOp_call, callK_eq, exPure, opd, getT, constT, ofValue, cellsV, newVar, St.put, setT, posT, Option.bind_some, List.getD_cons_zero, List.getD_cons_succ, List.set_cons_zero, List.set_cons_succ, List.getElem?_cons_zero, List.getElem?_cons_succ, List.getElem?_nil, decide_true, decide_false, Nat.reduceEqDiff, fieldAddrV, fieldOff, load, store, lcells, rd, TI.kind, grd_t, Nat.reduceLT, Nat.reduceAdd, and_self, cnd_t, cnd_f, binOp, intOp, Bool.not_true, Bool.not_false, Bool.true_beq, Bool.false_beq, beq_self_eq_true, exPlan_nil, exPlan_cons, entryK_eq, leadK_t, leadK_f, lookK_nil, lookK_cons, leadsT, again, rdV, vsame, vsames, Bool.and_true, Bool.true_and, Op.operands, callops_v, callops_b, List.elem_cons, List.elem_nil, List.toList_toArray, makeSliceV, buildV, fillV, splice, List.zip, List.map_cons, List.map_nil, Nat.reduceBEq, List.all_cons, List.all_nil, List.length_cons, List.length_nil, List.take, List.drop, List.cons_append, List.nil_append, results, resV, isCell, wr, List.set, nilCheckV, Nat.reduceSub, Nat.reduceMul, Nat.mul_one, Nat.zero_add, Nat.add_zero, Nat.le_refl, List.append_nil, allV, builtinV, lenV, indexAddrV, veq_eq, veqM_int, veqM_str, veqM_bool, veqM_p1, veqM_p2, veqM_p3, veqM_s1, veqM_s2, veqM_s3, veqM_s4, veqM_s5, veqM_m1, veqM_m2, veqM_m3, veqM_f1, veqM_f2, veqM_f3, veqM_struct, veqM_arr, veqF_nil, veqF_cons, veqA_nil, veqA_cons, partK_eq, cnd_and, unOp, minmaxV, minmax, sliceV, bound, asInt, idx, idxLe, appendV, copyV, clearV, convV, putBlk, sliceCells, newBlk, buildSliceV, shift, Int.toNat_natCast, Option.isSome_none, Option.isNone_none, Option.isSome_some, Option.isNone_some, Bool.or_false, Bool.or_true, Bool.true_or, Bool.false_or, Bool.and_false, Bool.false_and, unrK_n, unrK_e, unrK_r, hcells_app, hcells_ge, hcells_c0, hcells_cs, heap_set_ge, heap_set_lt, Nat.add_sub_cancel_left, Nat.sub_self, List.append_assoc, hcells_set_ne, hcells_set_eq, evC_rf, rfK_eq, reduceCtorEq, Int.reduceLT, Int.reduceLE, Int.reduceAdd, Int.reduceSub, Int.reduceNeg, Int.reduceToNat, Int.reduceEq, nat_cast_0, nat_cast_1, List.length_append, List.length_set, Nat.reduceLeDiff, List.replicate_zero, List.flatten_nil, itT, itF, reps_0, reps_1, arr_empty, asgK_n, asgM_s, endRound_eq, endM_n, endM_r, endM_e, loopAt_set_ne, loopAt_set_eq, loopAt_app, List.set_set, or_true, true_or, or_false, false_or, loopAt_ge, loopAt_c0, loopAt_cs, endRF_eq, endFM_n, endFM_r, endFM_e]) | ((with_reducible (first | refine Ok.br ?_ ?_ | refine Ok.gd ?_ ?_ | refine Ok.ld ?_ ?_)) <;> (intro g; (try simp only [decide_eq_true_eq, decide_eq_false_iff_not, beq_f, beq_t, Bool.not_eq_true', Bool.not_eq_false', Bool.not_not, Bool.false_eq_true, Bool.true_eq_false] at g); (first | (exfalso; omega) | skip)))))
  refine Ok.loop [false, false, false, false, false, false, true, false, false, false, false, false, false, true, true, true, true, false, false, false, false, false, false, false, false, false, false, false, false, false, false, false, false, false, false, false, false, false, false, false, false, false, false, false, true, true, true, true, true, true, true, true, true, true, true, true, true, true, true, true, true, true, true, true, true, true, true, true, true, true, true, true, true, true, true, true, true, true, true, true, false, false, false, false, false, false] (fun n s2 => ∃ (i : Nat), n = L'.length - i ∧ i ≤ L'.length ∧ tv s2.e 44 = .v (.int .i64 i) ∧ (∃ x1 x2 x3 x4, s2.l = [x1, x2, x3, x4]) ∧ StoreAt s2.h ps cb 0 s1 ∧ StoreAt s2.h (H1.length + 2) (H1.length + 1) 0 s1 ∧ Keeps [] h s2.h)
    (fun x s2 => x = .exit 0 ∧ (∃ x1 x2 x3 x4, s2.l = [x1, x2, x3, x4]) ∧ StoreAt s2.h ps cb 0 s1 ∧ StoreAt s2.h (H1.length + 2) (H1.length + 1) 0 s1) (L'.length - 0) ⟨0, rfl, by omega, rfl, ⟨_, _, _, _, rfl⟩, hst2'.out, c2'.out, hk2'.out⟩ ?_ ?_
  · intro n ⟨e', l', H3⟩ hW ⟨i, hn, hi, h8, ⟨⟨k1, y1⟩, ⟨k2, y2⟩, ⟨k3, y3⟩, ⟨k4, y4⟩, h3⟩, g1, g2, g3⟩
    dsimp only at hW h8 h3 g1 g2 g3
    subst l'
    rw [hW.spread]
    simp only [spread_t, spread_f, spread_n, Nat.zero_add, Nat.reduceAdd, h8]
    by_cases hlt : i < L'.length
    · have hlt' : (i : Int) < (L'.length : Int) := by omega
      rcases hcl'.out with rfl | ⟨b', g', o', rw', full', rfl, hbb, hfull⟩
      · simp at hlt
      · obtain ⟨x, hx⟩ : ∃ x, L'[i]? = some x := ⟨_, List.getElem?_eq_getElem hlt⟩
        obtain ⟨hf1, hf2⟩ := hfull i x hx
        have hvs := hcs'.out x (List.mem_of_getElem? hx)
        clear hfull
        have hbb2 := g3.cells hbb (by simp)
        have hvs2 := hvs.keeps g3 (fun _ => away_nil _)
        have hlight := light_at (o := x.o) (c := x.c) (q := x.q) (f := x.f) (t := x.t) hvs2
        obtain ⟨e, hap, hem⟩ := apply_frozen hfz1'.out x.o x.c x.q x.f x.t x.l
        obtain ⟨y, ea, H4, dv4, rfl, z1, z2, z3⟩ := apply_at (o := x.o) (c := x.c) (q := x.q) (f := x.f) (t := x.t) g1 hvs2 (away_of (H := H3) hvs (by have := hnew2.out; intro j hj; simp at hj; omega))
        rw [hap] at ea z1 z3
        obtain ⟨a4, cap4, zz4, rfl⟩ := z3.nil
        have hmay := rMay_at (o := x.o) (c := x.c) (q := x.q) (f := x.f) (t := x.t) (hvs.keeps (g3.wide z2 (by have := hnew2.out; intro j hj hlt; simp at hj; omega)) (fun _ => away_nil _))
        have g2' := Hid.mk (g2.keeps z2 hapart'.out.1 hapart'.out.2)
        have g3' : Hid (Keeps [] h H4) := ⟨g3.wide z2 (by have := hnew2.out; intro j hj hlt; simp at hj; omega)⟩
        have z1' := Hid.mk z1
        have g1' := Hid.mk g1
        have g22' := Hid.mk g2
        generalize lightB 0 0 x.l = lb at hlight
        obtain ⟨sa2, cap2, z2', hxv, _⟩ := hvs
        simp only [cmdV] at hf1 ea hlight hmay
        clear g1 g2 g3 hvs2 z1 z2 z3 hbb hap ef ec ep es
        by_cases he0 : e = 0
        · rw [decide_eq_true (hem he0)] at hmay
          subst he0
          clear hem
          generalize x.v = xv at hf1 ea hlight hxv hmay
          subst hxv
          (repeat' (first | (simp -implicitDefEqProofs (maxSteps := 1000000) (disch := first | assumption | omega | (simp only [List.length_append, List.length_cons, List.length_nil, List.length_set]; omega)) only [*, lenV, nat_cast_0, ty3, ty4, ty9, ty22, ty23, ty24, ty25, ty26, ty29, ty30, ty38, ty39, ty48, ty81, ty82, ty83, ty92, ty93, ty94, ty95, slot8, wrap_i64, grd_tr, and_true, true_and, Int.le_refl, evC_seq, evC_region, evC_plan, evC_block, evC_cond, evC_exit, evC_ret, evC_skip, evC_label, evC_loop, loopK_eq, exOps_nil, exOps_cons, wantedT, bnd_s, stepK_t, stepK_f, putK_eq, seqK_n, seqK_e, seqK_r, blockK_n, blockK_e, blockK_r, brK_t, brK_f, bnd_bnd, thenK_eq, ok_some, stopK_eq, beq_f, beq_t, Bool.not_not, cond_true, cond_false, resK_n, resK_r, exOp_move, exOp_assign, exOp_pick, exOp_alloc, exOp_box, exOp_build, exOp_buildSlice, exOp_load, exOp_store, exOp_nilCheck, exOp_binOp, exOp_unOp, exOp_convert, exOp_makeFunc, exOp_makeSlice, exOp_slice, exOp_fieldAddr, exOp_field, exOp_indexAddr, exOp_index, exOp_extract, exOp_builtin, exOp_call, callK_eq, exPure, opd, getT, constT, ofValue, cellsV, newVar, St.put, setT, posT, Option.bind_some, List.getD_cons_zero, List.getD_cons_succ, List.set_cons_zero, List.set_cons_succ, List.getElem?_cons_zero, List.getElem?_cons_succ, List.getElem?_nil, decide_true, decide_false, Nat.reduceEqDiff, fieldAddrV, fieldOff, load, store, lcells, rd, TI.kind, grd_t, Nat.reduceLT, Nat.reduceAdd, and_self, cnd_t, cnd_f, binOp, intOp, Bool.not_true, Bool.not_false, Bool.true_beq, Bool.false_beq, beq_self_eq_true, exPlan_nil, exPlan_cons, entryK_eq, leadK_t, leadK_f, lookK_nil, lookK_cons, leadsT, again, rdV, vsame, vsames, Bool.and_true, Bool.true_and, Op.operands, callops_v, callops_b, List.elem_cons, List.elem_nil, List.toList_toArray, makeSliceV, buildV, fillV, splice, List.zip, List.map_cons, List.map_nil, Nat.reduceBEq, List.all_cons, List.all_nil, List.length_cons, List.length_nil, List.take, List.drop, List.cons_append, List.nil_append, results, resV, isCell, wr, List.set, nilCheckV, Nat.reduceSub, Nat.reduceMul, Nat.mul_one, Nat.zero_add, Nat.add_zero, Nat.le_refl, List.append_nil, allV, builtinV, lenV, indexAddrV, veq_eq, veqM_int, veqM_str, veqM_bool, veqM_p1, veqM_p2, veqM_p3, veqM_s1, veqM_s2, veqM_s3, veqM_s4, veqM_s5, veqM_m1, veqM_m2, veqM_m3, veqM_f1, veqM_f2, veqM_f3, veqM_struct, veqM_arr, veqF_nil, veqF_cons, veqA_nil, veqA_cons, partK_eq, cnd_and, unOp, minmaxV, minmax, sliceV, bound, asInt, idx, idxLe, appendV, copyV, clearV, convV, putBlk, sliceCells, newBlk, buildSliceV, shift, Int.toNat_natCast, Option.isSome_none, Option.isNone_none, Option.isSome_some, Option.isNone_some, Bool.or_false, Bool.or_true, Bool.true_or, Bool.false_or, Bool.and_false, Bool.false_and, unrK_n, unrK_e, unrK_r, hcells_app, hcells_ge, hcells_c0, hcells_cs, heap_set_ge, heap_set_lt, Nat.add_sub_cancel_left, Nat.sub_self, List.append_assoc, hcells_set_ne, hcells_set_eq, evC_rf, rfK_eq, reduceCtorEq, Int.reduceLT, Int.reduceLE, Int.reduceAdd, Int.reduceSub, Int.reduceNeg, Int.reduceToNat, Int.reduceEq, nat_cast_0, nat_cast_1, List.length_append, List.length_set, Nat.reduceLeDiff, List.replicate_zero, List.flatten_nil, itT, itF, reps_0, reps_1, arr_empty, asgK_n, asgM_s, endRound_eq, endM_n, endM_r, endM_e, loopAt_set_ne, loopAt_set_eq, loopAt_app, List.set_set, or_true, true_or, or_false, false_or, loopAt_ge, loopAt_c0, loopAt_cs, endRF_eq, endFM_n, endFM_r, endFM_e]) | ((with_reducible (first | refine Ok.br ?_ ?_ | refine Ok.gd ?_ ?_ | refine Ok.ld ?_ ?_)) <;> (intro g; (try simp only [decide_eq_true_eq, decide_eq_false_iff_not, beq_f, beq_t, Bool.not_eq_true', Bool.not_eq_false', Bool.not_not, Bool.false_eq_true, Bool.true_eq_false] at g); (first | (exfalso; omega) | skip)))))
          all_goals first
            | exact Turn.exit ⟨rfl, rfl, ⟨_, _, _, _, rfl⟩, g1'.out, g22'.out⟩
            | exact Turn.next (L'.length - (i + 1)) (by omega) ⟨rfl, i + 1, rfl, by omega, rfl, ⟨_, _, _, _, rfl⟩, z1'.out, g2'.out, g3'.out⟩
        · clear hem hmay
          generalize x.v = xv at hf1 ea hlight hxv
          subst hxv
          (repeat' (first | (simp -implicitDefEqProofs (maxSteps := 1000000) (disch := first | assumption | omega | (simp only [List.length_append, List.length_cons, List.length_nil, List.length_set]; omega)) only [*, lenV, nat_cast_0, ty3, ty4, ty9, ty22, ty23, ty24, ty25, ty26, ty29, ty30, ty38, ty39, ty48, ty81, ty82, ty83, ty92, ty93, ty94, ty95, slot8, wrap_i64, grd_tr, and_true, true_and, Int.le_refl, evC_seq, evC_region, evC_plan, evC_block, evC_cond, evC_exit, evC_ret, evC_skip, evC_label, evC_loop, loopK_eq, exOps_nil, exOps_cons, wantedT, bnd_s, stepK_t, stepK_f, putK_eq, seqK_n, seqK_e, seqK_r, blockK_n, blockK_e, blockK_r, brK_t, brK_f, bnd_bnd, thenK_eq, ok_some, stopK_eq, beq_f, beq_t, Bool.not_not, cond_true, cond_false, resK_n, resK_r, exOp_move, exOp_assign, exOp_pick, exOp_alloc, exOp_box, exOp_build, exOp_buildSlice, exOp_load, exOp_store, exOp_nilCheck, exOp_binOp, exOp_unOp, exOp_convert, exOp_makeFunc, exOp_makeSlice, exOp_slice, exOp_fieldAddr, exOp_field, exOp_indexAddr, exOp_index, exOp_extract, exOp_builtin, exOp_call, callK_eq, exPure, opd, getT, constT, ofValue, cellsV, newVar, St.put, setT, posT, Option.bind_some, List.getD_cons_zero, List.getD_cons_succ, List.set_cons_zero, List.set_cons_succ, List.getElem?_cons_zero, List.getElem?_cons_succ, List.getElem?_nil, decide_true, decide_false, Nat.reduceEqDiff, fieldAddrV, fieldOff, load, store, lcells, rd, TI.kind, grd_t, Nat.reduceLT, Nat.reduceAdd, and_self, cnd_t, cnd_f, binOp, intOp, Bool.not_true, Bool.not_false, Bool.true_beq, Bool.false_beq, beq_self_eq_true, exPlan_nil, exPlan_cons, entryK_eq, leadK_t, leadK_f, lookK_nil, lookK_cons, leadsT, again, rdV, vsame, vsames, Bool.and_true, Bool.true_and, Op.operands, callops_v, callops_b, List.elem_cons, List.elem_nil, List.toList_toArray, makeSliceV, buildV, fillV, splice, List.zip, List.map_cons, List.map_nil, Nat.reduceBEq, List.all_cons, List.all_nil, List.length_cons, List.length_nil, List.take, List.drop, List.cons_append, List.nil_append, results, resV, isCell, wr, List.set, nilCheckV, Nat.reduceSub, Nat.reduceMul, Nat.mul_one, Nat.zero_add, Nat.add_zero, Nat.le_refl, List.append_nil, allV, builtinV, lenV, indexAddrV, veq_eq, veqM_int, veqM_str, veqM_bool, veqM_p1, veqM_p2, veqM_p3, veqM_s1, veqM_s2, veqM_s3, veqM_s4, veqM_s5, veqM_m1, veqM_m2, veqM_m3, veqM_f1, veqM_f2, veqM_f3, veqM_struct, veqM_arr, veqF_nil, veqF_cons, veqA_nil, veqA_cons, partK_eq, cnd_and, unOp, minmaxV, minmax, sliceV, bound, asInt, idx, idxLe, appendV, copyV, clearV, convV, putBlk, sliceCells, newBlk, buildSliceV, shift, Int.toNat_natCast, Option.isSome_none, Option.isNone_none, Option.isSome_some, Option.isNone_some, Bool.or_false, Bool.or_true, Bool.true_or, Bool.false_or, Bool.and_false, Bool.false_and, unrK_n, unrK_e, unrK_r, hcells_app, hcells_ge, hcells_c0, hcells_cs, heap_set_ge, heap_set_lt, Nat.add_sub_cancel_left, Nat.sub_self, List.append_assoc, hcells_set_ne, hcells_set_eq, evC_rf, rfK_eq, reduceCtorEq, Int.reduceLT, Int.reduceLE, Int.reduceAdd, Int.reduceSub, Int.reduceNeg, Int.reduceToNat, Int.reduceEq, nat_cast_0, nat_cast_1, List.length_append, List.length_set, Nat.reduceLeDiff, List.replicate_zero, List.flatten_nil, itT, itF, reps_0, reps_1, arr_empty, asgK_n, asgM_s, endRound_eq, endM_n, endM_r, endM_e, loopAt_set_ne, loopAt_set_eq, loopAt_app, List.set_set, or_true, true_or, or_false, false_or, loopAt_ge, loopAt_c0, loopAt_cs, endRF_eq, endFM_n, endFM_r, endFM_e]) | ((with_reducible (first | refine Ok.br ?_ ?_ | refine Ok.gd ?_ ?_ | refine Ok.ld ?_ ?_)) <;> (intro g; (try simp only [decide_eq_true_eq, decide_eq_false_iff_not, beq_f, beq_t, Bool.not_eq_true', Bool.not_eq_false', Bool.not_not, Bool.false_eq_true, Bool.true_eq_false] at g); (first | (exfalso; omega) | skip)))))
          all_goals first
            | exact Turn.exit ⟨rfl, rfl, ⟨_, _, _, _, rfl⟩, g1'.out, g22'.out⟩
            | exact Turn.next (L'.length - (i + 1)) (by omega) ⟨rfl, i + 1, rfl, by omega, rfl, ⟨_, _, _, _, rfl⟩, z1'.out, g2'.out, g3'.out⟩
    · have hlt' : ¬ (i : Int) < (L'.length : Int) := by omega
      have g1' := Hid.mk g1
      have g2' := Hid.mk g2
      clear g1 g2 g3
      (repeat' (first | (simp -implicitDefEqProofs (maxSteps := 1000000) (disch := first | assumption | omega | (simp only [List.length_append, List.length_cons, List.length_nil, List.length_set]; omega)) only [*, ty3, ty4, ty9, ty22, ty23, ty24, ty25, ty26, ty29, ty30, ty38, ty39, ty48, ty81, ty82, ty83, ty92, ty93, ty94, ty95, slot8, wrap_i64, grd_tr, and_true, true_and, Int.le_refl, evC_seq, evC_region, evC_plan, evC_block, evC_cond, evC_exit, evC_ret, evC_skip, evC_label, evC_loop, loopK_eq, exOps_nil, exOps_cons, wantedT, bnd_s, stepK_t, stepK_f, putK_eq, seqK_n, seqK_e, seqK_r, blockK_n, blockK_e, blockK_r, brK_t, brK_f, bnd_bnd, thenK_eq, ok_some, stopK_eq, beq_f, beq_t, Bool.not_not, cond_true, cond_false, resK_n, resK_r, exOp_move, exOp_assign, exOp_pick, exOp_alloc, exOp_box, exOp_build, exOp_buildSlice, exOp_load, exOp_store, exOp_nilCheck, exOp_binOp, exOp_unOp, exOp_convert, exOp_makeFunc, exOp_makeSlice, exOp_slice, exOp_fieldAddr, exOp_field, exOp_indexAddr, exOp_index, exOp_extract, exOp_builtin, exOp_call, callK_eq, exPure, opd, getT, constT, ofValue, cellsV, newVar, St.put, setT, posT, Option.bind_some, List.getD_cons_zero, List.getD_cons_succ, List.set_cons_zero, List.set_cons_succ, List.getElem?_cons_zero, List.getElem?_cons_succ, List.getElem?_nil, decide_true, decide_false, Nat.reduceEqDiff, fieldAddrV, fieldOff, load, store, lcells, rd, TI.kind, grd_t, Nat.reduceLT, Nat.reduceAdd, and_self, cnd_t, cnd_f, binOp, intOp, Bool.not_true, Bool.not_false, Bool.true_beq, Bool.false_beq, beq_self_eq_true, exPlan_nil, exPlan_cons, entryK_eq, leadK_t, leadK_f, lookK_nil, lookK_cons, leadsT, again, rdV, vsame, vsames, Bool.and_true, Bool.true_and, Op.operands, callops_v, callops_b, List.elem_cons, List.elem_nil, List.toList_toArray, makeSliceV, buildV, fillV, splice, List.zip, List.map_cons, List.map_nil, Nat.reduceBEq, List.all_cons, List.all_nil, List.length_cons, List.length_nil, List.take, List.drop, List.cons_append, List.nil_append, results, resV, isCell, wr, List.set, nilCheckV, Nat.reduceSub, Nat.reduceMul, Nat.mul_one, Nat.zero_add, Nat.add_zero, Nat.le_refl, List.append_nil, allV, builtinV, lenV, indexAddrV, veq_eq, veqM_int, veqM_str, veqM_bool, veqM_p1, veqM_p2, veqM_p3, veqM_s1, veqM_s2, veqM_s3, veqM_s4, veqM_s5, veqM_m1, veqM_m2, veqM_m3, veqM_f1, veqM_f2, veqM_f3, veqM_struct, veqM_arr, veqF_nil, veqF_cons, veqA_nil, veqA_cons, partK_eq, cnd_and, unOp, minmaxV, minmax, sliceV, bound, asInt, idx, idxLe, appendV, copyV, clearV, convV, putBlk, sliceCells, newBlk, buildSliceV, shift, Int.toNat_natCast, Option.isSome_none, Option.isNone_none, Option.isSome_some, Option.isNone_some, Bool.or_false, Bool.or_true, Bool.true_or, Bool.false_or, Bool.and_false, Bool.false_and, unrK_n, unrK_e, unrK_r, hcells_app, hcells_ge, hcells_c0, hcells_cs, heap_set_ge, heap_set_lt, Nat.add_sub_cancel_left, Nat.sub_self, List.append_assoc, hcells_set_ne, hcells_set_eq, evC_rf, rfK_eq, reduceCtorEq, Int.reduceLT, Int.reduceLE, Int.reduceAdd, Int.reduceSub, Int.reduceNeg, Int.reduceToNat, Int.reduceEq, nat_cast_0, nat_cast_1, List.length_append, List.length_set, Nat.reduceLeDiff, List.replicate_zero, List.flatten_nil, itT, itF, reps_0, reps_1, arr_empty, asgK_n, asgM_s, endRound_eq, endM_n, endM_r, endM_e, loopAt_set_ne, loopAt_set_eq, loopAt_app, List.set_set, or_true, true_or, or_false, false_or, loopAt_ge, loopAt_c0, loopAt_cs, endRF_eq, endFM_n, endFM_r, endFM_e]) | ((with_reducible (first | refine Ok.br ?_ ?_ | refine Ok.gd ?_ ?_ | refine Ok.ld ?_ ?_)) <;> (intro g; (try simp only [decide_eq_true_eq, decide_eq_false_iff_not, beq_f, beq_t, Bool.not_eq_true', Bool.not_eq_false', Bool.not_not, Bool.false_eq_true, Bool.true_eq_false] at g); (first | (exfalso; omega) | skip)))))
      exact Turn.exit ⟨rfl, rfl, ⟨_, _, _, _, rfl⟩, g1'.out, g2'.out⟩
  · intro x ⟨e', l', H3⟩ hW ⟨hx, ⟨x1', x2', x3', x4', h3⟩, g1, g2⟩
    dsimp only at hW h3 g1 g2
    subst l' hx
    rw [hW.spread]
    clear hW
    simp only [spread_t, spread_f, spread_n, Nat.zero_add, Nat.reduceAdd]
    have hsame := same_at g1 g2
    clear g1 g2
    (repeat' (first | (simp -implicitDefEqProofs (maxSteps := 1000000) (disch := first | assumption | omega | (simp only [List.length_append, List.length_cons, List.length_nil, List.length_set]; omega)) only [*, ty3, ty4, ty9, ty22, ty23, ty24, ty25, ty26, ty29, ty30, ty38, ty39, ty48, ty81, ty82, ty83, ty92, ty93, ty94, ty95, slot8, wrap_i64, grd_tr, and_true, true_and, Int.le_refl, evC_seq, evC_region, evC_plan, evC_block, evC_cond, evC_exit, evC_ret, evC_skip, evC_label, evC_loop, loopK_eq, exOps_nil, exOps_cons, wantedT, bnd_s, stepK_t, stepK_f, putK_eq, seqK_n, seqK_e, seqK_r, blockK_n, blockK_e, blockK_r, brK_t, brK_f, bnd_bnd, thenK_eq, ok_some, stopK_eq, beq_f, beq_t, Bool.not_not, cond_true, cond_false, resK_n, resK_r, exOp_move, exOp_assign, exOp_pick, exOp_alloc, exOp_box, exOp_build, exOp_buildSlice, exOp_load, exOp_store, exOp_nilCheck, exOp_binOp, exOp_unOp, exOp_convert, exOp_makeFunc, exOp_makeSlice, exOp_slice, exOp_fieldAddr, exOp_field, exOp_indexAddr, exOp_index, exOp_extract, exOp_builtin, exOp_call, callK_eq, exPure, opd, getT, constT, ofValue, cellsV, newVar, St.put, setT, posT, Option.bind_some, List.getD_cons_zero, List.getD_cons_succ, List.set_cons_zero, List.set_cons_succ, List.getElem?_cons_zero, List.getElem?_cons_succ, List.getElem?_nil, decide_true, decide_false, Nat.reduceEqDiff, fieldAddrV, fieldOff, load, store, lcells, rd, TI.kind, grd_t, Nat.reduceLT, Nat.reduceAdd, and_self, cnd_t, cnd_f, binOp, intOp, Bool.not_true, Bool.not_false, Bool.true_beq, Bool.false_beq, beq_self_eq_true, exPlan_nil, exPlan_cons, entryK_eq, leadK_t, leadK_f, lookK_nil, lookK_cons, leadsT, again, rdV, vsame, vsames, Bool.and_true, Bool.true_and, Op.operands, callops_v, callops_b, List.elem_cons, List.elem_nil, List.toList_toArray, makeSliceV, buildV, fillV, splice, List.zip, List.map_cons, List.map_nil, Nat.reduceBEq, List.all_cons, List.all_nil, List.length_cons, List.length_nil, List.take, List.drop, List.cons_append, List.nil_append, results, resV, isCell, wr, List.set, nilCheckV, Nat.reduceSub, Nat.reduceMul, Nat.mul_one, Nat.zero_add, Nat.add_zero, Nat.le_refl, List.append_nil, allV, builtinV, lenV, indexAddrV, veq_eq, veqM_int, veqM_str, veqM_bool, veqM_p1, veqM_p2, veqM_p3, veqM_s1, veqM_s2, veqM_s3, veqM_s4, veqM_s5, veqM_m1, veqM_m2, veqM_m3, veqM_f1, veqM_f2, veqM_f3, veqM_struct, veqM_arr, veqF_nil, veqF_cons, veqA_nil, veqA_cons, partK_eq, cnd_and, unOp, minmaxV, minmax, sliceV, bound, asInt, idx, idxLe, appendV, copyV, clearV, convV, putBlk, sliceCells, newBlk, buildSliceV, shift, Int.toNat_natCast, Option.isSome_none, Option.isNone_none, Option.isSome_some, Option.isNone_some, Bool.or_false, Bool.or_true, Bool.true_or, Bool.false_or, Bool.and_false, Bool.false_and, unrK_n, unrK_e, unrK_r, hcells_app, hcells_ge, hcells_c0, hcells_cs, heap_set_ge, heap_set_lt, Nat.add_sub_cancel_left, Nat.sub_self, List.append_assoc, hcells_set_ne, hcells_set_eq, evC_rf, rfK_eq, reduceCtorEq, Int.reduceLT, Int.reduceLE, Int.reduceAdd, Int.reduceSub, Int.reduceNeg, Int.reduceToNat, Int.reduceEq, nat_cast_0, nat_cast_1, List.length_append, List.length_set, Nat.reduceLeDiff, List.replicate_zero, List.flatten_nil, itT, itF, reps_0, reps_1, arr_empty, asgK_n, asgM_s, endRound_eq, endM_n, endM_r, endM_e, loopAt_set_ne, loopAt_set_eq, loopAt_app, List.set_set, or_true, true_or, or_false, false_or, loopAt_ge, loopAt_c0, loopAt_cs, endRF_eq, endFM_n, endFM_r, endFM_e]) | ((with_reducible (first | refine Ok.br ?_ ?_ | refine Ok.gd ?_ ?_ | refine Ok.ld ?_ ?_)) <;> (intro g; (try simp only [decide_eq_true_eq, decide_eq_false_iff_not, beq_f, beq_t, Bool.not_eq_true', Bool.not_eq_false', Bool.not_not, Bool.false_eq_true, Bool.true_eq_false] at g); (first | (exfalso; omega) | skip)))))
    exact hQ'.out _ rfl
end Go.Ev
