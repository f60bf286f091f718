/-
Store.Apply: a round of its loop.
-/
import Derived.Test.YtennoblijpfacaaStore
import Derived.Test.YtennoblijpfacaaSpan
set_option linter.unusedSimpArgs false
set_option linter.unusedVariables false
set_option maxRecDepth 100000
namespace Go.Ev
open Go.Proofs

/-- A loop's record in Apply. -/
structure ApplyRec (r : LoopR) : Prop where
  state : r.state = 0
  pending : r.pending = none
  fn : r.fn = 22
  params : r.params = [68]
  code : (rangesOf c22)[0]? = some (r.assign, r.body)
  lent : r.lent = false
  len : r.e.length = 149
  t2 : tv r.e 2 = .lp 0 1 0
  t3 : tv r.e 3 = .lp 1 1 0
  t6 : tv r.e 6 = .lp 3 1 0

def cmdV (o c q f t : Int) (v : V) : List V := [.int .i64 o, .int .i64 c, .int .i64 q, .int .i64 f, .int .i64 t, v]

def Sto.upd (s : Sto) (j k : Nat) (x : ByteArray) (q : Int) : Sto := { s with txt := fun i => if i = j then x else s.txt i, mrk := fun i k' => if i = j ∧ k' = k then q else s.mrk i k' }

theorem Cells.upd {full : List V} {n : Nat} {txt : Nat → ByteArray} {mrk : Nat → Nat → Int} (h : Cells full n txt mrk) {j k : Nat} (hj : j < n) (hk : k < 4) (x : ByteArray) (q : Int) :
    Cells ((full.set (j * 5) (.str x)).set (j * 5 + 1 + k) (.int .i64 q)) n (fun i => if i = j then x else txt i) (fun i k' => if i = j ∧ k' = k then q else mrk i k') := by
  obtain ⟨h1, h2⟩ := h
  refine ⟨by simpa using h1, fun i hi => ⟨?_, fun k' hk' => ?_⟩⟩
  · dsimp only
    rw [List.getElem?_set_ne (by omega)]
    by_cases e : i = j
    · subst e
      rw [List.getElem?_set_self (by omega), if_pos rfl]
    · rw [List.getElem?_set_ne (by omega), if_neg e]
      exact (h2 i hi).1
  · dsimp only
    by_cases e : i = j ∧ k' = k
    · obtain ⟨rfl, rfl⟩ := e
      rw [List.getElem?_set_self (by rw [List.length_set]; omega), if_pos ⟨rfl, rfl⟩]
    · rw [List.getElem?_set_ne (by omega), List.getElem?_set_ne (by omega), if_neg e]
      exact (h2 i hi).2 k' hk'

theorem loop_set_self {H : Heap} {L : Nat} {r : LoopR} (h : loopAt H L = some r) : H.set L (.loop r) = H := by
  apply List.ext_getElem?
  intro i
  by_cases e : L = i
  · subst e
    rw [List.getElem?_set_self (loopAt_lt h), loopAt_get h]
  · rw [List.getElem?_set_ne e]

/-- Behind a round that writes to the cells. -/
theorem wrote {H : Heap} {p cb g L : Nat} {x : Blk} {r : LoopR} {full' : List V} {q : Bool × List V} (hL : loopAt H L = some r) (hp1 : hcells H p 0 = some q) (hcll : cb < H.length) (hp : p ≠ L) (hc : cb ≠ L) (hpc : p ≠ cb) :
    hcells (((H.set L x).set cb (.cells g true full')).set L (.loop r)) p 0 = some q ∧ hcells (((H.set L x).set cb (.cells g true full')).set L (.loop r)) cb g = some (true, full') ∧
    loopAt (((H.set L x).set cb (.cells g true full')).set L (.loop r)) L = some r ∧ Keeps [cb] H (((H.set L x).set cb (.cells g true full')).set L (.loop r)) := by
  have hLl := loopAt_lt hL
  refine ⟨?_, ?_, loopAt_set_eq (by simpa using hLl), by simp, fun b hb hF => ?_⟩
  · rw [hcells_set_ne hp, hcells_set_ne hpc, hcells_set_ne hp]; exact hp1
  · rw [hcells_set_ne hc, hcells_set_eq (by simpa using hcll)]
  · have hbc : cb ≠ b := by simpa [eq_comm] using hF
    by_cases e : L = b
    · subst e
      rw [List.getElem?_set_self (by simpa using hLl), loopAt_get hL]
    · rw [List.getElem?_set_ne e, List.getElem?_set_ne hbc, List.getElem?_set_ne e]

theorem flush_round {H : Heap} {p cb g L : Nat} {s : Sto} {r : LoopR} (hs : StoreAt H p cb g s) (hL : loopAt H L = some r) (hr : ApplyRec r) {c q f t : Int} {v dv : V} {x2 x4 : Nat × List V}
    (hl : r.l = [(1, [.ptr p 0 0]), (1, cmdV 4 c q f t v), x2, (1, [.bool true, dv]), x4]) (hp : p ≠ L) (hc : cb ≠ L) {i : Int} (h1 : s.a ≤ i) (h2 : i < s.b) :
    D X (.yld L) [.int .i64 i] H = some (.bool true, H) := by
  refine Ok.eq ?_
  refine Ok.aim fun Q hQ => ?_
  have hQ' := Hid.mk hQ
  clear hQ
  obtain ⟨cap, z, full, hp1, hc1, hcl, hpc, ho⟩ := hs
  have g0 := ho.h0
  have g1 := ho.h1
  have g2 := ho.h2
  have e3 : 0 ≤ i - s.a ∧ i - s.a < s.n := by unfold Sto.n; omega
  have hLl := loopAt_lt hL
  have hcll := hcells_lt hc1
  obtain ⟨st, pe, fn, e, l, ps, asg, bd, le⟩ := r
  obtain ⟨k1, k2, k3, k4, k5, k6, k7, k8, k9, k10⟩ := hr
  dsimp only at k1 k2 k3 k4 k5 k6 k7 k8 k9 k10 hl
  subst k1 k2 k3 k4 k6 hl
  simp only [c22, Try.f22, Option.getD_some, rangesOf, List.nil_append, List.append_nil, List.cons_append, List.getElem?_cons_zero, List.getElem?_cons_succ, Option.some.injEq, Prod.mk.injEq] at k5
  obtain ⟨rfl, rfl⟩ := k5
  have he := congrArg (fun e => setArgs e [68] [.int .i64 i]) (expand' k7)
  simp only [List.replicate, spread_t, spread_f, spread_n, Nat.zero_add, Nat.reduceAdd, setArgs, List.set_cons_zero, List.set_cons_succ, k8, k9, k10] at he
  refine Ok.round hL rfl rfl ?_
  simp only [setArgs]
  rw [he]
  clear he
  simp only [cmdV]
  simp -implicitDefEqProofs (maxSteps := 1000000) (disch := first | assumption | omega | (simp only [List.length_append, List.length_cons, List.length_nil, List.length_set]; omega)) only [*, looks_at, ty3, ty4, ty9, ty22, ty23, ty24, ty25, ty26, ty29, ty38, ty39, ty81, ty82, ty83, ty90, ty92, ty93, ty94, ty95, slot22, plan22_5, plan22_14, plan22_16, plan22_17, plan22_19, plan22_21, wrap_i64, grd_tr, and_true, true_and, Int.le_refl, evC_seq, evC_region, evC_plan, evC_block, evC_cond, evC_exit, evC_ret, evC_skip, evC_label, evC_loop, loopK_eq, exOps_nil, exOps_cons, wantedT, bnd_s, stepK_t, stepK_f, putK_eq, seqK_n, seqK_e, seqK_r, blockK_n, blockK_e, blockK_r, brK_t, brK_f, bnd_bnd, thenK_eq, ok_some, stopK_eq, beq_f, beq_t, Bool.not_not, cond_true, cond_false, resK_n, resK_r, exOp_move, exOp_assign, exOp_pick, exOp_alloc, exOp_box, exOp_build, exOp_buildSlice, exOp_load, exOp_store, exOp_nilCheck, exOp_binOp, exOp_unOp, exOp_convert, exOp_makeFunc, exOp_makeSlice, exOp_slice, exOp_fieldAddr, exOp_field, exOp_indexAddr, exOp_index, exOp_extract, exOp_builtin, exOp_call, callK_eq, exPure, opd, getT, constT, ofValue, cellsV, newVar, St.put, setT, posT, Option.bind_some, List.getD_cons_zero, List.getD_cons_succ, List.set_cons_zero, List.set_cons_succ, List.getElem?_cons_zero, List.getElem?_cons_succ, List.getElem?_nil, decide_true, decide_false, Nat.reduceEqDiff, fieldAddrV, fieldOff, load, store, lcells, rd, TI.kind, grd_t, Nat.reduceLT, Nat.reduceAdd, and_self, cnd_t, cnd_f, binOp, intOp, Bool.not_true, Bool.not_false, Bool.true_beq, Bool.false_beq, beq_self_eq_true, exPlan_nil, exPlan_cons, entryK_eq, leadK_t, leadK_f, lookK_nil, lookK_cons, leadsT, again, rdV, vsame, vsames, Bool.and_true, Bool.true_and, Op.operands, callops_v, callops_b, List.elem_cons, List.elem_nil, List.toList_toArray, makeSliceV, buildV, fillV, splice, List.zip, List.map_cons, List.map_nil, Nat.reduceBEq, List.all_cons, List.all_nil, List.length_cons, List.length_nil, List.take, List.drop, List.cons_append, List.nil_append, results, resV, isCell, wr, List.set, nilCheckV, Nat.reduceSub, Nat.reduceMul, Nat.mul_one, Nat.zero_add, Nat.add_zero, Nat.le_refl, List.append_nil, allV, builtinV, lenV, indexAddrV, veq_eq, veqM_int, veqM_str, veqM_bool, veqM_p1, veqM_p2, veqM_p3, veqM_s1, veqM_s2, veqM_s3, veqM_s4, veqM_s5, veqM_m1, veqM_m2, veqM_m3, veqM_f1, veqM_f2, veqM_f3, veqM_struct, veqM_arr, veqF_nil, veqF_cons, veqA_nil, veqA_cons, partK_eq, cnd_and, unOp, minmaxV, minmax, sliceV, bound, asInt, idx, idxLe, appendV, copyV, clearV, convV, putBlk, sliceCells, newBlk, buildSliceV, shift, Int.toNat_natCast, Option.isSome_none, Option.isNone_none, Option.isSome_some, Option.isNone_some, Bool.or_false, Bool.or_true, Bool.true_or, Bool.false_or, Bool.and_false, Bool.false_and, unrK_n, unrK_e, unrK_r, hcells_app, hcells_ge, hcells_c0, hcells_cs, heap_set_ge, heap_set_lt, Nat.add_sub_cancel_left, Nat.sub_self, List.append_assoc, hcells_set_ne, hcells_set_eq, evC_rf, rfK_eq, reduceCtorEq, Int.reduceLT, Int.reduceLE, Int.reduceAdd, Int.reduceSub, Int.reduceNeg, Int.reduceToNat, Int.reduceEq, nat_cast_0, nat_cast_1, List.length_append, List.length_set, Nat.reduceLeDiff, List.replicate_zero, List.flatten_nil, itT, itF, reps_0, reps_1, arr_empty, asgK_n, asgM_s, endRound_eq, endM_n, endM_r, endM_e, loopAt_set_ne, loopAt_set_eq, loopAt_app, List.set_set, or_true, true_or, or_false, false_or, loopAt_ge, loopAt_c0, loopAt_cs, endRF_eq, endFM_n, endFM_r, endFM_e]
  refine hQ'.out _ ?_
  rw [loop_set_self (by simpa only [cmdV] using hL)]

/-- A round that finds the mark too far. -/
theorem old_round {H : Heap} {p cb g L : Nat} {s : Sto} {r : LoopR} (hs : StoreAt H p cb g s) (hL : loopAt H L = some r) (hr : ApplyRec r) {o c q f t : Int} {v dv : V} {x2 x4 : Nat × List V} (hoo : o = 2 ∨ o = 3)
    (hl : r.l = [(1, [.ptr p 0 0]), (1, cmdV o c q f t v), x2, (1, [.bool true, dv]), x4]) (hp : p ≠ L) (hc : cb ≠ L) {i : Int} (h1 : s.a ≤ i) (h2 : i < s.b) (hcl4 : 0 ≤ c ∧ c < 4) (hm : q ≤ s.mrk (i - s.a).toNat c.toNat) :
    D X (.yld L) [.int .i64 i] H = some (.bool true, H) := by
  have ho1 : ¬ o = 1 := by omega
  have ho2 : ¬ o = 4 := by omega
  clear hoo
  refine Ok.eq ?_
  refine Ok.aim fun Q hQ => ?_
  have hQ' := Hid.mk hQ
  clear hQ
  obtain ⟨cap, z, full, hp1, hc1, hcl, hpc, ho⟩ := hs
  have g0 := ho.h0
  have g1 := ho.h1
  have g2 := ho.h2
  have e3 : 0 ≤ i - s.a ∧ i - s.a < s.n := by unfold Sto.n; omega
  have hLl := loopAt_lt hL
  have hcll := hcells_lt hc1
  obtain ⟨st, pe, fn, e, l, ps, asg, bd, le⟩ := r
  obtain ⟨k1, k2, k3, k4, k5, k6, k7, k8, k9, k10⟩ := hr
  dsimp only at k1 k2 k3 k4 k5 k6 k7 k8 k9 k10 hl
  subst k1 k2 k3 k4 k6 hl
  simp only [c22, Try.f22, Option.getD_some, rangesOf, List.nil_append, List.append_nil, List.cons_append, List.getElem?_cons_zero, List.getElem?_cons_succ, Option.some.injEq, Prod.mk.injEq] at k5
  obtain ⟨rfl, rfl⟩ := k5
  have he := congrArg (fun e => setArgs e [68] [.int .i64 i]) (expand' k7)
  simp only [List.replicate, spread_t, spread_f, spread_n, Nat.zero_add, Nat.reduceAdd, setArgs, List.set_cons_zero, List.set_cons_succ, k8, k9, k10] at he
  refine Ok.round hL rfl rfl ?_
  simp only [setArgs]
  rw [he]
  clear he
  simp only [cmdV]
  have hmk := (hcl.2 (i - s.a).toNat (by omega)).2 c.toNat (by omega)
  have e7 : 0 ≤ c ∧ c < ((4 : Nat) : Int) := by omega
  simp -implicitDefEqProofs (maxSteps := 1000000) (disch := first | assumption | omega | (simp only [List.length_append, List.length_cons, List.length_nil, List.length_set]; omega)) only [*, looks_at, ty3, ty4, ty9, ty22, ty23, ty24, ty25, ty26, ty29, ty38, ty39, ty81, ty82, ty83, ty90, ty92, ty93, ty94, ty95, slot22, plan22_5, plan22_14, plan22_16, plan22_17, plan22_19, plan22_21, wrap_i64, grd_tr, and_true, true_and, Int.le_refl, evC_seq, evC_region, evC_plan, evC_block, evC_cond, evC_exit, evC_ret, evC_skip, evC_label, evC_loop, loopK_eq, exOps_nil, exOps_cons, wantedT, bnd_s, stepK_t, stepK_f, putK_eq, seqK_n, seqK_e, seqK_r, blockK_n, blockK_e, blockK_r, brK_t, brK_f, bnd_bnd, thenK_eq, ok_some, stopK_eq, beq_f, beq_t, Bool.not_not, cond_true, cond_false, resK_n, resK_r, exOp_move, exOp_assign, exOp_pick, exOp_alloc, exOp_box, exOp_build, exOp_buildSlice, exOp_load, exOp_store, exOp_nilCheck, exOp_binOp, exOp_unOp, exOp_convert, exOp_makeFunc, exOp_makeSlice, exOp_slice, exOp_fieldAddr, exOp_field, exOp_indexAddr, exOp_index, exOp_extract, exOp_builtin, exOp_call, callK_eq, exPure, opd, getT, constT, ofValue, cellsV, newVar, St.put, setT, posT, Option.bind_some, List.getD_cons_zero, List.getD_cons_succ, List.set_cons_zero, List.set_cons_succ, List.getElem?_cons_zero, List.getElem?_cons_succ, List.getElem?_nil, decide_true, decide_false, Nat.reduceEqDiff, fieldAddrV, fieldOff, load, store, lcells, rd, TI.kind, grd_t, Nat.reduceLT, Nat.reduceAdd, and_self, cnd_t, cnd_f, binOp, intOp, Bool.not_true, Bool.not_false, Bool.true_beq, Bool.false_beq, beq_self_eq_true, exPlan_nil, exPlan_cons, entryK_eq, leadK_t, leadK_f, lookK_nil, lookK_cons, leadsT, again, rdV, vsame, vsames, Bool.and_true, Bool.true_and, Op.operands, callops_v, callops_b, List.elem_cons, List.elem_nil, List.toList_toArray, makeSliceV, buildV, fillV, splice, List.zip, List.map_cons, List.map_nil, Nat.reduceBEq, List.all_cons, List.all_nil, List.length_cons, List.length_nil, List.take, List.drop, List.cons_append, List.nil_append, results, resV, isCell, wr, List.set, nilCheckV, Nat.reduceSub, Nat.reduceMul, Nat.mul_one, Nat.zero_add, Nat.add_zero, Nat.le_refl, List.append_nil, allV, builtinV, lenV, indexAddrV, veq_eq, veqM_int, veqM_str, veqM_bool, veqM_p1, veqM_p2, veqM_p3, veqM_s1, veqM_s2, veqM_s3, veqM_s4, veqM_s5, veqM_m1, veqM_m2, veqM_m3, veqM_f1, veqM_f2, veqM_f3, veqM_struct, veqM_arr, veqF_nil, veqF_cons, veqA_nil, veqA_cons, partK_eq, cnd_and, unOp, minmaxV, minmax, sliceV, bound, asInt, idx, idxLe, appendV, copyV, clearV, convV, putBlk, sliceCells, newBlk, buildSliceV, shift, Int.toNat_natCast, Option.isSome_none, Option.isNone_none, Option.isSome_some, Option.isNone_some, Bool.or_false, Bool.or_true, Bool.true_or, Bool.false_or, Bool.and_false, Bool.false_and, unrK_n, unrK_e, unrK_r, hcells_app, hcells_ge, hcells_c0, hcells_cs, heap_set_ge, heap_set_lt, Nat.add_sub_cancel_left, Nat.sub_self, List.append_assoc, hcells_set_ne, hcells_set_eq, evC_rf, rfK_eq, reduceCtorEq, Int.reduceLT, Int.reduceLE, Int.reduceAdd, Int.reduceSub, Int.reduceNeg, Int.reduceToNat, Int.reduceEq, nat_cast_0, nat_cast_1, List.length_append, List.length_set, Nat.reduceLeDiff, List.replicate_zero, List.flatten_nil, itT, itF, reps_0, reps_1, arr_empty, asgK_n, asgM_s, endRound_eq, endM_n, endM_r, endM_e, loopAt_set_ne, loopAt_set_eq, loopAt_app, List.set_set, or_true, true_or, or_false, false_or, loopAt_ge, loopAt_c0, loopAt_cs, endRF_eq, endFM_n, endFM_r, endFM_e]
  refine hQ'.out _ ?_
  rw [loop_set_self (by simpa only [cmdV] using hL)]

theorem trim_round {H : Heap} {p cb g L : Nat} {s : Sto} {r : LoopR} (hs : StoreAt H p cb g s) (hL : loopAt H L = some r) (hr : ApplyRec r) {c q f t : Int} {v dv : V} {x2 x4 : Nat × List V}
    (hl : r.l = [(1, [.ptr p 0 0]), (1, cmdV 3 c q f t v), x2, (1, [.bool true, dv]), x4]) (hp : p ≠ L) (hc : cb ≠ L) {i : Int} (h1 : s.a ≤ i) (h2 : i < s.b) (hcl4 : 0 ≤ c ∧ c < 4) (hm : s.mrk (i - s.a).toNat c.toNat < q) :
    Ev.Ok (D X (.yld L) [.int .i64 i] H) fun y => ∃ H', y = (.bool true, H') ∧ StoreAt H' p cb g (s.upd (i - s.a).toNat c.toNat ⟨#[]⟩ q) ∧ loopAt H' L = some r ∧ Keeps [cb] H H' := by
  refine Ok.aim fun Q hQ => ?_
  have hQ' := Hid.mk hQ
  clear hQ
  obtain ⟨cap, z, full, hp1, hc1, hcl, hpc, ho⟩ := hs
  have g0 := ho.h0
  have g1 := ho.h1
  have g2 := ho.h2
  have e3 : 0 ≤ i - s.a ∧ i - s.a < s.n := by unfold Sto.n; omega
  have hLl := loopAt_lt hL
  have hcll := hcells_lt hc1
  obtain ⟨st, pe, fn, e, l, ps, asg, bd, le⟩ := r
  obtain ⟨k1, k2, k3, k4, k5, k6, k7, k8, k9, k10⟩ := hr
  dsimp only at k1 k2 k3 k4 k5 k6 k7 k8 k9 k10 hl
  subst k1 k2 k3 k4 k6 hl
  simp only [c22, Try.f22, Option.getD_some, rangesOf, List.nil_append, List.append_nil, List.cons_append, List.getElem?_cons_zero, List.getElem?_cons_succ, Option.some.injEq, Prod.mk.injEq] at k5
  obtain ⟨rfl, rfl⟩ := k5
  have he := congrArg (fun e => setArgs e [68] [.int .i64 i]) (expand' k7)
  simp only [List.replicate, spread_t, spread_f, spread_n, Nat.zero_add, Nat.reduceAdd, setArgs, List.set_cons_zero, List.set_cons_succ, k8, k9, k10] at he
  refine Ok.round hL rfl rfl ?_
  simp only [setArgs]
  rw [he]
  clear he
  simp only [cmdV]
  have hmk := (hcl.2 (i - s.a).toNat (by omega)).2 c.toNat (by omega)
  have e7 : 0 ≤ c ∧ c < ((4 : Nat) : Int) := by omega
  have e8 : ¬ q ≤ s.mrk (i - s.a).toNat c.toNat := by omega
  have e9 : (i - s.a).toNat * 5 + 1 + c.toNat < full.length := by rw [hcl.1]; omega
  simp -implicitDefEqProofs (maxSteps := 1000000) (disch := first | assumption | omega | (simp only [List.length_append, List.length_cons, List.length_nil, List.length_set]; omega)) only [*, looks_at, ty3, ty4, ty9, ty22, ty23, ty24, ty25, ty26, ty29, ty38, ty39, ty81, ty82, ty83, ty90, ty92, ty93, ty94, ty95, slot22, plan22_5, plan22_14, plan22_16, plan22_17, plan22_19, plan22_21, wrap_i64, grd_tr, and_true, true_and, Int.le_refl, evC_seq, evC_region, evC_plan, evC_block, evC_cond, evC_exit, evC_ret, evC_skip, evC_label, evC_loop, loopK_eq, exOps_nil, exOps_cons, wantedT, bnd_s, stepK_t, stepK_f, putK_eq, seqK_n, seqK_e, seqK_r, blockK_n, blockK_e, blockK_r, brK_t, brK_f, bnd_bnd, thenK_eq, ok_some, stopK_eq, beq_f, beq_t, Bool.not_not, cond_true, cond_false, resK_n, resK_r, exOp_move, exOp_assign, exOp_pick, exOp_alloc, exOp_box, exOp_build, exOp_buildSlice, exOp_load, exOp_store, exOp_nilCheck, exOp_binOp, exOp_unOp, exOp_convert, exOp_makeFunc, exOp_makeSlice, exOp_slice, exOp_fieldAddr, exOp_field, exOp_indexAddr, exOp_index, exOp_extract, exOp_builtin, exOp_call, callK_eq, exPure, opd, getT, constT, ofValue, cellsV, newVar, St.put, setT, posT, Option.bind_some, List.getD_cons_zero, List.getD_cons_succ, List.set_cons_zero, List.set_cons_succ, List.getElem?_cons_zero, List.getElem?_cons_succ, List.getElem?_nil, decide_true, decide_false, Nat.reduceEqDiff, fieldAddrV, fieldOff, load, store, lcells, rd, TI.kind, grd_t, Nat.reduceLT, Nat.reduceAdd, and_self, cnd_t, cnd_f, binOp, intOp, Bool.not_true, Bool.not_false, Bool.true_beq, Bool.false_beq, beq_self_eq_true, exPlan_nil, exPlan_cons, entryK_eq, leadK_t, leadK_f, lookK_nil, lookK_cons, leadsT, again, rdV, vsame, vsames, Bool.and_true, Bool.true_and, Op.operands, callops_v, callops_b, List.elem_cons, List.elem_nil, List.toList_toArray, makeSliceV, buildV, fillV, splice, List.zip, List.map_cons, List.map_nil, Nat.reduceBEq, List.all_cons, List.all_nil, List.length_cons, List.length_nil, List.take, List.drop, List.cons_append, List.nil_append, results, resV, isCell, wr, List.set, nilCheckV, Nat.reduceSub, Nat.reduceMul, Nat.mul_one, Nat.zero_add, Nat.add_zero, Nat.le_refl, List.append_nil, allV, builtinV, lenV, indexAddrV, veq_eq, veqM_int, veqM_str, veqM_bool, veqM_p1, veqM_p2, veqM_p3, veqM_s1, veqM_s2, veqM_s3, veqM_s4, veqM_s5, veqM_m1, veqM_m2, veqM_m3, veqM_f1, veqM_f2, veqM_f3, veqM_struct, veqM_arr, veqF_nil, veqF_cons, veqA_nil, veqA_cons, partK_eq, cnd_and, unOp, minmaxV, minmax, sliceV, bound, asInt, idx, idxLe, appendV, copyV, clearV, convV, putBlk, sliceCells, newBlk, buildSliceV, shift, Int.toNat_natCast, Option.isSome_none, Option.isNone_none, Option.isSome_some, Option.isNone_some, Bool.or_false, Bool.or_true, Bool.true_or, Bool.false_or, Bool.and_false, Bool.false_and, unrK_n, unrK_e, unrK_r, hcells_app, hcells_ge, hcells_c0, hcells_cs, heap_set_ge, heap_set_lt, Nat.add_sub_cancel_left, Nat.sub_self, List.append_assoc, hcells_set_ne, hcells_set_eq, evC_rf, rfK_eq, reduceCtorEq, Int.reduceLT, Int.reduceLE, Int.reduceAdd, Int.reduceSub, Int.reduceNeg, Int.reduceToNat, Int.reduceEq, nat_cast_0, nat_cast_1, List.length_append, List.length_set, Nat.reduceLeDiff, List.replicate_zero, List.flatten_nil, itT, itF, reps_0, reps_1, arr_empty, asgK_n, asgM_s, endRound_eq, endM_n, endM_r, endM_e, loopAt_set_ne, loopAt_set_eq, loopAt_app, List.set_set, or_true, true_or, or_false, false_or, loopAt_ge, loopAt_c0, loopAt_cs, endRF_eq, endFM_n, endFM_r, endFM_e]
  simp only [cmdV] at hL
  obtain ⟨w1, w2, w3, w4⟩ := wrote (x := ?_) (full' := ?_) (g := g) hL hp1 hcll hp hc hpc
  exact hQ'.out _ ⟨_, rfl, ⟨cap, z, _, w1, w2, hcl.upd (by omega) (by omega) _ _, hpc, ⟨⟨ho.h0, ho.h1, ho.h2⟩, ho.hc, ho.hz⟩⟩, by simpa only [cmdV] using w3, w4⟩

theorem write_round {H : Heap} {p cb g L : Nat} {s : Sto} {r : LoopR} (hs : StoreAt H p cb g s) (hL : loopAt H L = some r) (hr : ApplyRec r) {c q f t : Int} {a : SA} {n vc vz : Nat} {dv : V} {x2 x4 : Nat × List V}
    (hl : r.l = [(1, [.ptr p 0 0]), (1, cmdV 2 c q f t (.sl a n vc vz)), x2, (1, [.bool true, dv]), x4]) (hp : p ≠ L) (hc : cb ≠ L) {i : Int} (h1 : s.a ≤ i) (h2 : i < s.b) (hcl4 : 0 ≤ c ∧ c < 4) (hm : s.mrk (i - s.a).toNat c.toNat < q)
    {b' g' o' : Nat} {rw' : Bool} {full' : List V} {x : ByteArray} (ha : a = .at b' g' o') (hb : hcells H b' g' = some (rw', full')) (hbL : b' ≠ L) (hbc : b' ≠ cb) (hi : 0 ≤ i - f ∧ i - f < n) (hf0 : 0 ≤ f) (hx : full'[o' + (i - f).toNat]? = some (.str x)) :
    Ev.Ok (D X (.yld L) [.int .i64 i] H) fun y => ∃ H', y = (.bool true, H') ∧ StoreAt H' p cb g (s.upd (i - s.a).toNat c.toNat x q) ∧ loopAt H' L = some r ∧ Keeps [cb] H H' := by
  subst ha
  refine Ok.aim fun Q hQ => ?_
  have hQ' := Hid.mk hQ
  clear hQ
  obtain ⟨cap, z, full, hp1, hc1, hcl, hpc, ho⟩ := hs
  have g0 := ho.h0
  have g1 := ho.h1
  have g2 := ho.h2
  have e3 : 0 ≤ i - s.a ∧ i - s.a < s.n := by unfold Sto.n; omega
  have hLl := loopAt_lt hL
  have hcll := hcells_lt hc1
  obtain ⟨st, pe, fn, e, l, ps, asg, bd, le⟩ := r
  obtain ⟨k1, k2, k3, k4, k5, k6, k7, k8, k9, k10⟩ := hr
  dsimp only at k1 k2 k3 k4 k5 k6 k7 k8 k9 k10 hl
  subst k1 k2 k3 k4 k6 hl
  simp only [c22, Try.f22, Option.getD_some, rangesOf, List.nil_append, List.append_nil, List.cons_append, List.getElem?_cons_zero, List.getElem?_cons_succ, Option.some.injEq, Prod.mk.injEq] at k5
  obtain ⟨rfl, rfl⟩ := k5
  have he := congrArg (fun e => setArgs e [68] [.int .i64 i]) (expand' k7)
  simp only [List.replicate, spread_t, spread_f, spread_n, Nat.zero_add, Nat.reduceAdd, setArgs, List.set_cons_zero, List.set_cons_succ, k8, k9, k10] at he
  refine Ok.round hL rfl rfl ?_
  simp only [setArgs]
  rw [he]
  clear he
  simp only [cmdV]
  have hmk := (hcl.2 (i - s.a).toNat (by omega)).2 c.toNat (by omega)
  have e7 : 0 ≤ c ∧ c < ((4 : Nat) : Int) := by omega
  have e8 : ¬ q ≤ s.mrk (i - s.a).toNat c.toNat := by omega
  have e9 : (i - s.a).toNat * 5 + 1 + c.toNat < full.length := by rw [hcl.1]; omega
  simp -implicitDefEqProofs (maxSteps := 1000000) (disch := first | assumption | omega | (simp only [List.length_append, List.length_cons, List.length_nil, List.length_set]; omega)) only [*, looks_at, ty3, ty4, ty9, ty22, ty23, ty24, ty25, ty26, ty29, ty38, ty39, ty81, ty82, ty83, ty90, ty92, ty93, ty94, ty95, slot22, plan22_5, plan22_14, plan22_16, plan22_17, plan22_19, plan22_21, wrap_i64, grd_tr, and_true, true_and, Int.le_refl, evC_seq, evC_region, evC_plan, evC_block, evC_cond, evC_exit, evC_ret, evC_skip, evC_label, evC_loop, loopK_eq, exOps_nil, exOps_cons, wantedT, bnd_s, stepK_t, stepK_f, putK_eq, seqK_n, seqK_e, seqK_r, blockK_n, blockK_e, blockK_r, brK_t, brK_f, bnd_bnd, thenK_eq, ok_some, stopK_eq, beq_f, beq_t, Bool.not_not, cond_true, cond_false, resK_n, resK_r, exOp_move, exOp_assign, exOp_pick, exOp_alloc, exOp_box, exOp_build, exOp_buildSlice, exOp_load, exOp_store, exOp_nilCheck, exOp_binOp, exOp_unOp, exOp_convert, exOp_makeFunc, exOp_makeSlice, exOp_slice, exOp_fieldAddr, exOp_field, exOp_indexAddr, exOp_index, exOp_extract, exOp_builtin, exOp_call, callK_eq, exPure, opd, getT, constT, ofValue, cellsV, newVar, St.put, setT, posT, Option.bind_some, List.getD_cons_zero, List.getD_cons_succ, List.set_cons_zero, List.set_cons_succ, List.getElem?_cons_zero, List.getElem?_cons_succ, List.getElem?_nil, decide_true, decide_false, Nat.reduceEqDiff, fieldAddrV, fieldOff, load, store, lcells, rd, TI.kind, grd_t, Nat.reduceLT, Nat.reduceAdd, and_self, cnd_t, cnd_f, binOp, intOp, Bool.not_true, Bool.not_false, Bool.true_beq, Bool.false_beq, beq_self_eq_true, exPlan_nil, exPlan_cons, entryK_eq, leadK_t, leadK_f, lookK_nil, lookK_cons, leadsT, again, rdV, vsame, vsames, Bool.and_true, Bool.true_and, Op.operands, callops_v, callops_b, List.elem_cons, List.elem_nil, List.toList_toArray, makeSliceV, buildV, fillV, splice, List.zip, List.map_cons, List.map_nil, Nat.reduceBEq, List.all_cons, List.all_nil, List.length_cons, List.length_nil, List.take, List.drop, List.cons_append, List.nil_append, results, resV, isCell, wr, List.set, nilCheckV, Nat.reduceSub, Nat.reduceMul, Nat.mul_one, Nat.zero_add, Nat.add_zero, Nat.le_refl, List.append_nil, allV, builtinV, lenV, indexAddrV, veq_eq, veqM_int, veqM_str, veqM_bool, veqM_p1, veqM_p2, veqM_p3, veqM_s1, veqM_s2, veqM_s3, veqM_s4, veqM_s5, veqM_m1, veqM_m2, veqM_m3, veqM_f1, veqM_f2, veqM_f3, veqM_struct, veqM_arr, veqF_nil, veqF_cons, veqA_nil, veqA_cons, partK_eq, cnd_and, unOp, minmaxV, minmax, sliceV, bound, asInt, idx, idxLe, appendV, copyV, clearV, convV, putBlk, sliceCells, newBlk, buildSliceV, shift, Int.toNat_natCast, Option.isSome_none, Option.isNone_none, Option.isSome_some, Option.isNone_some, Bool.or_false, Bool.or_true, Bool.true_or, Bool.false_or, Bool.and_false, Bool.false_and, unrK_n, unrK_e, unrK_r, hcells_app, hcells_ge, hcells_c0, hcells_cs, heap_set_ge, heap_set_lt, Nat.add_sub_cancel_left, Nat.sub_self, List.append_assoc, hcells_set_ne, hcells_set_eq, evC_rf, rfK_eq, reduceCtorEq, Int.reduceLT, Int.reduceLE, Int.reduceAdd, Int.reduceSub, Int.reduceNeg, Int.reduceToNat, Int.reduceEq, nat_cast_0, nat_cast_1, List.length_append, List.length_set, Nat.reduceLeDiff, List.replicate_zero, List.flatten_nil, itT, itF, reps_0, reps_1, arr_empty, asgK_n, asgM_s, endRound_eq, endM_n, endM_r, endM_e, loopAt_set_ne, loopAt_set_eq, loopAt_app, List.set_set, or_true, true_or, or_false, false_or, loopAt_ge, loopAt_c0, loopAt_cs, endRF_eq, endFM_n, endFM_r, endFM_e]
  simp only [cmdV] at hL
  obtain ⟨w1, w2, w3, w4⟩ := wrote (x := ?_) (full' := ?_) (g := g) hL hp1 hcll hp hc hpc
  exact hQ'.out _ ⟨_, rfl, ⟨cap, z, _, w1, w2, hcl.upd (by omega) (by omega) _ _, hpc, ⟨⟨ho.h0, ho.h1, ho.h2⟩, ho.hc, ho.hz⟩⟩, by simpa only [cmdV] using w3, w4⟩

theorem read_nil {H : Heap} {p cb g L : Nat} {s : Sto} {r : LoopR} (hs : StoreAt H p cb g s) (hL : loopAt H L = some r) (hr : ApplyRec r) {c q f t : Int} {v : V} {x2 : Nat × List V} {k4 : Nat} {y4 : List V}
    (hl : r.l = [(1, [.ptr p 0 0]), (1, cmdV 1 c q f t v), x2, (1, [.bool true, .sl .nil 0 0 0]), (k4, y4)]) (hp : p ≠ L) (hc : cb ≠ L) {i : Int} (h1 : s.a ≤ i) (h2 : i < s.b) :
    D X (.yld L) [.int .i64 i] H = some (.bool true, H.set L (.loop { r with l := [(1, [.ptr p 0 0]), (1, cmdV 1 c q f t v), x2, (1, [.bool true, .sl (.at H.length 0 0) 1 1 1]), (k4 + 1, [.str (s.txt (i - s.a).toNat)])] }) ++ [.cells 0 true [.str (s.txt (i - s.a).toNat)]]) := by
  refine Ok.eq ?_
  refine Ok.aim fun Q hQ => ?_
  have hQ' := Hid.mk hQ
  clear hQ
  obtain ⟨cap, z, full, hp1, hc1, hcl, hpc, ho⟩ := hs
  have g0 := ho.h0
  have g1 := ho.h1
  have g2 := ho.h2
  have e3 : 0 ≤ i - s.a ∧ i - s.a < s.n := by unfold Sto.n; omega
  have hLl := loopAt_lt hL
  have hcll := hcells_lt hc1
  obtain ⟨st, pe, fn, e, l, ps, asg, bd, le⟩ := r
  obtain ⟨k1, k2, k3, k4, k5, k6, k7, k8, k9, k10⟩ := hr
  dsimp only at k1 k2 k3 k4 k5 k6 k7 k8 k9 k10 hl
  subst k1 k2 k3 k4 k6 hl
  simp only [c22, Try.f22, Option.getD_some, rangesOf, List.nil_append, List.append_nil, List.cons_append, List.getElem?_cons_zero, List.getElem?_cons_succ, Option.some.injEq, Prod.mk.injEq] at k5
  obtain ⟨rfl, rfl⟩ := k5
  have he := congrArg (fun e => setArgs e [68] [.int .i64 i]) (expand' k7)
  simp only [List.replicate, spread_t, spread_f, spread_n, Nat.zero_add, Nat.reduceAdd, setArgs, List.set_cons_zero, List.set_cons_succ, k8, k9, k10] at he
  refine Ok.round hL rfl rfl ?_
  simp only [setArgs]
  rw [he]
  clear he
  simp only [cmdV]
  have hmk := (hcl.2 (i - s.a).toNat (by omega)).1
  simp -implicitDefEqProofs (maxSteps := 1000000) (disch := first | assumption | omega | (simp only [List.length_append, List.length_cons, List.length_nil, List.length_set]; omega)) only [*, looks_at, ty3, ty4, ty9, ty22, ty23, ty24, ty25, ty26, ty29, ty38, ty39, ty81, ty82, ty83, ty90, ty92, ty93, ty94, ty95, slot22, plan22_5, plan22_14, plan22_16, plan22_17, plan22_19, plan22_21, wrap_i64, grd_tr, and_true, true_and, Int.le_refl, evC_seq, evC_region, evC_plan, evC_block, evC_cond, evC_exit, evC_ret, evC_skip, evC_label, evC_loop, loopK_eq, exOps_nil, exOps_cons, wantedT, bnd_s, stepK_t, stepK_f, putK_eq, seqK_n, seqK_e, seqK_r, blockK_n, blockK_e, blockK_r, brK_t, brK_f, bnd_bnd, thenK_eq, ok_some, stopK_eq, beq_f, beq_t, Bool.not_not, cond_true, cond_false, resK_n, resK_r, exOp_move, exOp_assign, exOp_pick, exOp_alloc, exOp_box, exOp_build, exOp_buildSlice, exOp_load, exOp_store, exOp_nilCheck, exOp_binOp, exOp_unOp, exOp_convert, exOp_makeFunc, exOp_makeSlice, exOp_slice, exOp_fieldAddr, exOp_field, exOp_indexAddr, exOp_index, exOp_extract, exOp_builtin, exOp_call, callK_eq, exPure, opd, getT, constT, ofValue, cellsV, newVar, St.put, setT, posT, Option.bind_some, List.getD_cons_zero, List.getD_cons_succ, List.set_cons_zero, List.set_cons_succ, List.getElem?_cons_zero, List.getElem?_cons_succ, List.getElem?_nil, decide_true, decide_false, Nat.reduceEqDiff, fieldAddrV, fieldOff, load, store, lcells, rd, TI.kind, grd_t, Nat.reduceLT, Nat.reduceAdd, and_self, cnd_t, cnd_f, binOp, intOp, Bool.not_true, Bool.not_false, Bool.true_beq, Bool.false_beq, beq_self_eq_true, exPlan_nil, exPlan_cons, entryK_eq, leadK_t, leadK_f, lookK_nil, lookK_cons, leadsT, again, rdV, vsame, vsames, Bool.and_true, Bool.true_and, Op.operands, callops_v, callops_b, List.elem_cons, List.elem_nil, List.toList_toArray, makeSliceV, buildV, fillV, splice, List.zip, List.map_cons, List.map_nil, Nat.reduceBEq, List.all_cons, List.all_nil, List.length_cons, List.length_nil, List.take, List.drop, List.cons_append, List.nil_append, results, resV, isCell, wr, List.set, nilCheckV, Nat.reduceSub, Nat.reduceMul, Nat.mul_one, Nat.zero_add, Nat.add_zero, Nat.le_refl, List.append_nil, allV, builtinV, lenV, indexAddrV, veq_eq, veqM_int, veqM_str, veqM_bool, veqM_p1, veqM_p2, veqM_p3, veqM_s1, veqM_s2, veqM_s3, veqM_s4, veqM_s5, veqM_m1, veqM_m2, veqM_m3, veqM_f1, veqM_f2, veqM_f3, veqM_struct, veqM_arr, veqF_nil, veqF_cons, veqA_nil, veqA_cons, partK_eq, cnd_and, unOp, minmaxV, minmax, sliceV, bound, asInt, idx, idxLe, appendV, copyV, clearV, convV, putBlk, sliceCells, newBlk, buildSliceV, shift, Int.toNat_natCast, Option.isSome_none, Option.isNone_none, Option.isSome_some, Option.isNone_some, Bool.or_false, Bool.or_true, Bool.true_or, Bool.false_or, Bool.and_false, Bool.false_and, unrK_n, unrK_e, unrK_r, hcells_app, hcells_ge, hcells_c0, hcells_cs, heap_set_ge, heap_set_lt, Nat.add_sub_cancel_left, Nat.sub_self, List.append_assoc, hcells_set_ne, hcells_set_eq, evC_rf, rfK_eq, reduceCtorEq, Int.reduceLT, Int.reduceLE, Int.reduceAdd, Int.reduceSub, Int.reduceNeg, Int.reduceToNat, Int.reduceEq, nat_cast_0, nat_cast_1, List.length_append, List.length_set, Nat.reduceLeDiff, List.replicate_zero, List.flatten_nil, itT, itF, reps_0, reps_1, arr_empty, asgK_n, asgM_s, endRound_eq, endM_n, endM_r, endM_e, loopAt_set_ne, loopAt_set_eq, loopAt_app, List.set_set, or_true, true_or, or_false, false_or, loopAt_ge, loopAt_c0, loopAt_cs, endRF_eq, endFM_n, endFM_r, endFM_e]
  exact hQ'.out _ (by simp only [cmdV])

theorem read_more {H : Heap} {p cb g L : Nat} {s : Sto} {r : LoopR} (hs : StoreAt H p cb g s) (hL : loopAt H L = some r) (hr : ApplyRec r) {c q f t : Int} {v : V} {x2 : Nat × List V} {k4 : Nat} {y4 : List V} {db dg n : Nat} {dd : List V}
    (hl : r.l = [(1, [.ptr p 0 0]), (1, cmdV 1 c q f t v), x2, (1, [.bool true, .sl (.at db dg 0) n n 1]), (k4, y4)]) (hp : p ≠ L) (hc : cb ≠ L) {i : Int} (h1 : s.a ≤ i) (h2 : i < s.b)
    (hd : hcells H db dg = some (true, dd)) (hn : dd.length = n) (hn1 : n ≤ 300) (hdL : db ≠ L) :
    D X (.yld L) [.int .i64 i] H = some (.bool true, ((H.set L (.loop { r with state := 1, lent := true })).set db (.cells (dg + 1) true (dd ++ [.str (s.txt (i - s.a).toNat)]))).set L (.loop { r with l := [(1, [.ptr p 0 0]), (1, cmdV 1 c q f t v), x2, (1, [.bool true, .sl (.at db (dg + 1) 0) (n + 1) (n + 1) 1]), (k4 + 1, [.str (s.txt (i - s.a).toNat)])] })) := by
  refine Ok.eq ?_
  refine Ok.aim fun Q hQ => ?_
  have hQ' := Hid.mk hQ
  clear hQ
  obtain ⟨cap, z, full, hp1, hc1, hcl, hpc, ho⟩ := hs
  have g0 := ho.h0
  have g1 := ho.h1
  have g2 := ho.h2
  have e3 : 0 ≤ i - s.a ∧ i - s.a < s.n := by unfold Sto.n; omega
  have hLl := loopAt_lt hL
  have hcll := hcells_lt hc1
  obtain ⟨st, pe, fn, e, l, ps, asg, bd, le⟩ := r
  obtain ⟨k1, k2, k3, k4, k5, k6, k7, k8, k9, k10⟩ := hr
  dsimp only at k1 k2 k3 k4 k5 k6 k7 k8 k9 k10 hl
  subst k1 k2 k3 k4 k6 hl
  simp only [c22, Try.f22, Option.getD_some, rangesOf, List.nil_append, List.append_nil, List.cons_append, List.getElem?_cons_zero, List.getElem?_cons_succ, Option.some.injEq, Prod.mk.injEq] at k5
  obtain ⟨rfl, rfl⟩ := k5
  have he := congrArg (fun e => setArgs e [68] [.int .i64 i]) (expand' k7)
  simp only [List.replicate, spread_t, spread_f, spread_n, Nat.zero_add, Nat.reduceAdd, setArgs, List.set_cons_zero, List.set_cons_succ, k8, k9, k10] at he
  refine Ok.round hL rfl rfl ?_
  simp only [setArgs]
  rw [he]
  clear he
  simp only [cmdV]
  have hmk := (hcl.2 (i - s.a).toNat (by omega)).1
  have e5 : ¬ n + 1 ≤ n := by omega
  have e6 : dd.take n = dd := List.take_of_length_le (by omega)
  simp -implicitDefEqProofs (maxSteps := 1000000) (disch := first | assumption | omega | (simp only [List.length_append, List.length_cons, List.length_nil, List.length_set]; omega)) only [*, looks_at, ty3, ty4, ty9, ty22, ty23, ty24, ty25, ty26, ty29, ty38, ty39, ty81, ty82, ty83, ty90, ty92, ty93, ty94, ty95, slot22, plan22_5, plan22_14, plan22_16, plan22_17, plan22_19, plan22_21, wrap_i64, grd_tr, and_true, true_and, Int.le_refl, evC_seq, evC_region, evC_plan, evC_block, evC_cond, evC_exit, evC_ret, evC_skip, evC_label, evC_loop, loopK_eq, exOps_nil, exOps_cons, wantedT, bnd_s, stepK_t, stepK_f, putK_eq, seqK_n, seqK_e, seqK_r, blockK_n, blockK_e, blockK_r, brK_t, brK_f, bnd_bnd, thenK_eq, ok_some, stopK_eq, beq_f, beq_t, Bool.not_not, cond_true, cond_false, resK_n, resK_r, exOp_move, exOp_assign, exOp_pick, exOp_alloc, exOp_box, exOp_build, exOp_buildSlice, exOp_load, exOp_store, exOp_nilCheck, exOp_binOp, exOp_unOp, exOp_convert, exOp_makeFunc, exOp_makeSlice, exOp_slice, exOp_fieldAddr, exOp_field, exOp_indexAddr, exOp_index, exOp_extract, exOp_builtin, exOp_call, callK_eq, exPure, opd, getT, constT, ofValue, cellsV, newVar, St.put, setT, posT, Option.bind_some, List.getD_cons_zero, List.getD_cons_succ, List.set_cons_zero, List.set_cons_succ, List.getElem?_cons_zero, List.getElem?_cons_succ, List.getElem?_nil, decide_true, decide_false, Nat.reduceEqDiff, fieldAddrV, fieldOff, load, store, lcells, rd, TI.kind, grd_t, Nat.reduceLT, Nat.reduceAdd, and_self, cnd_t, cnd_f, binOp, intOp, Bool.not_true, Bool.not_false, Bool.true_beq, Bool.false_beq, beq_self_eq_true, exPlan_nil, exPlan_cons, entryK_eq, leadK_t, leadK_f, lookK_nil, lookK_cons, leadsT, again, rdV, vsame, vsames, Bool.and_true, Bool.true_and, Op.operands, callops_v, callops_b, List.elem_cons, List.elem_nil, List.toList_toArray, makeSliceV, buildV, fillV, splice, List.zip, List.map_cons, List.map_nil, Nat.reduceBEq, List.all_cons, List.all_nil, List.length_cons, List.length_nil, List.take, List.drop, List.cons_append, List.nil_append, results, resV, isCell, wr, List.set, nilCheckV, Nat.reduceSub, Nat.reduceMul, Nat.mul_one, Nat.zero_add, Nat.add_zero, Nat.le_refl, List.append_nil, allV, builtinV, lenV, indexAddrV, veq_eq, veqM_int, veqM_str, veqM_bool, veqM_p1, veqM_p2, veqM_p3, veqM_s1, veqM_s2, veqM_s3, veqM_s4, veqM_s5, veqM_m1, veqM_m2, veqM_m3, veqM_f1, veqM_f2, veqM_f3, veqM_struct, veqM_arr, veqF_nil, veqF_cons, veqA_nil, veqA_cons, partK_eq, cnd_and, unOp, minmaxV, minmax, sliceV, bound, asInt, idx, idxLe, appendV, copyV, clearV, convV, putBlk, sliceCells, newBlk, buildSliceV, shift, Int.toNat_natCast, Option.isSome_none, Option.isNone_none, Option.isSome_some, Option.isNone_some, Bool.or_false, Bool.or_true, Bool.true_or, Bool.false_or, Bool.and_false, Bool.false_and, unrK_n, unrK_e, unrK_r, hcells_app, hcells_ge, hcells_c0, hcells_cs, heap_set_ge, heap_set_lt, Nat.add_sub_cancel_left, Nat.sub_self, List.append_assoc, hcells_set_ne, hcells_set_eq, evC_rf, rfK_eq, reduceCtorEq, Int.reduceLT, Int.reduceLE, Int.reduceAdd, Int.reduceSub, Int.reduceNeg, Int.reduceToNat, Int.reduceEq, nat_cast_0, nat_cast_1, List.length_append, List.length_set, Nat.reduceLeDiff, List.replicate_zero, List.flatten_nil, itT, itF, reps_0, reps_1, arr_empty, asgK_n, asgM_s, endRound_eq, endM_n, endM_r, endM_e, loopAt_set_ne, loopAt_set_eq, loopAt_app, List.set_set, or_true, true_or, or_false, false_or, loopAt_ge, loopAt_c0, loopAt_cs, endRF_eq, endFM_n, endFM_r, endFM_e]
  exact hQ'.out _ (by simp only [cmdV])
end Go.Ev
