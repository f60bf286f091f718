/-
The reference's store in memory, and New.
-/
import Derived.Test.YtennoblijpfacaaSame
set_option linter.unusedSimpArgs false
set_option linter.unusedVariables false
set_option maxRecDepth 100000
namespace Go.Ev
open Go.Proofs

theorem reps_s (n : Nat) (z : List V) : reps (n + 1) z = z ++ reps n z := by simp [reps, List.replicate_succ]

/-- The reference's store in memory: its block p, its texts' T, its rows' M, each row's block. -/
structure RefAt (H : Heap) (p T M : Nat) (mb : Nat → Nat) (n : Nat) (s : Sto) : Prop where
  tm : ∃ gT gM ts ms, hcells H p 0 = some (true, [.int .i64 s.a, .int .i64 s.b, .bool s.fz, .sl (.at T gT 0) n n 1, .sl (.at M gM 0) n n 1]) ∧
    hcells H T gT = some (true, ts) ∧ ts.length = n ∧ (∀ i, i < n → ts[i]? = some (.str (s.txt i))) ∧ hcells H M gM = some (true, ms) ∧ ms.length = n ∧ (∀ i, i < n → ms[i]? = some (.sl (.at (mb i) 0 0) 4 4 0))
  mks : ∀ i, i < n → ∃ q, hcells H (mb i) 0 = some (true, q) ∧ q.length = 4 ∧ ∀ k, k < 4 → q[k]? = some (.int .i64 (s.mrk i k))
  pT : p ≠ T
  pM : p ≠ M
  TM : T ≠ M
  apart : ∀ i, i < n → mb i ≠ p ∧ mb i ≠ T ∧ mb i ≠ M
  inj : ∀ i j, i < n → j < n → mb i = mb j → i = j

def refBlocks (p T M : Nat) (mb : Nat → Nat) (n : Nat) : List Nat := p :: T :: M :: (List.range n).map mb

theorem mem_refBlocks {p T M : Nat} {mb : Nat → Nat} {n j : Nat} : j ∈ refBlocks p T M mb n ↔ j = p ∨ j = T ∨ j = M ∨ ∃ i, i < n ∧ mb i = j := by
  simp [refBlocks]

theorem RefAt.keeps {F : List Nat} {H H' : Heap} {p T M : Nat} {mb : Nat → Nat} {n : Nat} {s : Sto} (h : RefAt H p T M mb n s) (k : Keeps F H H') (hF : ∀ j ∈ refBlocks p T M mb n, j ∉ F) : RefAt H' p T M mb n s := by
  obtain ⟨⟨gT, gM, ts, ms, h1, h2, h3, h4, h5, h6, h7⟩, h8, h9, h10, h11, h12, h13⟩ := h
  refine ⟨⟨gT, gM, ts, ms, k.cells h1 (hF _ (mem_refBlocks.2 (.inl rfl))), k.cells h2 (hF _ (mem_refBlocks.2 (.inr (.inl rfl)))), h3, h4, k.cells h5 (hF _ (mem_refBlocks.2 (.inr (.inr (.inl rfl))))), h6, h7⟩, fun i hi => ?_, h9, h10, h11, h12, h13⟩
  obtain ⟨q, h1, h2, h3⟩ := h8 i hi
  exact ⟨q, k.cells h1 (hF _ (mem_refBlocks.2 (.inr (.inr (.inr ⟨i, hi, rfl⟩))))), h2, h3⟩

def mbOf (p i : Nat) : Nat := if i = 0 then p + 2 else p + 3 + i

theorem refGrow {H : Heap} {p T M : Nat} {mb : Nat → Nat} {i : Nat} {s : Sto} (hr : RefAt H p T M mb i s) {gT gM : Nat} {ts ms : List V} {x : ByteArray} {c1 : Blk}
    (g1 : hcells H p 0 = some (true, [.int .i64 s.a, .int .i64 s.b, .bool s.fz, .sl (.at T gT 0) i i 1, .sl (.at M gM 0) i i 1])) (g2 : hcells H T gT = some (true, ts)) (g5 : hcells H M gM = some (true, ms)) (hmb : mb i = H.length) (hx : s.txt i = x) (hz : ∀ k, s.mrk i k = 0) :
    RefAt ((((H.set T (.cells (gT + 1) true (ts ++ [.str x]))).set p c1).set M (.cells (gM + 1) true (ms ++ [.sl (.at H.length 0 0) 4 4 0]))).set p
      (.cells 0 true [.int .i64 s.a, .int .i64 s.b, .bool s.fz, .sl (.at T (gT + 1) 0) (i + 1) (i + 1) 1, .sl (.at M (gM + 1) 0) (i + 1) (i + 1) 1]) ++ [.cells 0 true [.int .i64 0, .int .i64 0, .int .i64 0, .int .i64 0]]) p T M mb (i + 1) s := by
  obtain ⟨⟨gT', gM', ts', ms', f1, f2, f3, f4, f5, f6, f7⟩, f8, f9, f10, f11, f12, f13⟩ := hr
  rw [g1] at f1
  simp only [Option.some.injEq, Prod.mk.injEq, List.cons.injEq, V.sl.injEq, SA.at.injEq, true_and, and_true] at f1
  obtain ⟨rfl, rfl⟩ := f1
  rw [g2] at f2
  rw [g5] at f5
  simp only [Option.some.injEq, Prod.mk.injEq, true_and] at f2 f5
  subst f2 f5
  have hp := hcells_lt g1
  have hT := hcells_lt g2
  have hM := hcells_lt g5
  refine ⟨⟨gT + 1, gM + 1, ts ++ [.str x], ms ++ [.sl (.at H.length 0 0) 4 4 0], ?_, ?_, by simp [f3], fun j hj => ?_, ?_, by simp [f6], fun j hj => ?_⟩, fun j hj => ?_, f9, f10, f11, fun j hj => ?_, fun j k hj hk he => ?_⟩
  · rw [hcells_app (by simpa using hp), hcells_set_eq (by simpa using hp)]
  · rw [hcells_app (by simpa using hT), hcells_set_ne (Ne.symm f9), hcells_set_ne f11, hcells_set_ne (Ne.symm f9), hcells_set_eq hT]
  · by_cases e : j < i
    · rw [List.getElem?_append_left (by omega)]; exact f4 j e
    · obtain rfl : j = i := by omega
      rw [List.getElem?_append_right (by omega), f3, Nat.sub_self, hx]; rfl
  · rw [hcells_app (by simpa using hM), hcells_set_ne (Ne.symm f10), hcells_set_eq (by simpa using hM)]
  · by_cases e : j < i
    · rw [List.getElem?_append_left (by omega)]; exact f7 j e
    · obtain rfl : j = i := by omega
      rw [List.getElem?_append_right (by omega), f6, Nat.sub_self, hmb]; rfl
  · by_cases e : j < i
    · obtain ⟨q, q1, q2, q3⟩ := f8 j e
      obtain ⟨a1, a2, a3⟩ := f12 j e
      refine ⟨q, ?_, q2, q3⟩
      rw [hcells_app (by simpa using hcells_lt q1), hcells_set_ne a1, hcells_set_ne a3, hcells_set_ne a1, hcells_set_ne a2]; exact q1
    · obtain rfl : j = i := by omega
      refine ⟨[.int .i64 0, .int .i64 0, .int .i64 0, .int .i64 0], ?_, rfl, fun k hk => ?_⟩
      · rw [hmb, hcells_ge (by simp)]
        simp only [List.length_set, Nat.sub_self]
        exact grd_t rfl _
      · rw [hz k]
        match k, hk with
        | 0, _ => rfl
        | 1, _ => rfl
        | 2, _ => rfl
        | 3, _ => rfl
  · by_cases e : j < i
    · exact f12 j e
    · obtain rfl : j = i := by omega
      rw [hmb]; omega
  · by_cases e : j < i
    · by_cases e' : k < i
      · exact f13 j k e e' he
      · obtain rfl : k = i := by omega
        obtain ⟨q, q1, _⟩ := f8 j e
        have := hcells_lt q1
        rw [hmb] at he; omega
    · obtain rfl : j = i := by omega
      by_cases e' : k < j
      · obtain ⟨q, q1, _⟩ := f8 k e'
        have := hcells_lt q1
        rw [hmb] at he; omega
      · omega

theorem refNew_at {a b : Int} (h0 : 0 ≤ a) (hab : a < b) (hb : b ≤ 256) (h : Heap) :
    Ev.Ok (D X (.fn 57 []) [.agg [.int .i64 a, .int .i64 b]] h) fun y => ∃ h', y = (.ptr h.length 0 0, h') ∧ Keeps [] h h' ∧ RefAt h' h.length (h.length + 1) (h.length + 3) (mbOf h.length) (b - a).toNat (emptySto a b) := by
  refine Ok.aim fun Q hQ => ?_
  have hQ' := Hid.mk hQ
  clear hQ
  (refine Ok.body body57 pin57 ?_; simp only [c57, Try.f57, Option.getD_some, nslot57, List.append_nil, List.map, List.replicate, List.length_cons, List.length_nil, Nat.reduceAdd, Nat.reduceSub, List.cons_append, List.nil_append])
  (repeat' (first | (simp -implicitDefEqProofs (maxSteps := 1000000) (disch := first | assumption | omega | (simp only [List.length_append, List.length_cons, List.length_nil, List.length_set]; omega)) only [*, reps_s, ty3, ty4, ty9, ty22, ty25, ty26, ty60, ty61, ty62, ty102, slot57, wrap_i64, grd_tr, and_true, true_and, Int.le_refl, evC_seq, evC_region, evC_plan, evC_block, evC_cond, evC_exit, evC_ret, evC_skip, evC_label, evC_loop, loopK_eq, exOps_nil, exOps_cons, wantedT, bnd_s, stepK_t, stepK_f, putK_eq, seqK_n, seqK_e, seqK_r, blockK_n, blockK_e, blockK_r, brK_t, brK_f, bnd_bnd, thenK_eq, ok_some, stopK_eq, beq_f, beq_t, Bool.not_not, cond_true, cond_false, resK_n, resK_r, exOp_move, exOp_assign, exOp_pick, exOp_alloc, exOp_box, exOp_build, exOp_buildSlice, exOp_load, exOp_store, exOp_nilCheck, exOp_binOp, exOp_unOp, exOp_convert, exOp_makeFunc, exOp_makeSlice, exOp_slice, exOp_fieldAddr, exOp_field, exOp_indexAddr, exOp_index, exOp_extract, exOp_builtin, exOp_call, callK_eq, exPure, opd, getT, constT, ofValue, cellsV, newVar, St.put, setT, posT, Option.bind_some, List.getD_cons_zero, List.getD_cons_succ, List.set_cons_zero, List.set_cons_succ, List.getElem?_cons_zero, List.getElem?_cons_succ, List.getElem?_nil, decide_true, decide_false, Nat.reduceEqDiff, fieldAddrV, fieldOff, load, store, lcells, rd, TI.kind, grd_t, Nat.reduceLT, Nat.reduceAdd, and_self, cnd_t, cnd_f, binOp, intOp, Bool.not_true, Bool.not_false, Bool.true_beq, Bool.false_beq, beq_self_eq_true, exPlan_nil, exPlan_cons, entryK_eq, leadK_t, leadK_f, lookK_nil, lookK_cons, leadsT, again, rdV, vsame, vsames, Bool.and_true, Bool.true_and, Op.operands, callops_v, callops_b, List.elem_cons, List.elem_nil, List.toList_toArray, makeSliceV, buildV, fillV, splice, List.zip, List.map_cons, List.map_nil, Nat.reduceBEq, List.all_cons, List.all_nil, List.length_cons, List.length_nil, List.take, List.drop, List.cons_append, List.nil_append, results, resV, isCell, wr, List.set, nilCheckV, Nat.reduceSub, Nat.reduceMul, Nat.mul_one, Nat.zero_add, Nat.add_zero, Nat.le_refl, List.append_nil, allV, builtinV, lenV, indexAddrV, veq_eq, veqM_int, veqM_str, veqM_bool, veqM_p1, veqM_p2, veqM_p3, veqM_s1, veqM_s2, veqM_s3, veqM_s4, veqM_s5, veqM_m1, veqM_m2, veqM_m3, veqM_f1, veqM_f2, veqM_f3, veqM_struct, veqM_arr, veqF_nil, veqF_cons, veqA_nil, veqA_cons, partK_eq, cnd_and, unOp, minmaxV, minmax, sliceV, bound, asInt, idx, idxLe, appendV, copyV, clearV, convV, putBlk, sliceCells, newBlk, buildSliceV, shift, Int.toNat_natCast, Option.isSome_none, Option.isNone_none, Option.isSome_some, Option.isNone_some, Bool.or_false, Bool.or_true, Bool.true_or, Bool.false_or, Bool.and_false, Bool.false_and, unrK_n, unrK_e, unrK_r, hcells_app, hcells_ge, hcells_c0, hcells_cs, heap_set_ge, heap_set_lt, Nat.add_sub_cancel_left, Nat.sub_self, List.append_assoc, hcells_set_ne, hcells_set_eq, evC_rf, rfK_eq, reduceCtorEq, Int.reduceLT, Int.reduceLE, Int.reduceAdd, Int.reduceSub, Int.reduceNeg, Int.reduceToNat, Int.reduceEq, nat_cast_0, nat_cast_1, List.length_append, List.length_set, Nat.reduceLeDiff, List.replicate_zero, List.flatten_nil, itT, itF, reps_0, reps_1, arr_empty, asgK_n, asgM_s, endRound_eq, endM_n, endM_r, endM_e, loopAt_set_ne, loopAt_set_eq, loopAt_app, List.set_set, or_true, true_or, or_false, false_or, loopAt_ge, loopAt_c0, loopAt_cs, endRF_eq, endFM_n, endFM_r, endFM_e]) | ((with_reducible (first | refine Ok.br ?_ ?_ | refine Ok.gd ?_ ?_ | refine Ok.ld ?_ ?_)) <;> (intro g; (try simp only [decide_eq_true_eq, decide_eq_false_iff_not, beq_f, beq_t, Bool.not_eq_true', Bool.not_eq_false', Bool.not_not, Bool.false_eq_true, Bool.true_eq_false] at g); (first | (exfalso; omega) | skip)))))
  (refine Ok.unroll ?_; (repeat' (first | (simp -implicitDefEqProofs (maxSteps := 1000000) (disch := first | assumption | omega | (simp only [List.length_append, List.length_cons, List.length_nil, List.length_set]; omega)) only [*, reps_s, ty3, ty4, ty9, ty22, ty25, ty26, ty60, ty61, ty62, ty102, slot57, wrap_i64, grd_tr, and_true, true_and, Int.le_refl, evC_seq, evC_region, evC_plan, evC_block, evC_cond, evC_exit, evC_ret, evC_skip, evC_label, evC_loop, loopK_eq, exOps_nil, exOps_cons, wantedT, bnd_s, stepK_t, stepK_f, putK_eq, seqK_n, seqK_e, seqK_r, blockK_n, blockK_e, blockK_r, brK_t, brK_f, bnd_bnd, thenK_eq, ok_some, stopK_eq, beq_f, beq_t, Bool.not_not, cond_true, cond_false, resK_n, resK_r, exOp_move, exOp_assign, exOp_pick, exOp_alloc, exOp_box, exOp_build, exOp_buildSlice, exOp_load, exOp_store, exOp_nilCheck, exOp_binOp, exOp_unOp, exOp_convert, exOp_makeFunc, exOp_makeSlice, exOp_slice, exOp_fieldAddr, exOp_field, exOp_indexAddr, exOp_index, exOp_extract, exOp_builtin, exOp_call, callK_eq, exPure, opd, getT, constT, ofValue, cellsV, newVar, St.put, setT, posT, Option.bind_some, List.getD_cons_zero, List.getD_cons_succ, List.set_cons_zero, List.set_cons_succ, List.getElem?_cons_zero, List.getElem?_cons_succ, List.getElem?_nil, decide_true, decide_false, Nat.reduceEqDiff, fieldAddrV, fieldOff, load, store, lcells, rd, TI.kind, grd_t, Nat.reduceLT, Nat.reduceAdd, and_self, cnd_t, cnd_f, binOp, intOp, Bool.not_true, Bool.not_false, Bool.true_beq, Bool.false_beq, beq_self_eq_true, exPlan_nil, exPlan_cons, entryK_eq, leadK_t, leadK_f, lookK_nil, lookK_cons, leadsT, again, rdV, vsame, vsames, Bool.and_true, Bool.true_and, Op.operands, callops_v, callops_b, List.elem_cons, List.elem_nil, List.toList_toArray, makeSliceV, buildV, fillV, splice, List.zip, List.map_cons, List.map_nil, Nat.reduceBEq, List.all_cons, List.all_nil, List.length_cons, List.length_nil, List.take, List.drop, List.cons_append, List.nil_append, results, resV, isCell, wr, List.set, nilCheckV, Nat.reduceSub, Nat.reduceMul, Nat.mul_one, Nat.zero_add, Nat.add_zero, Nat.le_refl, List.append_nil, allV, builtinV, lenV, indexAddrV, veq_eq, veqM_int, veqM_str, veqM_bool, veqM_p1, veqM_p2, veqM_p3, veqM_s1, veqM_s2, veqM_s3, veqM_s4, veqM_s5, veqM_m1, veqM_m2, veqM_m3, veqM_f1, veqM_f2, veqM_f3, veqM_struct, veqM_arr, veqF_nil, veqF_cons, veqA_nil, veqA_cons, partK_eq, cnd_and, unOp, minmaxV, minmax, sliceV, bound, asInt, idx, idxLe, appendV, copyV, clearV, convV, putBlk, sliceCells, newBlk, buildSliceV, shift, Int.toNat_natCast, Option.isSome_none, Option.isNone_none, Option.isSome_some, Option.isNone_some, Bool.or_false, Bool.or_true, Bool.true_or, Bool.false_or, Bool.and_false, Bool.false_and, unrK_n, unrK_e, unrK_r, hcells_app, hcells_ge, hcells_c0, hcells_cs, heap_set_ge, heap_set_lt, Nat.add_sub_cancel_left, Nat.sub_self, List.append_assoc, hcells_set_ne, hcells_set_eq, evC_rf, rfK_eq, reduceCtorEq, Int.reduceLT, Int.reduceLE, Int.reduceAdd, Int.reduceSub, Int.reduceNeg, Int.reduceToNat, Int.reduceEq, nat_cast_0, nat_cast_1, List.length_append, List.length_set, Nat.reduceLeDiff, List.replicate_zero, List.flatten_nil, itT, itF, reps_0, reps_1, arr_empty, asgK_n, asgM_s, endRound_eq, endM_n, endM_r, endM_e, loopAt_set_ne, loopAt_set_eq, loopAt_app, List.set_set, or_true, true_or, or_false, false_or, loopAt_ge, loopAt_c0, loopAt_cs, endRF_eq, endFM_n, endFM_r, endFM_e]) | ((with_reducible (first | refine Ok.br ?_ ?_ | refine Ok.gd ?_ ?_ | refine Ok.ld ?_ ?_)) <;> (intro g; (try simp only [decide_eq_true_eq, decide_eq_false_iff_not, beq_f, beq_t, Bool.not_eq_true', Bool.not_eq_false', Bool.not_not, Bool.false_eq_true, Bool.true_eq_false] at g); (first | (exfalso; omega) | skip))))))

  refine Ok.loop [false, false, false, false, true, false, false, false, false, false, true, true, true, true, true, true, true, true, true, true, true, true, true, true, true, true, true, true, true, true, true, true, true, true, true, false] (fun n s => ∃ i : Nat, n = (b - a).toNat - i ∧ 1 ≤ i ∧ i ≤ (b - a).toNat ∧ tv s.e 4 = .v (.int .i64 (a + i)) ∧ (∃ x1 x2, s.l = [(1, [.int .i64 a, .int .i64 b]), x1, x2]) ∧ Keeps [] h s.h ∧ s.h.length = h.length + 3 + i ∧ RefAt s.h h.length (h.length + 1) (h.length + 3) (mbOf h.length) i (emptySto a b))
    (fun x s => x = .exit 0 ∧ (∃ x1 x2, s.l = [(1, [.int .i64 a, .int .i64 b]), x1, x2]) ∧ Keeps [] h s.h ∧ RefAt s.h h.length (h.length + 1) (h.length + 3) (mbOf h.length) (b - a).toNat (emptySto a b)) ((b - a).toNat - 1) ⟨1, rfl, by omega, by omega, rfl, ⟨_, _, rfl⟩, .app _ _ _, by simp, ?_⟩ ?_ ?_
  · refine ⟨⟨0, 0, [.str ⟨#[]⟩], [.sl (.at (h.length + 2) 0 0) 4 4 0], ?_, ?_, rfl, ?_, ?_, rfl, ?_⟩, ?_, by omega, by omega, by omega, ?_, ?_⟩
    · dsimp only; rw [hcells_ge (by omega)]; simp only [Nat.sub_self, Nat.add_sub_cancel_left]; exact grd_t rfl _
    · dsimp only; rw [hcells_ge (by omega)]; simp only [Nat.sub_self, Nat.add_sub_cancel_left]; exact grd_t rfl _
    · intro i hi; obtain rfl : i = 0 := by omega
      rfl
    · dsimp only; rw [hcells_ge (by omega)]; simp only [Nat.sub_self, Nat.add_sub_cancel_left]; exact grd_t rfl _
    · intro i hi; obtain rfl : i = 0 := by omega
      rfl
    · intro i hi; obtain rfl : i = 0 := by omega
      refine ⟨[.int .i64 0, .int .i64 0, .int .i64 0, .int .i64 0], ?_, rfl, fun k hk => ?_⟩
      · rw [show mbOf h.length 0 = h.length + 2 from rfl]
        dsimp only; rw [hcells_ge (by omega)]; simp only [Nat.sub_self, Nat.add_sub_cancel_left]; exact grd_t rfl _
      · match k, hk with
        | 0, _ => rfl
        | 1, _ => rfl
        | 2, _ => rfl
        | 3, _ => rfl
    · intro i hi; obtain rfl : i = 0 := by omega
      rw [show mbOf h.length 0 = h.length + 2 from rfl]
      omega
    · intro i j hi hj _; omega
  · intro n ⟨e', l', H⟩ hW ⟨i, hn, hi1, hi, h4, ⟨x1, x2, h2⟩, hk, hlen, hr⟩
    dsimp only at hW h4 h2 hk hlen hr
    subst l'
    rw [hW.spread]
    simp only [spread_t, spread_f, spread_n, Nat.zero_add, Nat.reduceAdd, h4]
    by_cases hlt : i < (b - a).toNat
    · have hlt' : a + (i : Int) < b := by omega
      obtain ⟨⟨gT, gM, ts, ms, g1, g2, g3, g4, g5, g6, g7⟩, g8, g9, g10, g11, g12, g13⟩ := id hr
      have hr' := Hid.mk hr
      have hk' := Hid.mk hk
      have hlen' := Hid.mk hlen
      have t1 : h.length < H.length := by omega
      have t2 : h.length + 1 < H.length := by omega
      have t3 : h.length + 3 < H.length := by omega
      have e5 : ¬ i + 1 ≤ i := by omega
      have e6 : ts.take i = ts := List.take_of_length_le (by omega)
      have e7 : ms.take i = ms := List.take_of_length_le (by omega)
      obtain ⟨k1, y1⟩ := x1
      obtain ⟨k2, y2⟩ := x2
      clear hr hk hlen g4 g7 g8 g12 g13 hlt
      (repeat' (first | (simp -implicitDefEqProofs (maxSteps := 1000000) (disch := first | assumption | omega | (simp only [List.length_append, List.length_cons, List.length_nil, List.length_set]; omega)) only [*, reps_s, ty3, ty4, ty9, ty22, ty25, ty26, ty60, ty61, ty62, ty102, slot57, wrap_i64, grd_tr, and_true, true_and, Int.le_refl, evC_seq, evC_region, evC_plan, evC_block, evC_cond, evC_exit, evC_ret, evC_skip, evC_label, evC_loop, loopK_eq, exOps_nil, exOps_cons, wantedT, bnd_s, stepK_t, stepK_f, putK_eq, seqK_n, seqK_e, seqK_r, blockK_n, blockK_e, blockK_r, brK_t, brK_f, bnd_bnd, thenK_eq, ok_some, stopK_eq, beq_f, beq_t, Bool.not_not, cond_true, cond_false, resK_n, resK_r, exOp_move, exOp_assign, exOp_pick, exOp_alloc, exOp_box, exOp_build, exOp_buildSlice, exOp_load, exOp_store, exOp_nilCheck, exOp_binOp, exOp_unOp, exOp_convert, exOp_makeFunc, exOp_makeSlice, exOp_slice, exOp_fieldAddr, exOp_field, exOp_indexAddr, exOp_index, exOp_extract, exOp_builtin, exOp_call, callK_eq, exPure, opd, getT, constT, ofValue, cellsV, newVar, St.put, setT, posT, Option.bind_some, List.getD_cons_zero, List.getD_cons_succ, List.set_cons_zero, List.set_cons_succ, List.getElem?_cons_zero, List.getElem?_cons_succ, List.getElem?_nil, decide_true, decide_false, Nat.reduceEqDiff, fieldAddrV, fieldOff, load, store, lcells, rd, TI.kind, grd_t, Nat.reduceLT, Nat.reduceAdd, and_self, cnd_t, cnd_f, binOp, intOp, Bool.not_true, Bool.not_false, Bool.true_beq, Bool.false_beq, beq_self_eq_true, exPlan_nil, exPlan_cons, entryK_eq, leadK_t, leadK_f, lookK_nil, lookK_cons, leadsT, again, rdV, vsame, vsames, Bool.and_true, Bool.true_and, Op.operands, callops_v, callops_b, List.elem_cons, List.elem_nil, List.toList_toArray, makeSliceV, buildV, fillV, splice, List.zip, List.map_cons, List.map_nil, Nat.reduceBEq, List.all_cons, List.all_nil, List.length_cons, List.length_nil, List.take, List.drop, List.cons_append, List.nil_append, results, resV, isCell, wr, List.set, nilCheckV, Nat.reduceSub, Nat.reduceMul, Nat.mul_one, Nat.zero_add, Nat.add_zero, Nat.le_refl, List.append_nil, allV, builtinV, lenV, indexAddrV, veq_eq, veqM_int, veqM_str, veqM_bool, veqM_p1, veqM_p2, veqM_p3, veqM_s1, veqM_s2, veqM_s3, veqM_s4, veqM_s5, veqM_m1, veqM_m2, veqM_m3, veqM_f1, veqM_f2, veqM_f3, veqM_struct, veqM_arr, veqF_nil, veqF_cons, veqA_nil, veqA_cons, partK_eq, cnd_and, unOp, minmaxV, minmax, sliceV, bound, asInt, idx, idxLe, appendV, copyV, clearV, convV, putBlk, sliceCells, newBlk, buildSliceV, shift, Int.toNat_natCast, Option.isSome_none, Option.isNone_none, Option.isSome_some, Option.isNone_some, Bool.or_false, Bool.or_true, Bool.true_or, Bool.false_or, Bool.and_false, Bool.false_and, unrK_n, unrK_e, unrK_r, hcells_app, hcells_ge, hcells_c0, hcells_cs, heap_set_ge, heap_set_lt, Nat.add_sub_cancel_left, Nat.sub_self, List.append_assoc, hcells_set_ne, hcells_set_eq, evC_rf, rfK_eq, reduceCtorEq, Int.reduceLT, Int.reduceLE, Int.reduceAdd, Int.reduceSub, Int.reduceNeg, Int.reduceToNat, Int.reduceEq, nat_cast_0, nat_cast_1, List.length_append, List.length_set, Nat.reduceLeDiff, List.replicate_zero, List.flatten_nil, itT, itF, reps_0, reps_1, arr_empty, asgK_n, asgM_s, endRound_eq, endM_n, endM_r, endM_e, loopAt_set_ne, loopAt_set_eq, loopAt_app, List.set_set, or_true, true_or, or_false, false_or, loopAt_ge, loopAt_c0, loopAt_cs, endRF_eq, endFM_n, endFM_r, endFM_e]) | ((with_reducible (first | refine Ok.br ?_ ?_ | refine Ok.gd ?_ ?_ | refine Ok.ld ?_ ?_)) <;> (intro g; (try simp only [decide_eq_true_eq, decide_eq_false_iff_not, beq_f, beq_t, Bool.not_eq_true', Bool.not_eq_false', Bool.not_not, Bool.false_eq_true, Bool.true_eq_false] at g); (first | (exfalso; omega) | skip)))))
      have hmb : mbOf h.length i = H.length := by rw [hlen'.out]; unfold mbOf; rw [if_neg (by omega)]
      refine Turn.next ((b - a).toNat - (i + 1)) (by omega) ⟨rfl, i + 1, rfl, by omega, by omega, by show TV.v (.int .i64 (a + i + 1)) = .v (.int .i64 (a + ((i + 1 : Nat) : Int))); congr 2; omega, ⟨_, _, rfl⟩, ?_, ?_, ?_⟩
      · exact hk'.out.wide (G := [h.length, h.length + 1, h.length + 3]) (((((Keeps.set (.refl _ _) (.inl (by simp)) _).set (.inl (by simp)) _).set (.inl (by simp)) _).set (.inl (by simp)) _).snoc _) (fun j hj hlt => by simp at hj; omega)
      · simp only [List.length_append, List.length_set, List.length_cons, List.length_nil]; rw [hlen'.out]; omega
      · exact refGrow hr'.out g1 g2 g5 hmb rfl (fun _ => rfl)
    · have hlt' : ¬ a + (i : Int) < b := by omega
      obtain rfl : i = (b - a).toNat := by omega
      have hr' := Hid.mk hr
      have hk' := Hid.mk hk
      clear hr hk hlen
      (repeat' (first | (simp -implicitDefEqProofs (maxSteps := 1000000) (disch := first | assumption | omega | (simp only [List.length_append, List.length_cons, List.length_nil, List.length_set]; omega)) only [*, reps_s, ty3, ty4, ty9, ty22, ty25, ty26, ty60, ty61, ty62, ty102, slot57, wrap_i64, grd_tr, and_true, true_and, Int.le_refl, evC_seq, evC_region, evC_plan, evC_block, evC_cond, evC_exit, evC_ret, evC_skip, evC_label, evC_loop, loopK_eq, exOps_nil, exOps_cons, wantedT, bnd_s, stepK_t, stepK_f, putK_eq, seqK_n, seqK_e, seqK_r, blockK_n, blockK_e, blockK_r, brK_t, brK_f, bnd_bnd, thenK_eq, ok_some, stopK_eq, beq_f, beq_t, Bool.not_not, cond_true, cond_false, resK_n, resK_r, exOp_move, exOp_assign, exOp_pick, exOp_alloc, exOp_box, exOp_build, exOp_buildSlice, exOp_load, exOp_store, exOp_nilCheck, exOp_binOp, exOp_unOp, exOp_convert, exOp_makeFunc, exOp_makeSlice, exOp_slice, exOp_fieldAddr, exOp_field, exOp_indexAddr, exOp_index, exOp_extract, exOp_builtin, exOp_call, callK_eq, exPure, opd, getT, constT, ofValue, cellsV, newVar, St.put, setT, posT, Option.bind_some, List.getD_cons_zero, List.getD_cons_succ, List.set_cons_zero, List.set_cons_succ, List.getElem?_cons_zero, List.getElem?_cons_succ, List.getElem?_nil, decide_true, decide_false, Nat.reduceEqDiff, fieldAddrV, fieldOff, load, store, lcells, rd, TI.kind, grd_t, Nat.reduceLT, Nat.reduceAdd, and_self, cnd_t, cnd_f, binOp, intOp, Bool.not_true, Bool.not_false, Bool.true_beq, Bool.false_beq, beq_self_eq_true, exPlan_nil, exPlan_cons, entryK_eq, leadK_t, leadK_f, lookK_nil, lookK_cons, leadsT, again, rdV, vsame, vsames, Bool.and_true, Bool.true_and, Op.operands, callops_v, callops_b, List.elem_cons, List.elem_nil, List.toList_toArray, makeSliceV, buildV, fillV, splice, List.zip, List.map_cons, List.map_nil, Nat.reduceBEq, List.all_cons, List.all_nil, List.length_cons, List.length_nil, List.take, List.drop, List.cons_append, List.nil_append, results, resV, isCell, wr, List.set, nilCheckV, Nat.reduceSub, Nat.reduceMul, Nat.mul_one, Nat.zero_add, Nat.add_zero, Nat.le_refl, List.append_nil, allV, builtinV, lenV, indexAddrV, veq_eq, veqM_int, veqM_str, veqM_bool, veqM_p1, veqM_p2, veqM_p3, veqM_s1, veqM_s2, veqM_s3, veqM_s4, veqM_s5, veqM_m1, veqM_m2, veqM_m3, veqM_f1, veqM_f2, veqM_f3, veqM_struct, veqM_arr, veqF_nil, veqF_cons, veqA_nil, veqA_cons, partK_eq, cnd_and, unOp, minmaxV, minmax, sliceV, bound, asInt, idx, idxLe, appendV, copyV, clearV, convV, putBlk, sliceCells, newBlk, buildSliceV, shift, Int.toNat_natCast, Option.isSome_none, Option.isNone_none, Option.isSome_some, Option.isNone_some, Bool.or_false, Bool.or_true, Bool.true_or, Bool.false_or, Bool.and_false, Bool.false_and, unrK_n, unrK_e, unrK_r, hcells_app, hcells_ge, hcells_c0, hcells_cs, heap_set_ge, heap_set_lt, Nat.add_sub_cancel_left, Nat.sub_self, List.append_assoc, hcells_set_ne, hcells_set_eq, evC_rf, rfK_eq, reduceCtorEq, Int.reduceLT, Int.reduceLE, Int.reduceAdd, Int.reduceSub, Int.reduceNeg, Int.reduceToNat, Int.reduceEq, nat_cast_0, nat_cast_1, List.length_append, List.length_set, Nat.reduceLeDiff, List.replicate_zero, List.flatten_nil, itT, itF, reps_0, reps_1, arr_empty, asgK_n, asgM_s, endRound_eq, endM_n, endM_r, endM_e, loopAt_set_ne, loopAt_set_eq, loopAt_app, List.set_set, or_true, true_or, or_false, false_or, loopAt_ge, loopAt_c0, loopAt_cs, endRF_eq, endFM_n, endFM_r, endFM_e]) | ((with_reducible (first | refine Ok.br ?_ ?_ | refine Ok.gd ?_ ?_ | refine Ok.ld ?_ ?_)) <;> (intro g; (try simp only [decide_eq_true_eq, decide_eq_false_iff_not, beq_f, beq_t, Bool.not_eq_true', Bool.not_eq_false', Bool.not_not, Bool.false_eq_true, Bool.true_eq_false] at g); (first | (exfalso; omega) | skip)))))
      exact Turn.exit ⟨rfl, rfl, ⟨_, _, rfl⟩, hk'.out, hr'.out⟩
  · intro x ⟨e', l', H⟩ hW ⟨hx, ⟨x1, x2, h2⟩, hk, hr⟩
    dsimp only at hW h2 hk hr
    subst l' hx
    rw [hW.spread]
    clear hW
    simp only [spread_t, spread_f, spread_n, Nat.zero_add, Nat.reduceAdd]
    have hr' := Hid.mk hr
    have hk' := Hid.mk hk
    clear hr hk
    (repeat' (first | (simp -implicitDefEqProofs (maxSteps := 1000000) (disch := first | assumption | omega | (simp only [List.length_append, List.length_cons, List.length_nil, List.length_set]; omega)) only [*, reps_s, ty3, ty4, ty9, ty22, ty25, ty26, ty60, ty61, ty62, ty102, slot57, wrap_i64, grd_tr, and_true, true_and, Int.le_refl, evC_seq, evC_region, evC_plan, evC_block, evC_cond, evC_exit, evC_ret, evC_skip, evC_label, evC_loop, loopK_eq, exOps_nil, exOps_cons, wantedT, bnd_s, stepK_t, stepK_f, putK_eq, seqK_n, seqK_e, seqK_r, blockK_n, blockK_e, blockK_r, brK_t, brK_f, bnd_bnd, thenK_eq, ok_some, stopK_eq, beq_f, beq_t, Bool.not_not, cond_true, cond_false, resK_n, resK_r, exOp_move, exOp_assign, exOp_pick, exOp_alloc, exOp_box, exOp_build, exOp_buildSlice, exOp_load, exOp_store, exOp_nilCheck, exOp_binOp, exOp_unOp, exOp_convert, exOp_makeFunc, exOp_makeSlice, exOp_slice, exOp_fieldAddr, exOp_field, exOp_indexAddr, exOp_index, exOp_extract, exOp_builtin, exOp_call, callK_eq, exPure, opd, getT, constT, ofValue, cellsV, newVar, St.put, setT, posT, Option.bind_some, List.getD_cons_zero, List.getD_cons_succ, List.set_cons_zero, List.set_cons_succ, List.getElem?_cons_zero, List.getElem?_cons_succ, List.getElem?_nil, decide_true, decide_false, Nat.reduceEqDiff, fieldAddrV, fieldOff, load, store, lcells, rd, TI.kind, grd_t, Nat.reduceLT, Nat.reduceAdd, and_self, cnd_t, cnd_f, binOp, intOp, Bool.not_true, Bool.not_false, Bool.true_beq, Bool.false_beq, beq_self_eq_true, exPlan_nil, exPlan_cons, entryK_eq, leadK_t, leadK_f, lookK_nil, lookK_cons, leadsT, again, rdV, vsame, vsames, Bool.and_true, Bool.true_and, Op.operands, callops_v, callops_b, List.elem_cons, List.elem_nil, List.toList_toArray, makeSliceV, buildV, fillV, splice, List.zip, List.map_cons, List.map_nil, Nat.reduceBEq, List.all_cons, List.all_nil, List.length_cons, List.length_nil, List.take, List.drop, List.cons_append, List.nil_append, results, resV, isCell, wr, List.set, nilCheckV, Nat.reduceSub, Nat.reduceMul, Nat.mul_one, Nat.zero_add, Nat.add_zero, Nat.le_refl, List.append_nil, allV, builtinV, lenV, indexAddrV, veq_eq, veqM_int, veqM_str, veqM_bool, veqM_p1, veqM_p2, veqM_p3, veqM_s1, veqM_s2, veqM_s3, veqM_s4, veqM_s5, veqM_m1, veqM_m2, veqM_m3, veqM_f1, veqM_f2, veqM_f3, veqM_struct, veqM_arr, veqF_nil, veqF_cons, veqA_nil, veqA_cons, partK_eq, cnd_and, unOp, minmaxV, minmax, sliceV, bound, asInt, idx, idxLe, appendV, copyV, clearV, convV, putBlk, sliceCells, newBlk, buildSliceV, shift, Int.toNat_natCast, Option.isSome_none, Option.isNone_none, Option.isSome_some, Option.isNone_some, Bool.or_false, Bool.or_true, Bool.true_or, Bool.false_or, Bool.and_false, Bool.false_and, unrK_n, unrK_e, unrK_r, hcells_app, hcells_ge, hcells_c0, hcells_cs, heap_set_ge, heap_set_lt, Nat.add_sub_cancel_left, Nat.sub_self, List.append_assoc, hcells_set_ne, hcells_set_eq, evC_rf, rfK_eq, reduceCtorEq, Int.reduceLT, Int.reduceLE, Int.reduceAdd, Int.reduceSub, Int.reduceNeg, Int.reduceToNat, Int.reduceEq, nat_cast_0, nat_cast_1, List.length_append, List.length_set, Nat.reduceLeDiff, List.replicate_zero, List.flatten_nil, itT, itF, reps_0, reps_1, arr_empty, asgK_n, asgM_s, endRound_eq, endM_n, endM_r, endM_e, loopAt_set_ne, loopAt_set_eq, loopAt_app, List.set_set, or_true, true_or, or_false, false_or, loopAt_ge, loopAt_c0, loopAt_cs, endRF_eq, endFM_n, endFM_r, endFM_e]) | ((with_reducible (first | refine Ok.br ?_ ?_ | refine Ok.gd ?_ ?_ | refine Ok.ld ?_ ?_)) <;> (intro g; (try simp only [decide_eq_true_eq, decide_eq_false_iff_not, beq_f, beq_t, Bool.not_eq_true', Bool.not_eq_false', Bool.not_not, Bool.false_eq_true, Bool.true_eq_false] at g); (first | (exfalso; omega) | skip)))))
    exact hQ'.out _ ⟨_, rfl, hk'.out, hr'.out⟩
end Go.Ev
