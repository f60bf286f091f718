/-
play: a store, and the document's, under some commands.
-/
import Derived.Test.YtennoblijpfacaaRefApply
import Derived.Test.YtennoblijpfacaaSmall
set_option linter.unusedSimpArgs false
set_option linter.unusedVariables false
set_option maxRecDepth 100000
namespace Go.Ev
open Go.Proofs

theorem apply_span (s : Sto) (o c q f t : Int) (l : List ByteArray) : (s.apply o c q f t l).1.a = s.a ∧ (s.apply o c q f t l).1.b = s.b := by
  unfold Sto.apply
  split
  · exact ⟨rfl, rfl⟩
  · split
    · exact ⟨rfl, rfl⟩
    · split
      · exact ⟨rfl, rfl⟩
      · split <;> exact ⟨rfl, rfl⟩

theorem apply_len (s : Sto) (o c q f t : Int) (l : List ByteArray) : (s.apply o c q f t l).2.2.1.length ≤ 300 := by
  unfold Sto.apply
  split
  · simp
  · split
    · simp
    · split
      · simp
      · split
        · simp
        · rename_i h1 h2 h3 h4
          have h1' : mayP o c q f t l := by simpa using h1
          unfold mayP at h1'
          show (s.data o f t).length ≤ 300
          unfold Sto.data
          split
          · simp; omega
          · simp

/-- A command. -/
structure Cm where
  o : Int
  c : Int
  q : Int
  f : Int
  t : Int
  v : V
  l : List ByteArray

/-- Commands in memory. -/
def CmdsAt (h : Heap) (v : V) (L : List Cm) : Prop :=
  ∃ a cap z, v = .sl a L.length cap z ∧ L.length ≤ 9223372036854775807 ∧ (∀ x ∈ L, StrsAt h x.v x.l) ∧ (L = [] ∨ ∃ b g o rw full, a = .at b g o ∧ hcells h b g = some (rw, full) ∧
    ∀ (i : Nat) (x : Cm), L[i]? = some x → (full.drop (o + i * 6)).take 6 = cmdV x.o x.c x.q x.f x.t x.v ∧ o + i * 6 + 6 ≤ full.length)

/-- Two stores that are one. -/
structure Both (h0 H : Heap) (ps cb pr T M : Nat) (mb : Nat → Nat) (n : Nat) (s : Sto) : Prop where
  st : StoreAt H ps cb 0 s
  rf : RefAt H pr T M mb n s
  kp : Keeps [] h0 H
  hn : s.n = n
  apart : ps ∉ refBlocks pr T M mb n ∧ cb ∉ refBlocks pr T M mb n
  new : h0.length ≤ ps ∧ h0.length ≤ cb ∧ ∀ j ∈ refBlocks pr T M mb n, h0.length ≤ j

theorem away_nil (v : V) : Away [] v := by unfold Away; split <;> simp

theorem away_of {h H : Heap} {v : V} {l : List ByteArray} (hv : StrsAt h v l) {F : List Nat} (hF : ∀ j ∈ F, h.length ≤ j) : l ≠ [] → Away F v := by
  intro hne
  obtain ⟨a, cap, z, rfl, _, _, h3⟩ := hv
  rcases h3 with h3 | ⟨b, g, o, rw, full, rfl, hb, _⟩
  · exact absurd h3 hne
  · intro hm
    have := hF _ hm
    have := hcells_lt hb
    omega

/-- One command on both. -/
theorem both_step {h0 H : Heap} {ps cb pr T M : Nat} {mb : Nat → Nat} {n : Nat} {s : Sto} (hb : Both h0 H ps cb pr T M mb n s) {o c q f t : Int} {v : V} {l : List ByteArray} (hv : StrsAt h0 v l) :
    ∃ k dv1 H1 dv2 H2 e, D X (.fn 22 []) [.ptr ps 0 0, .agg (cmdV o c q f t v)] H = some (.tup [.agg [.bool k, dv1], .int .i64 e], H1) ∧
      D X (.fn 58 []) [.ptr pr 0 0, .agg (cmdV o c q f t v)] H1 = some (.tup [.agg [.bool k, dv2], .int .i64 e], H2) ∧
      D X (.fn 32 []) [.agg [.bool k, dv1], .agg [.bool k, dv2]] H2 = some (.bool true, H2) ∧ Both h0 H2 ps cb pr T M mb n (s.apply o c q f t l).1 := by
  obtain ⟨hst, hrf, hk, hn, ⟨ha1, ha2⟩, hn1, hn2, hn3⟩ := hb
  have hok : s.Ok := by obtain ⟨_, _, _, _, _, _, _, h⟩ := hst; exact h.toOk
  have hv1 := hv.keeps hk (fun _ => away_nil v)
  obtain ⟨y1, ey1, H1, dv1, rfl, w1, w2, w3⟩ := apply_at (o := o) (c := c) (q := q) (f := f) (t := t) hst hv1 (away_of (H := H) hv (by intro j hj; simp at hj; rcases hj with rfl | rfl <;> assumption))
  have hF1 : ∀ j ∈ refBlocks pr T M mb n, j ∉ [ps, cb] := by
    intro j hj hm
    simp at hm
    rcases hm with rfl | rfl
    · exact ha1 hj
    · exact ha2 hj
  have hrf1 := hrf.keeps w2 hF1
  have hk1 : Keeps [] h0 H1 := hk.wide w2 (by intro j hj hlt; simp at hj; omega)
  have hv2 := hv.keeps hk1 (fun _ => away_nil v)
  subst hn
  obtain ⟨y2, ey2, H2, dv2, rfl, x1, x2, x3⟩ := refApply_at (o := o) (c := c) (q := q) (f := f) (t := t) hrf1 hok hv2 (away_of (H := H) hv hn3)
  have hlt : ∀ j ∈ refBlocks pr T M mb s.n, j < H.length := hrf.lt
  have w3' := w3.keeps x2 hlt
  have hsame := sameReply_at (k := (s.apply o c q f t l).2.1) (w3'.strs (by have := apply_len s o c q f t l; omega)) (x3.strs (by have := apply_len s o c q f t l; omega))
  refine ⟨_, dv1, H1, dv2, H2, _, ey1, ey2, hsame, ⟨w1.keeps x2 ha1 ha2, x1, hk1.wide x2 (fun j hj hlt' => by have := hn3 j hj; omega), ?_, ⟨ha1, ha2⟩, hn1, hn2, hn3⟩⟩
  unfold Sto.n
  rw [(apply_span s o c q f t l).1, (apply_span s o c q f t l).2]
theorem mbOf_ge (p i : Nat) : p ≤ mbOf p i := by unfold mbOf; split <;> omega

set_option maxHeartbeats 4000000 in
theorem play_at {a b : Int} (h0 : 0 ≤ a) (hab : a < b) (hb : b ≤ 256) {h : Heap} {v : V} {L : List Cm} (hL : CmdsAt h v L) (most : Int) :
    Ev.Ok (D X (.fn 27 []) [.agg [.int .i64 a, .int .i64 b], v, .int .i64 most] h) fun y => ∃ H ps cb pr T M mb s, y = (.tup [.ptr ps 0 0, .ptr pr 0 0, .bool true], H) ∧ Both h H ps cb pr T M mb s.n s ∧ s.a = a ∧ s.b = b := by
  refine Ok.aim fun Q hQ => ?_
  have hQ' := Hid.mk hQ
  clear hQ
  obtain ⟨⟨v1, h1⟩, en, h1', e1, hk1, hl1, hst⟩ := new_store h0 hab hb h
  simp only [Prod.mk.injEq] at e1
  obtain ⟨rfl, rfl⟩ := e1
  obtain ⟨⟨v2, h2⟩, er, h2', e2, hk2, hrf⟩ := refNew_at h0 hab hb h1
  simp only [Prod.mk.injEq] at e2
  obtain ⟨rfl, rfl⟩ := e2
  have hn : (emptySto a b).n = (b - a).toNat := rfl
  have hge : ∀ j ∈ refBlocks h1.length (h1.length + 1) (h1.length + 3) (mbOf h1.length) (b - a).toNat, h1.length ≤ j := by
    intro j hj
    rcases mem_refBlocks.1 hj with rfl | rfl | rfl | ⟨i, hi, rfl⟩
    · omega
    · omega
    · omega
    · exact mbOf_ge _ _
  have hB : Both h h2 (h.length + 1) h.length h1.length (h1.length + 1) (h1.length + 3) (mbOf h1.length) (b - a).toNat (emptySto a b) :=
    ⟨hst.keeps hk2 (by simp) (by simp), hrf, hk1.trans hk2, rfl, ⟨fun hm => by have := hge _ hm; omega, fun hm => by have := hge _ hm; omega⟩, ⟨by omega, by omega, fun j hj => by have := hge _ hj; omega⟩⟩
  obtain ⟨ps, hps⟩ : ∃ ps, ps = h.length + 1 := ⟨_, rfl⟩
  rw [← hps] at en hB
  clear hst hk1 hk2 hrf hge hl1 hn hps
  generalize h1.length = pr at er hB
  generalize pr + 1 = T at hB
  generalize pr + 3 = M at hB
  generalize mbOf pr = mb at hB
  generalize h.length = cb at hB
  have hB' := Hid.mk hB
  clear hB
  obtain ⟨sa, cap, z, rfl, hll, hcs, hcl⟩ := hL
  have hcs' := Hid.mk hcs
  have hcl' := Hid.mk hcl
  clear hcs hcl
  (refine Ok.body body27 pin27 ?_; simp only [c27, Try.f27, Option.getD_some, nslot27, List.append_nil, List.map, List.replicate, List.length_cons, List.length_nil, Nat.reduceAdd, Nat.reduceSub, List.cons_append, List.nil_append])
  (repeat' (first | (simp -implicitDefEqProofs (maxSteps := 1000000) (disch := first | assumption | omega | (simp only [List.length_append, List.length_cons, List.length_nil, List.length_set]; omega)) only [*, lenV, ty3, ty4, ty9, ty22, ty23, ty24, ty25, ty26, ty29, ty30, ty38, ty39, ty48, ty49, ty60, ty61, ty62, ty81, ty82, ty83, ty92, ty93, ty94, ty95, ty102, slot27, wrap_i64, grd_tr, and_true, true_and, Int.le_refl, evC_seq, evC_region, evC_plan, evC_block, evC_cond, evC_exit, evC_ret, evC_skip, evC_label, evC_loop, loopK_eq, exOps_nil, exOps_cons, wantedT, bnd_s, stepK_t, stepK_f, putK_eq, seqK_n, seqK_e, seqK_r, blockK_n, blockK_e, blockK_r, brK_t, brK_f, bnd_bnd, thenK_eq, ok_some, stopK_eq, beq_f, beq_t, Bool.not_not, cond_true, cond_false, resK_n, resK_r, exOp_move, exOp_assign, exOp_pick, exOp_alloc, exOp_box, exOp_build, exOp_buildSlice, exOp_load, exOp_store, exOp_nilCheck, exOp_binOp, exOp_unOp, exOp_convert, exOp_makeFunc, exOp_makeSlice, exOp_slice, exOp_fieldAddr, exOp_field, exOp_indexAddr, exOp_index, exOp_extract, exOp_builtin, exOp_call, callK_eq, exPure, opd, getT, constT, ofValue, cellsV, newVar, St.put, setT, posT, Option.bind_some, List.getD_cons_zero, List.getD_cons_succ, List.set_cons_zero, List.set_cons_succ, List.getElem?_cons_zero, List.getElem?_cons_succ, List.getElem?_nil, decide_true, decide_false, Nat.reduceEqDiff, fieldAddrV, fieldOff, load, store, lcells, rd, TI.kind, grd_t, Nat.reduceLT, Nat.reduceAdd, and_self, cnd_t, cnd_f, binOp, intOp, Bool.not_true, Bool.not_false, Bool.true_beq, Bool.false_beq, beq_self_eq_true, exPlan_nil, exPlan_cons, entryK_eq, leadK_t, leadK_f, lookK_nil, lookK_cons, leadsT, again, rdV, vsame, vsames, Bool.and_true, Bool.true_and, Op.operands, callops_v, callops_b, List.elem_cons, List.elem_nil, List.toList_toArray, makeSliceV, buildV, fillV, splice, List.zip, List.map_cons, List.map_nil, Nat.reduceBEq, List.all_cons, List.all_nil, List.length_cons, List.length_nil, List.take, List.drop, List.cons_append, List.nil_append, results, resV, isCell, wr, List.set, nilCheckV, Nat.reduceSub, Nat.reduceMul, Nat.mul_one, Nat.zero_add, Nat.add_zero, Nat.le_refl, List.append_nil, allV, builtinV, lenV, indexAddrV, veq_eq, veqM_int, veqM_str, veqM_bool, veqM_p1, veqM_p2, veqM_p3, veqM_s1, veqM_s2, veqM_s3, veqM_s4, veqM_s5, veqM_m1, veqM_m2, veqM_m3, veqM_f1, veqM_f2, veqM_f3, veqM_struct, veqM_arr, veqF_nil, veqF_cons, veqA_nil, veqA_cons, partK_eq, cnd_and, unOp, minmaxV, minmax, sliceV, bound, asInt, idx, idxLe, appendV, copyV, clearV, convV, putBlk, sliceCells, newBlk, buildSliceV, shift, Int.toNat_natCast, Option.isSome_none, Option.isNone_none, Option.isSome_some, Option.isNone_some, Bool.or_false, Bool.or_true, Bool.true_or, Bool.false_or, Bool.and_false, Bool.false_and, unrK_n, unrK_e, unrK_r, hcells_app, hcells_ge, hcells_c0, hcells_cs, heap_set_ge, heap_set_lt, Nat.add_sub_cancel_left, Nat.sub_self, List.append_assoc, hcells_set_ne, hcells_set_eq, evC_rf, rfK_eq, reduceCtorEq, Int.reduceLT, Int.reduceLE, Int.reduceAdd, Int.reduceSub, Int.reduceNeg, Int.reduceToNat, Int.reduceEq, nat_cast_0, nat_cast_1, List.length_append, List.length_set, Nat.reduceLeDiff, List.replicate_zero, List.flatten_nil, itT, itF, reps_0, reps_1, arr_empty, asgK_n, asgM_s, endRound_eq, endM_n, endM_r, endM_e, loopAt_set_ne, loopAt_set_eq, loopAt_app, List.set_set, or_true, true_or, or_false, false_or, loopAt_ge, loopAt_c0, loopAt_cs, endRF_eq, endFM_n, endFM_r, endFM_e]) | ((with_reducible (first | refine Ok.br ?_ ?_ | refine Ok.gd ?_ ?_ | refine Ok.ld ?_ ?_)) <;> (intro g; (try simp only [decide_eq_true_eq, decide_eq_false_iff_not, beq_f, beq_t, Bool.not_eq_true', Bool.not_eq_false', Bool.not_not, Bool.false_eq_true, Bool.true_eq_false] at g); (first | (exfalso; omega) | skip)))))
  refine Ok.loop [false, false, false, false, false, false, true, true, true, false, false, false, true, true, true, true, true, true, false, false, false, false, false, false, false, false, false, false, false, true, true, true, true, true, true, true, true, true, true, true, true, true, true, true, true, true, true, true, true, true, true, true, true, true, true, true, true, true, true, true, true, true, true, true, false, false] (fun n s2 => ∃ (i : Nat) (s : Sto), n = L.length - i ∧ i ≤ L.length ∧ tv s2.e 29 = .v (.int .i64 i) ∧ (∃ x1 x2 x3, s2.l = [(1, [.int .i64 a, .int .i64 b]), x1, x2, x3]) ∧ Both h s2.h ps cb pr T M mb (b - a).toNat s ∧ s.a = a ∧ s.b = b)
    (fun x s2 => x = .exit 0 ∧ ∃ s : Sto, (∃ x1 x2 x3, s2.l = [(1, [.int .i64 a, .int .i64 b]), x1, x2, x3]) ∧ Both h s2.h ps cb pr T M mb (b - a).toNat s ∧ s.a = a ∧ s.b = b) (L.length - 0) ⟨0, emptySto a b, rfl, by omega, rfl, ⟨_, _, _, rfl⟩, hB'.out, rfl, rfl⟩ ?_ ?_
  · intro n ⟨e', l', H⟩ hW ⟨i, s, hn, hi, h8, ⟨⟨k1, y1⟩, ⟨k2, y2⟩, ⟨k3, y3⟩, h3⟩, hBo, hsa, hsb⟩
    dsimp only at hW h8 h3 hBo
    subst l'
    rw [hW.spread]
    simp only [spread_t, spread_f, spread_n, Nat.zero_add, Nat.reduceAdd, h8]
    have hsa' := Hid.mk hsa
    have hsb' := Hid.mk hsb
    clear hsa hsb
    by_cases hlt : i < L.length
    · have hlt' : (i : Int) < (L.length : Int) := by omega
      rcases hcl'.out with rfl | ⟨b', g', o', rw', full', rfl, hbb, hfull⟩
      · simp at hlt
      · obtain ⟨x, hx⟩ : ∃ x, L[i]? = some x := ⟨_, List.getElem?_eq_getElem hlt⟩
        obtain ⟨hf1, hf2⟩ := hfull i x hx
        have hvs := hcs'.out x (List.mem_of_getElem? hx)
        clear hfull
        have hbb2 := hBo.kp.cells hbb (by simp)
        have hlight := light_at (o := x.o) (c := x.c) (q := x.q) (f := x.f) (t := x.t) (hvs.keeps hBo.kp (fun _ => away_nil _))
        obtain ⟨k, dv1, H1, dv2, H2, e, q1, q2, q3, hB2⟩ := both_step (o := x.o) (c := x.c) (q := x.q) (f := x.f) (t := x.t) hBo hvs
        have hsp := apply_span s x.o x.c x.q x.f x.t x.l
        have hBo' := Hid.mk hBo
        have hB2' := Hid.mk hB2
        have hsp' := Hid.mk hsp
        generalize lightB 0 0 x.l = lb at hlight
        obtain ⟨sa2, cap2, z2, hxv, _⟩ := hvs
        simp only [cmdV] at hf1 q1 q2 hlight
        clear hBo hB2 hsp hbb
        generalize x.v = xv at hf1 q1 q2 hlight hxv
        subst hxv
        (repeat' (first | (simp -implicitDefEqProofs (maxSteps := 1000000) (disch := first | assumption | omega | (simp only [List.length_append, List.length_cons, List.length_nil, List.length_set]; omega)) only [*, lenV, eq_self, Int.ofNat_lt, ty3, ty4, ty9, ty22, ty23, ty24, ty25, ty26, ty29, ty30, ty38, ty39, ty48, ty49, ty60, ty61, ty62, ty81, ty82, ty83, ty92, ty93, ty94, ty95, ty102, slot27, wrap_i64, grd_tr, and_true, true_and, Int.le_refl, evC_seq, evC_region, evC_plan, evC_block, evC_cond, evC_exit, evC_ret, evC_skip, evC_label, evC_loop, loopK_eq, exOps_nil, exOps_cons, wantedT, bnd_s, stepK_t, stepK_f, putK_eq, seqK_n, seqK_e, seqK_r, blockK_n, blockK_e, blockK_r, brK_t, brK_f, bnd_bnd, thenK_eq, ok_some, stopK_eq, beq_f, beq_t, Bool.not_not, cond_true, cond_false, resK_n, resK_r, exOp_move, exOp_assign, exOp_pick, exOp_alloc, exOp_box, exOp_build, exOp_buildSlice, exOp_load, exOp_store, exOp_nilCheck, exOp_binOp, exOp_unOp, exOp_convert, exOp_makeFunc, exOp_makeSlice, exOp_slice, exOp_fieldAddr, exOp_field, exOp_indexAddr, exOp_index, exOp_extract, exOp_builtin, exOp_call, callK_eq, exPure, opd, getT, constT, ofValue, cellsV, newVar, St.put, setT, posT, Option.bind_some, List.getD_cons_zero, List.getD_cons_succ, List.set_cons_zero, List.set_cons_succ, List.getElem?_cons_zero, List.getElem?_cons_succ, List.getElem?_nil, decide_true, decide_false, Nat.reduceEqDiff, fieldAddrV, fieldOff, load, store, lcells, rd, TI.kind, grd_t, Nat.reduceLT, Nat.reduceAdd, and_self, cnd_t, cnd_f, binOp, intOp, Bool.not_true, Bool.not_false, Bool.true_beq, Bool.false_beq, beq_self_eq_true, exPlan_nil, exPlan_cons, entryK_eq, leadK_t, leadK_f, lookK_nil, lookK_cons, leadsT, again, rdV, vsame, vsames, Bool.and_true, Bool.true_and, Op.operands, callops_v, callops_b, List.elem_cons, List.elem_nil, List.toList_toArray, makeSliceV, buildV, fillV, splice, List.zip, List.map_cons, List.map_nil, Nat.reduceBEq, List.all_cons, List.all_nil, List.length_cons, List.length_nil, List.take, List.drop, List.cons_append, List.nil_append, results, resV, isCell, wr, List.set, nilCheckV, Nat.reduceSub, Nat.reduceMul, Nat.mul_one, Nat.zero_add, Nat.add_zero, Nat.le_refl, List.append_nil, allV, builtinV, lenV, indexAddrV, veq_eq, veqM_int, veqM_str, veqM_bool, veqM_p1, veqM_p2, veqM_p3, veqM_s1, veqM_s2, veqM_s3, veqM_s4, veqM_s5, veqM_m1, veqM_m2, veqM_m3, veqM_f1, veqM_f2, veqM_f3, veqM_struct, veqM_arr, veqF_nil, veqF_cons, veqA_nil, veqA_cons, partK_eq, cnd_and, unOp, minmaxV, minmax, sliceV, bound, asInt, idx, idxLe, appendV, copyV, clearV, convV, putBlk, sliceCells, newBlk, buildSliceV, shift, Int.toNat_natCast, Option.isSome_none, Option.isNone_none, Option.isSome_some, Option.isNone_some, Bool.or_false, Bool.or_true, Bool.true_or, Bool.false_or, Bool.and_false, Bool.false_and, unrK_n, unrK_e, unrK_r, hcells_app, hcells_ge, hcells_c0, hcells_cs, heap_set_ge, heap_set_lt, Nat.add_sub_cancel_left, Nat.sub_self, List.append_assoc, hcells_set_ne, hcells_set_eq, evC_rf, rfK_eq, reduceCtorEq, Int.reduceLT, Int.reduceLE, Int.reduceAdd, Int.reduceSub, Int.reduceNeg, Int.reduceToNat, Int.reduceEq, nat_cast_0, nat_cast_1, List.length_append, List.length_set, Nat.reduceLeDiff, List.replicate_zero, List.flatten_nil, itT, itF, reps_0, reps_1, arr_empty, asgK_n, asgM_s, endRound_eq, endM_n, endM_r, endM_e, loopAt_set_ne, loopAt_set_eq, loopAt_app, List.set_set, or_true, true_or, or_false, false_or, loopAt_ge, loopAt_c0, loopAt_cs, endRF_eq, endFM_n, endFM_r, endFM_e]) | ((with_reducible (first | refine Ok.br ?_ ?_ | refine Ok.gd ?_ ?_ | refine Ok.ld ?_ ?_)) <;> (intro g; (try simp only [decide_eq_true_eq, decide_eq_false_iff_not, beq_f, beq_t, Bool.not_eq_true', Bool.not_eq_false', Bool.not_not, Bool.false_eq_true, Bool.true_eq_false] at g); (first | (exfalso; omega) | skip)))))
        all_goals first
          | exact Turn.exit ⟨rfl, rfl, s, ⟨_, _, _, rfl⟩, hBo'.out, hsa'.out, hsb'.out⟩
          | exact Turn.next (L.length - (i + 1)) (by omega) ⟨rfl, i + 1, _, rfl, by omega, rfl, ⟨_, _, _, rfl⟩, hB2'.out, hsp'.out.1.trans hsa'.out, hsp'.out.2.trans hsb'.out⟩
    · have hlt' : ¬ (i : Int) < (L.length : Int) := by omega
      have hBo' := Hid.mk hBo
      clear hBo
      (repeat' (first | (simp -implicitDefEqProofs (maxSteps := 1000000) (disch := first | assumption | omega | (simp only [List.length_append, List.length_cons, List.length_nil, List.length_set]; omega)) only [*, ty3, ty4, ty9, ty22, ty23, ty24, ty25, ty26, ty29, ty30, ty38, ty39, ty48, ty49, ty60, ty61, ty62, ty81, ty82, ty83, ty92, ty93, ty94, ty95, ty102, slot27, wrap_i64, grd_tr, and_true, true_and, Int.le_refl, evC_seq, evC_region, evC_plan, evC_block, evC_cond, evC_exit, evC_ret, evC_skip, evC_label, evC_loop, loopK_eq, exOps_nil, exOps_cons, wantedT, bnd_s, stepK_t, stepK_f, putK_eq, seqK_n, seqK_e, seqK_r, blockK_n, blockK_e, blockK_r, brK_t, brK_f, bnd_bnd, thenK_eq, ok_some, stopK_eq, beq_f, beq_t, Bool.not_not, cond_true, cond_false, resK_n, resK_r, exOp_move, exOp_assign, exOp_pick, exOp_alloc, exOp_box, exOp_build, exOp_buildSlice, exOp_load, exOp_store, exOp_nilCheck, exOp_binOp, exOp_unOp, exOp_convert, exOp_makeFunc, exOp_makeSlice, exOp_slice, exOp_fieldAddr, exOp_field, exOp_indexAddr, exOp_index, exOp_extract, exOp_builtin, exOp_call, callK_eq, exPure, opd, getT, constT, ofValue, cellsV, newVar, St.put, setT, posT, Option.bind_some, List.getD_cons_zero, List.getD_cons_succ, List.set_cons_zero, List.set_cons_succ, List.getElem?_cons_zero, List.getElem?_cons_succ, List.getElem?_nil, decide_true, decide_false, Nat.reduceEqDiff, fieldAddrV, fieldOff, load, store, lcells, rd, TI.kind, grd_t, Nat.reduceLT, Nat.reduceAdd, and_self, cnd_t, cnd_f, binOp, intOp, Bool.not_true, Bool.not_false, Bool.true_beq, Bool.false_beq, beq_self_eq_true, exPlan_nil, exPlan_cons, entryK_eq, leadK_t, leadK_f, lookK_nil, lookK_cons, leadsT, again, rdV, vsame, vsames, Bool.and_true, Bool.true_and, Op.operands, callops_v, callops_b, List.elem_cons, List.elem_nil, List.toList_toArray, makeSliceV, buildV, fillV, splice, List.zip, List.map_cons, List.map_nil, Nat.reduceBEq, List.all_cons, List.all_nil, List.length_cons, List.length_nil, List.take, List.drop, List.cons_append, List.nil_append, results, resV, isCell, wr, List.set, nilCheckV, Nat.reduceSub, Nat.reduceMul, Nat.mul_one, Nat.zero_add, Nat.add_zero, Nat.le_refl, List.append_nil, allV, builtinV, lenV, indexAddrV, veq_eq, veqM_int, veqM_str, veqM_bool, veqM_p1, veqM_p2, veqM_p3, veqM_s1, veqM_s2, veqM_s3, veqM_s4, veqM_s5, veqM_m1, veqM_m2, veqM_m3, veqM_f1, veqM_f2, veqM_f3, veqM_struct, veqM_arr, veqF_nil, veqF_cons, veqA_nil, veqA_cons, partK_eq, cnd_and, unOp, minmaxV, minmax, sliceV, bound, asInt, idx, idxLe, appendV, copyV, clearV, convV, putBlk, sliceCells, newBlk, buildSliceV, shift, Int.toNat_natCast, Option.isSome_none, Option.isNone_none, Option.isSome_some, Option.isNone_some, Bool.or_false, Bool.or_true, Bool.true_or, Bool.false_or, Bool.and_false, Bool.false_and, unrK_n, unrK_e, unrK_r, hcells_app, hcells_ge, hcells_c0, hcells_cs, heap_set_ge, heap_set_lt, Nat.add_sub_cancel_left, Nat.sub_self, List.append_assoc, hcells_set_ne, hcells_set_eq, evC_rf, rfK_eq, reduceCtorEq, Int.reduceLT, Int.reduceLE, Int.reduceAdd, Int.reduceSub, Int.reduceNeg, Int.reduceToNat, Int.reduceEq, nat_cast_0, nat_cast_1, List.length_append, List.length_set, Nat.reduceLeDiff, List.replicate_zero, List.flatten_nil, itT, itF, reps_0, reps_1, arr_empty, asgK_n, asgM_s, endRound_eq, endM_n, endM_r, endM_e, loopAt_set_ne, loopAt_set_eq, loopAt_app, List.set_set, or_true, true_or, or_false, false_or, loopAt_ge, loopAt_c0, loopAt_cs, endRF_eq, endFM_n, endFM_r, endFM_e]) | ((with_reducible (first | refine Ok.br ?_ ?_ | refine Ok.gd ?_ ?_ | refine Ok.ld ?_ ?_)) <;> (intro g; (try simp only [decide_eq_true_eq, decide_eq_false_iff_not, beq_f, beq_t, Bool.not_eq_true', Bool.not_eq_false', Bool.not_not, Bool.false_eq_true, Bool.true_eq_false] at g); (first | (exfalso; omega) | skip)))))
      exact Turn.exit ⟨rfl, rfl, s, ⟨_, _, _, rfl⟩, hBo'.out, hsa'.out, hsb'.out⟩
  · intro x ⟨e', l', H⟩ hW ⟨hx, s, ⟨x1, x2, x3, h3⟩, hBo, hsa, hsb⟩
    dsimp only at hW h3 hBo
    subst l' hx
    rw [hW.spread]
    clear hW
    simp only [spread_t, spread_f, spread_n, Nat.zero_add, Nat.reduceAdd]
    have hBo' := Hid.mk hBo
    have hsa' := Hid.mk hsa
    have hsb' := Hid.mk hsb
    clear hsa hsb hBo
    (repeat' (first | (simp -implicitDefEqProofs (maxSteps := 1000000) (disch := first | assumption | omega | (simp only [List.length_append, List.length_cons, List.length_nil, List.length_set]; omega)) only [*, ty3, ty4, ty9, ty22, ty23, ty24, ty25, ty26, ty29, ty30, ty38, ty39, ty48, ty49, ty60, ty61, ty62, ty81, ty82, ty83, ty92, ty93, ty94, ty95, ty102, slot27, wrap_i64, grd_tr, and_true, true_and, Int.le_refl, evC_seq, evC_region, evC_plan, evC_block, evC_cond, evC_exit, evC_ret, evC_skip, evC_label, evC_loop, loopK_eq, exOps_nil, exOps_cons, wantedT, bnd_s, stepK_t, stepK_f, putK_eq, seqK_n, seqK_e, seqK_r, blockK_n, blockK_e, blockK_r, brK_t, brK_f, bnd_bnd, thenK_eq, ok_some, stopK_eq, beq_f, beq_t, Bool.not_not, cond_true, cond_false, resK_n, resK_r, exOp_move, exOp_assign, exOp_pick, exOp_alloc, exOp_box, exOp_build, exOp_buildSlice, exOp_load, exOp_store, exOp_nilCheck, exOp_binOp, exOp_unOp, exOp_convert, exOp_makeFunc, exOp_makeSlice, exOp_slice, exOp_fieldAddr, exOp_field, exOp_indexAddr, exOp_index, exOp_extract, exOp_builtin, exOp_call, callK_eq, exPure, opd, getT, constT, ofValue, cellsV, newVar, St.put, setT, posT, Option.bind_some, List.getD_cons_zero, List.getD_cons_succ, List.set_cons_zero, List.set_cons_succ, List.getElem?_cons_zero, List.getElem?_cons_succ, List.getElem?_nil, decide_true, decide_false, Nat.reduceEqDiff, fieldAddrV, fieldOff, load, store, lcells, rd, TI.kind, grd_t, Nat.reduceLT, Nat.reduceAdd, and_self, cnd_t, cnd_f, binOp, intOp, Bool.not_true, Bool.not_false, Bool.true_beq, Bool.false_beq, beq_self_eq_true, exPlan_nil, exPlan_cons, entryK_eq, leadK_t, leadK_f, lookK_nil, lookK_cons, leadsT, again, rdV, vsame, vsames, Bool.and_true, Bool.true_and, Op.operands, callops_v, callops_b, List.elem_cons, List.elem_nil, List.toList_toArray, makeSliceV, buildV, fillV, splice, List.zip, List.map_cons, List.map_nil, Nat.reduceBEq, List.all_cons, List.all_nil, List.length_cons, List.length_nil, List.take, List.drop, List.cons_append, List.nil_append, results, resV, isCell, wr, List.set, nilCheckV, Nat.reduceSub, Nat.reduceMul, Nat.mul_one, Nat.zero_add, Nat.add_zero, Nat.le_refl, List.append_nil, allV, builtinV, lenV, indexAddrV, veq_eq, veqM_int, veqM_str, veqM_bool, veqM_p1, veqM_p2, veqM_p3, veqM_s1, veqM_s2, veqM_s3, veqM_s4, veqM_s5, veqM_m1, veqM_m2, veqM_m3, veqM_f1, veqM_f2, veqM_f3, veqM_struct, veqM_arr, veqF_nil, veqF_cons, veqA_nil, veqA_cons, partK_eq, cnd_and, unOp, minmaxV, minmax, sliceV, bound, asInt, idx, idxLe, appendV, copyV, clearV, convV, putBlk, sliceCells, newBlk, buildSliceV, shift, Int.toNat_natCast, Option.isSome_none, Option.isNone_none, Option.isSome_some, Option.isNone_some, Bool.or_false, Bool.or_true, Bool.true_or, Bool.false_or, Bool.and_false, Bool.false_and, unrK_n, unrK_e, unrK_r, hcells_app, hcells_ge, hcells_c0, hcells_cs, heap_set_ge, heap_set_lt, Nat.add_sub_cancel_left, Nat.sub_self, List.append_assoc, hcells_set_ne, hcells_set_eq, evC_rf, rfK_eq, reduceCtorEq, Int.reduceLT, Int.reduceLE, Int.reduceAdd, Int.reduceSub, Int.reduceNeg, Int.reduceToNat, Int.reduceEq, nat_cast_0, nat_cast_1, List.length_append, List.length_set, Nat.reduceLeDiff, List.replicate_zero, List.flatten_nil, itT, itF, reps_0, reps_1, arr_empty, asgK_n, asgM_s, endRound_eq, endM_n, endM_r, endM_e, loopAt_set_ne, loopAt_set_eq, loopAt_app, List.set_set, or_true, true_or, or_false, false_or, loopAt_ge, loopAt_c0, loopAt_cs, endRF_eq, endFM_n, endFM_r, endFM_e]) | ((with_reducible (first | refine Ok.br ?_ ?_ | refine Ok.gd ?_ ?_ | refine Ok.ld ?_ ?_)) <;> (intro g; (try simp only [decide_eq_true_eq, decide_eq_false_iff_not, beq_f, beq_t, Bool.not_eq_true', Bool.not_eq_false', Bool.not_not, Bool.false_eq_true, Bool.true_eq_false] at g); (first | (exfalso; omega) | skip)))))
    exact hQ'.out _ ⟨_, ps, cb, pr, T, M, mb, s, rfl, by rw [hBo'.out.hn]; exact hBo'.out, hsa'.out, hsb'.out⟩
end Go.Ev
