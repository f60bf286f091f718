/-
GraphRefs. Printed by tools/gr_print2.py.
-/
import Derived.Test.YtgkmfoljhapmiaaBun
import Derived.Test.YtgkmfoljhapmiaaGrE
import Derived.Test.YtgkmfoljhapmiaaChk
set_option linter.unusedSimpArgs false
set_option linter.unusedVariables false
set_option maxRecDepth 100000
namespace Go.Ev
open Int renaming le_refl → Ja, toNat_natCast → Kz
open Go.Ev renaming wantedT → Jb, exPure → Jd, opd → Je, getT → Jf, constT → Jg, ofValue → Jh, cellsV → Ji, newVar → Jj, setT → Jk, posT → Jl, fieldAddrV → Ju, fieldOff → Jv, load → Jw, store → Jx, lcells → Jy, binOp → Jz, intOp → J0, leadsT → J5, again → J6, rdV → J7, vsame → J8, vsames → J9, makeSliceV → JF, buildV → JG, fillV → JH, splice → JI, results → JU, resV → JV, isCell → JW, nilCheckV → JY, allV → Ke, builtinV → Kf, lenV → Kg, indexAddrV → Kh, unOp → Ki, minmaxV → Kj, minmax → Kk, sliceV → Kl, bound → Km, asInt → Kn, idx → Ko, idxLe → Kp, appendV → Kq, copyV → Kr, clearV → Ks, convV → Kt, putBlk → Ku, sliceCells → Kv, newBlk → Kw, buildSliceV → Kx, shift → Ky
open Bool renaming not_not → Jc, not_true → J1, not_false → J2, true_beq → J3, false_beq → J4, and_true → JA, true_and → JB, or_false → K4, or_true → K5, true_or → K6, false_or → K7, and_false → K8, false_and → K9
open Option renaming bind_some → Jm, isSome_none → K0, isNone_none → K1, isSome_some → K2, isNone_some → K3
open List renaming getD_cons_zero → Jn, getD_cons_succ → Jo, set_cons_zero → Jp, set_cons_succ → Jq, getElem?_cons_zero → Jr, getElem?_cons_succ → Js, getElem?_nil → Jt, elem_cons → JC, elem_nil → JD, toList_toArray → JE, zip → JJ, map_cons → JK, map_nil → JL, all_cons → JM, all_nil → JN, length_cons → JO, length_nil → JP, take → JQ, drop → JR, cons_append → JS, nil_append → JT, set → JX, append_nil → Kd, append_assoc → KD, length_append → KE, length_set → KF, replicate_zero → KG, flatten_nil → KH, set_set → KI
open Nat renaming mul_one → JZ, zero_add → Ka, add_zero → Kb, le_refl → Kc, add_sub_cancel_left → KA, sub_self → KC
open Go.Proofs Go.Sort

theorem reps_2 (v : V) : reps 2 [v] = [v, v] := rfl
theorem RowAt.sl {h : Heap} {v : V} {l : List RP} (hr : RowAt h v l) : ∃ a cap z, v = .sl a l.length cap z := by
  obtain ⟨a, cap, z, rfl, _⟩ := hr
  exact ⟨a, cap, z, rfl⟩
theorem RowAt.get {h : Heap} {a : SA} {n cap z : Nat} {l : List RP} (hr : RowAt h (.sl a n cap z) l) {i : Nat} (hi : i < l.length) :
    ∃ b q o rw full x, a = .at b q o ∧ hcells h b q = some (rw, full) ∧ l[i]? = some x ∧ (full.drop (o + i * 2)).take 2 = [.int .i64 x.1, .int .i64 x.2] ∧ o + i * 2 + 2 ≤ full.length := by
  obtain ⟨a', cap', z', e, h1, h1', h2⟩ := hr
  cases e
  rcases h2 with rfl | ⟨b, q, o, rw, full, rfl, hb, hfull, ho⟩
  · simp at hi
  · exact ⟨b, q, o, rw, full, l[i], rfl, hb, List.getElem?_eq_getElem hi, hfull i _ (List.getElem?_eq_getElem hi), by omega⟩

set_option maxHeartbeats 4000000 in
theorem graphRefs_at {h : Heap} {v w : V} {L0 M0 : List RP} (hv : RowAt h v L0) (hw : RowAt h w M0) :
    Ev.Ok (D X (.fn 3 []) [v, w] h) fun r => r.1 = .bool true := by
  refine Ok.aim fun Q hQ => ?_
  have hQ' := Hid.mk hQ
  clear hQ
  (refine Ok.body body3 pin3 ?_; simp only [c3, Try.f3, Option.getD_some, nslot3, List.append_nil, List.map, List.replicate, List.length_cons, List.length_nil, Nat.reduceAdd, Nat.reduceSub, List.cons_append, List.nil_append])
  (repeat' (first | (simp -implicitDefEqProofs (maxSteps := 1000000) (disch := first | assumption | omega | (simp only [KE, JO, JP, KF]; omega)) only [*, ty3, ty4, ty22, ty24, ty25, ty50, slot3, plan3_13, Za, Zb, Zc, Zd, Ze, Zf, Zg, Zh, Zi, Zj, and_true, true_and, Ja, Jb, Jc, cond_true, cond_false, Jd, Je, Jf, Jg, Jh, Ji, Jj, St.put, Jk, Jl, Jm, Jn, Jo, Jp, Jq, Jr, Js, Jt, decide_true, decide_false, Nat.reduceEqDiff, Ju, Jv, Jw, Jx, Jy, rd, TI.kind, Nat.reduceLT, Nat.reduceAdd, and_self, Jz, J0, J1, J2, J3, J4, beq_self_eq_true, J5, J6, J7, J8, J9, JA, JB, Op.operands, JC, JD, JE, JF, JG, JH, JI, JJ, JK, JL, Nat.reduceBEq, JM, JN, JO, JP, JQ, JR, JS, JT, JU, JV, JW, wr, JX, JY, Nat.reduceSub, Nat.reduceMul, JZ, Ka, Kb, Kc, Kd, Ke, Kf, Kg, Kh, Ki, Kj, Kk, Kl, Km, Kn, Ko, Kp, Kq, Kr, Ks, Kt, Ku, Kv, Kw, Kx, Ky, Kz, K0, K1, K2, K3, K4, K5, K6, K7, K8, K9, KA, KC, KD, reduceCtorEq, Int.reduceLT, Int.reduceLE, Int.reduceAdd, Int.reduceSub, Int.reduceNeg, Int.reduceToNat, Int.reduceEq, KE, KF, Nat.reduceLeDiff, KG, KH, KI, or_true, true_or, or_false, false_or]) | ((with_reducible (first | refine Ok.br ?_ ?_ | refine Ok.gd ?_ ?_ | refine Ok.ld ?_ ?_)) <;> (intro g; (try simp only [Zz] at g); (first | (exfalso; omega) | skip)))))
  refine Ok.bnd2 (row_at hv) fun y h2 ⟨v2, hy, hv2⟩ => ?_
  cases hy
  (repeat' (first | (simp -implicitDefEqProofs (maxSteps := 1000000) (disch := first | assumption | omega | (simp only [KE, JO, JP, KF]; omega)) only [*, ty3, ty4, ty22, ty24, ty25, ty50, slot3, plan3_13, Za, Zb, Zc, Zd, Ze, Zf, Zg, Zh, Zi, Zj, and_true, true_and, Ja, Jb, Jc, cond_true, cond_false, Jd, Je, Jf, Jg, Jh, Ji, Jj, St.put, Jk, Jl, Jm, Jn, Jo, Jp, Jq, Jr, Js, Jt, decide_true, decide_false, Nat.reduceEqDiff, Ju, Jv, Jw, Jx, Jy, rd, TI.kind, Nat.reduceLT, Nat.reduceAdd, and_self, Jz, J0, J1, J2, J3, J4, beq_self_eq_true, J5, J6, J7, J8, J9, JA, JB, Op.operands, JC, JD, JE, JF, JG, JH, JI, JJ, JK, JL, Nat.reduceBEq, JM, JN, JO, JP, JQ, JR, JS, JT, JU, JV, JW, wr, JX, JY, Nat.reduceSub, Nat.reduceMul, JZ, Ka, Kb, Kc, Kd, Ke, Kf, Kg, Kh, Ki, Kj, Kk, Kl, Km, Kn, Ko, Kp, Kq, Kr, Ks, Kt, Ku, Kv, Kw, Kx, Ky, Kz, K0, K1, K2, K3, K4, K5, K6, K7, K8, K9, KA, KC, KD, reduceCtorEq, Int.reduceLT, Int.reduceLE, Int.reduceAdd, Int.reduceSub, Int.reduceNeg, Int.reduceToNat, Int.reduceEq, KE, KF, Nat.reduceLeDiff, KG, KH, KI, or_true, true_or, or_false, false_or]) | ((with_reducible (first | refine Ok.br ?_ ?_ | refine Ok.gd ?_ ?_ | refine Ok.ld ?_ ?_)) <;> (intro g; (try simp only [Zz] at g); (first | (exfalso; omega) | skip)))))
  refine Ok.bnd2 (row_at hw) fun y h2 ⟨w2, hy, hw2⟩ => ?_
  cases hy
  clear hv hw
  have hL : (L0.take 60).length ≤ 60 := by rw [List.length_take]; omega
  have hM : (M0.take 60).length ≤ 60 := by rw [List.length_take]; omega
  generalize L0.take 60 = L at hv2 hL
  generalize M0.take 60 = M at hw2 hM
  obtain ⟨a0, c0, z0, rfl⟩ := hv2.sl
  obtain ⟨a1, c1, z1, rfl⟩ := hw2.sl
  (repeat' (first | (simp -implicitDefEqProofs (maxSteps := 1000000) (disch := first | assumption | omega | (simp only [KE, JO, JP, KF]; omega)) only [*, lenV, ty3, ty4, ty22, ty24, ty25, ty50, slot3, plan3_13, Za, Zb, Zc, Zd, Ze, Zf, Zg, Zh, Zi, Zj, and_true, true_and, Ja, Jb, Jc, cond_true, cond_false, Jd, Je, Jf, Jg, Jh, Ji, Jj, St.put, Jk, Jl, Jm, Jn, Jo, Jp, Jq, Jr, Js, Jt, decide_true, decide_false, Nat.reduceEqDiff, Ju, Jv, Jw, Jx, Jy, rd, TI.kind, Nat.reduceLT, Nat.reduceAdd, and_self, Jz, J0, J1, J2, J3, J4, beq_self_eq_true, J5, J6, J7, J8, J9, JA, JB, Op.operands, JC, JD, JE, JF, JG, JH, JI, JJ, JK, JL, Nat.reduceBEq, JM, JN, JO, JP, JQ, JR, JS, JT, JU, JV, JW, wr, JX, JY, Nat.reduceSub, Nat.reduceMul, JZ, Ka, Kb, Kc, Kd, Ke, Kf, Kg, Kh, Ki, Kj, Kk, Kl, Km, Kn, Ko, Kp, Kq, Kr, Ks, Kt, Ku, Kv, Kw, Kx, Ky, Kz, K0, K1, K2, K3, K4, K5, K6, K7, K8, K9, KA, KC, KD, reduceCtorEq, Int.reduceLT, Int.reduceLE, Int.reduceAdd, Int.reduceSub, Int.reduceNeg, Int.reduceToNat, Int.reduceEq, KE, KF, Nat.reduceLeDiff, KG, KH, KI, or_true, true_or, or_false, false_or]) | ((with_reducible (first | refine Ok.br ?_ ?_ | refine Ok.gd ?_ ?_ | refine Ok.ld ?_ ?_)) <;> (intro g; (try simp only [Zz] at g); (first | (exfalso; omega) | skip)))))
  have hac : ([] : List RP).length ≤ 60 := by simp
  refine Ok.loop [false, false, false, false, false, true, false, true, false, false, false, false, false, false, false, false, false, true, true, true, true, true, true, true, true, false, false, false, false, false, false, false, false, false, false, false, false, false, false, false, false, false, false, false, false, false, false, false, false, false, false, false, false, false, false, false, false, false, false, false, false, false, false, false, false, false, false, false, false, false, false, false, false, false, false, false, false, false, false, false, false, false, false, false, false] (fun m s2 => ∃ (i k : Nat) (cs : List V) (w : V), m = L.length - i ∧ i ≤ L.length ∧ tv s2.e 17 = .v (.int .i64 i) ∧ tv s2.e 5 = .v w ∧ s2.l = [(k, cs), (0, [])] ∧ Ext h s2.h ∧ RowAt s2.h w (addsR [] (L.take i)))
    (fun x s2 => x = .exit 0 ∧ ∃ (k : Nat) (cs : List V) (w : V), tv s2.e 5 = .v w ∧ s2.l = [(k, cs), (0, [])] ∧ Ext h s2.h ∧ RowAt s2.h w (addsR [] L)) (L.length - 0) ⟨0, 0, [], _, rfl, Nat.zero_le _, rfl, rfl, rfl, .refl _, ⟨_, _, _, rfl, Nat.le_refl _, by decide, .inl rfl⟩⟩ ?_ ?_
  · intro m ⟨e', l', g⟩ hW ⟨i, k, cs, w, hm, hi, hit, h5, hsl, hx, hr⟩
    dsimp only at hW hit h5 hsl hx hr
    subst l'
    rw [hW.spread]
    simp only [spread_t, spread_f, spread_n, Nat.zero_add, Nat.reduceAdd, hit, h5]
    clear hW hQ'
    by_cases hlt : i < L.length
    · have hlt' : (i : Int) < (L.length : Int) := by omega
      have g1 : 0 ≤ (i : Int) ∧ (i : Int) < (L.length : Int) := by omega
      obtain ⟨b, q, o, rw, full, x, rfl, hb, hxi, hf, ho⟩ := (hv2.ext hx).get hlt
      have hxi' := Hid.mk hxi
      have hx' := Hid.mk hx
      have hr' := Hid.mk hr
      clear hxi hx hr
      have hbl := hcells_lt hb
      (repeat' (first | (simp -implicitDefEqProofs (maxSteps := 1000000) (disch := first | assumption | omega | (simp only [KE, JO, JP, KF]; omega)) only [*, lenV, ty3, ty4, ty22, ty24, ty25, ty50, slot3, plan3_13, Za, Zb, Zc, Zd, Ze, Zf, Zg, Zh, Zi, Zj, and_true, true_and, Ja, Jb, Jc, cond_true, cond_false, Jd, Je, Jf, Jg, Jh, Ji, Jj, St.put, Jk, Jl, Jm, Jn, Jo, Jp, Jq, Jr, Js, Jt, decide_true, decide_false, Nat.reduceEqDiff, Ju, Jv, Jw, Jx, Jy, rd, TI.kind, Nat.reduceLT, Nat.reduceAdd, and_self, Jz, J0, J1, J2, J3, J4, beq_self_eq_true, J5, J6, J7, J8, J9, JA, JB, Op.operands, JC, JD, JE, JF, JG, JH, JI, JJ, JK, JL, Nat.reduceBEq, JM, JN, JO, JP, JQ, JR, JS, JT, JU, JV, JW, wr, JX, JY, Nat.reduceSub, Nat.reduceMul, JZ, Ka, Kb, Kc, Kd, Ke, Kf, Kg, Kh, Ki, Kj, Kk, Kl, Km, Kn, Ko, Kp, Kq, Kr, Ks, Kt, Ku, Kv, Kw, Kx, Ky, Kz, K0, K1, K2, K3, K4, K5, K6, K7, K8, K9, KA, KC, KD, reduceCtorEq, Int.reduceLT, Int.reduceLE, Int.reduceAdd, Int.reduceSub, Int.reduceNeg, Int.reduceToNat, Int.reduceEq, KE, KF, Nat.reduceLeDiff, KG, KH, KI, or_true, true_or, or_false, false_or]) | ((with_reducible (first | refine Ok.br ?_ ?_ | refine Ok.gd ?_ ?_ | refine Ok.ld ?_ ?_)) <;> (intro g; (try simp only [Zz] at g); (first | (exfalso; omega) | skip)))))
      refine Ok.bnd2 (add_at hr'.out (by have := addsR_len (L.take i) []; rw [List.length_take] at this; omega) x) fun y h4 ⟨w2, g2, hy, hx2, hr2⟩ => ?_
      cases hy
      (repeat' (first | (simp -implicitDefEqProofs (maxSteps := 1000000) (disch := first | assumption | omega | (simp only [KE, JO, JP, KF]; omega)) only [*, lenV, ty3, ty4, ty22, ty24, ty25, ty50, slot3, plan3_13, Za, Zb, Zc, Zd, Ze, Zf, Zg, Zh, Zi, Zj, and_true, true_and, Ja, Jb, Jc, cond_true, cond_false, Jd, Je, Jf, Jg, Jh, Ji, Jj, St.put, Jk, Jl, Jm, Jn, Jo, Jp, Jq, Jr, Js, Jt, decide_true, decide_false, Nat.reduceEqDiff, Ju, Jv, Jw, Jx, Jy, rd, TI.kind, Nat.reduceLT, Nat.reduceAdd, and_self, Jz, J0, J1, J2, J3, J4, beq_self_eq_true, J5, J6, J7, J8, J9, JA, JB, Op.operands, JC, JD, JE, JF, JG, JH, JI, JJ, JK, JL, Nat.reduceBEq, JM, JN, JO, JP, JQ, JR, JS, JT, JU, JV, JW, wr, JX, JY, Nat.reduceSub, Nat.reduceMul, JZ, Ka, Kb, Kc, Kd, Ke, Kf, Kg, Kh, Ki, Kj, Kk, Kl, Km, Kn, Ko, Kp, Kq, Kr, Ks, Kt, Ku, Kv, Kw, Kx, Ky, Kz, K0, K1, K2, K3, K4, K5, K6, K7, K8, K9, KA, KC, KD, reduceCtorEq, Int.reduceLT, Int.reduceLE, Int.reduceAdd, Int.reduceSub, Int.reduceNeg, Int.reduceToNat, Int.reduceEq, KE, KF, Nat.reduceLeDiff, KG, KH, KI, or_true, true_or, or_false, false_or]) | ((with_reducible (first | refine Ok.br ?_ ?_ | refine Ok.gd ?_ ?_ | refine Ok.ld ?_ ?_)) <;> (intro g; (try simp only [Zz] at g); (first | (exfalso; omega) | skip)))))
      refine Turn.next (L.length - (i + 1)) (by omega) ⟨rfl, i + 1, _, _, y, rfl, by omega, rfl, rfl, rfl, hx'.out.trans hx2, ?_⟩
      have e : addsR [] (L.take (i + 1)) = addR x (addsR [] (L.take i)) := by rw [List.take_add_one, hxi'.out]; exact addsR_snoc _ _ _
      show RowAt h4 y (addsR [] (L.take (i + 1)))
      rw [e]; exact hr2
    · have hlt' : ¬ (i : Int) < (L.length : Int) := by omega
      (repeat' (first | (simp -implicitDefEqProofs (maxSteps := 1000000) (disch := first | assumption | omega | (simp only [KE, JO, JP, KF]; omega)) only [*, lenV, ty3, ty4, ty22, ty24, ty25, ty50, slot3, plan3_13, Za, Zb, Zc, Zd, Ze, Zf, Zg, Zh, Zi, Zj, and_true, true_and, Ja, Jb, Jc, cond_true, cond_false, Jd, Je, Jf, Jg, Jh, Ji, Jj, St.put, Jk, Jl, Jm, Jn, Jo, Jp, Jq, Jr, Js, Jt, decide_true, decide_false, Nat.reduceEqDiff, Ju, Jv, Jw, Jx, Jy, rd, TI.kind, Nat.reduceLT, Nat.reduceAdd, and_self, Jz, J0, J1, J2, J3, J4, beq_self_eq_true, J5, J6, J7, J8, J9, JA, JB, Op.operands, JC, JD, JE, JF, JG, JH, JI, JJ, JK, JL, Nat.reduceBEq, JM, JN, JO, JP, JQ, JR, JS, JT, JU, JV, JW, wr, JX, JY, Nat.reduceSub, Nat.reduceMul, JZ, Ka, Kb, Kc, Kd, Ke, Kf, Kg, Kh, Ki, Kj, Kk, Kl, Km, Kn, Ko, Kp, Kq, Kr, Ks, Kt, Ku, Kv, Kw, Kx, Ky, Kz, K0, K1, K2, K3, K4, K5, K6, K7, K8, K9, KA, KC, KD, reduceCtorEq, Int.reduceLT, Int.reduceLE, Int.reduceAdd, Int.reduceSub, Int.reduceNeg, Int.reduceToNat, Int.reduceEq, KE, KF, Nat.reduceLeDiff, KG, KH, KI, or_true, true_or, or_false, false_or]) | ((with_reducible (first | refine Ok.br ?_ ?_ | refine Ok.gd ?_ ?_ | refine Ok.ld ?_ ?_)) <;> (intro g; (try simp only [Zz] at g); (first | (exfalso; omega) | skip)))))
      exact Turn.exit ⟨rfl, rfl, _, _, w, rfl, rfl, hx, by rwa [List.take_of_length_le (by omega)] at hr⟩
  · intro x ⟨e', l', g⟩ hW ⟨hx0, k, cs, w, h5, hsl, hx, hr⟩
    dsimp only at hW h5 hsl hx hr
    subst l' hx0
    rw [hW.spread]
    simp only [spread_t, spread_f, spread_n, Nat.zero_add, Nat.reduceAdd, h5]
    clear hW
    generalize hs1 : ((k, cs) : Nat × List V) = s1
    clear hs1 k cs
    (repeat' (first | (simp -implicitDefEqProofs (maxSteps := 1000000) (disch := first | assumption | omega | (simp only [KE, JO, JP, KF]; omega)) only [*, lenV, ty3, ty4, ty22, ty24, ty25, ty50, slot3, plan3_13, Za, Zb, Zc, Zd, Ze, Zf, Zg, Zh, Zi, Zj, and_true, true_and, Ja, Jb, Jc, cond_true, cond_false, Jd, Je, Jf, Jg, Jh, Ji, Jj, St.put, Jk, Jl, Jm, Jn, Jo, Jp, Jq, Jr, Js, Jt, decide_true, decide_false, Nat.reduceEqDiff, Ju, Jv, Jw, Jx, Jy, rd, TI.kind, Nat.reduceLT, Nat.reduceAdd, and_self, Jz, J0, J1, J2, J3, J4, beq_self_eq_true, J5, J6, J7, J8, J9, JA, JB, Op.operands, JC, JD, JE, JF, JG, JH, JI, JJ, JK, JL, Nat.reduceBEq, JM, JN, JO, JP, JQ, JR, JS, JT, JU, JV, JW, wr, JX, JY, Nat.reduceSub, Nat.reduceMul, JZ, Ka, Kb, Kc, Kd, Ke, Kf, Kg, Kh, Ki, Kj, Kk, Kl, Km, Kn, Ko, Kp, Kq, Kr, Ks, Kt, Ku, Kv, Kw, Kx, Ky, Kz, K0, K1, K2, K3, K4, K5, K6, K7, K8, K9, KA, KC, KD, reduceCtorEq, Int.reduceLT, Int.reduceLE, Int.reduceAdd, Int.reduceSub, Int.reduceNeg, Int.reduceToNat, Int.reduceEq, KE, KF, Nat.reduceLeDiff, KG, KH, KI, or_true, true_or, or_false, false_or]) | ((with_reducible (first | refine Ok.br ?_ ?_ | refine Ok.gd ?_ ?_ | refine Ok.ld ?_ ?_)) <;> (intro g; (try simp only [Zz] at g); (first | (exfalso; omega) | skip)))))
    have hac : ((addsR [] L) : List RP).length ≤ 60 := by have := addsR_len L []; simp at this; omega
    refine Ok.loop [false, false, false, false, false, true, false, false, false, true, false, false, false, false, false, false, false, false, false, false, false, false, false, false, false, false, false, true, true, true, true, true, true, true, true, false, false, false, false, false, false, false, false, false, false, false, false, false, false, false, false, false, false, false, false, false, false, false, false, false, false, false, false, false, false, false, false, false, false, false, false, false, false, false, false, false, false, false, false, false, false, false, false, false, false] (fun m s2 => ∃ (i k : Nat) (cs : List V) (w : V), m = M.length - i ∧ i ≤ M.length ∧ tv s2.e 27 = .v (.int .i64 i) ∧ tv s2.e 5 = .v w ∧ s2.l = [s1, (k, cs)] ∧ Ext h s2.h ∧ RowAt s2.h w (addsR (addsR [] L) (M.take i)))
      (fun x s2 => x = .exit 2 ∧ ∃ (k : Nat) (cs : List V) (w : V), tv s2.e 5 = .v w ∧ s2.l = [s1, (k, cs)] ∧ Ext h s2.h ∧ RowAt s2.h w (addsR (addsR [] L) M)) (M.length - 0) ⟨0, 0, [], _, rfl, Nat.zero_le _, rfl, rfl, rfl, hx, hr⟩ ?_ ?_
    · intro m ⟨e', l', g⟩ hW ⟨i, k, cs, w, hm, hi, hit, h5, hsl, hx, hr⟩
      dsimp only at hW hit h5 hsl hx hr
      subst l'
      rw [hW.spread]
      simp only [spread_t, spread_f, spread_n, Nat.zero_add, Nat.reduceAdd, hit, h5]
      clear hW hQ'
      by_cases hlt : i < M.length
      · have hlt' : (i : Int) < (M.length : Int) := by omega
        have g1 : 0 ≤ (i : Int) ∧ (i : Int) < (M.length : Int) := by omega
        obtain ⟨b, q, o, rw, full, x, rfl, hb, hxi, hf, ho⟩ := (hw2.ext hx).get hlt
        have hxi' := Hid.mk hxi
        have hx' := Hid.mk hx
        have hr' := Hid.mk hr
        clear hxi hx hr
        have hbl := hcells_lt hb
        (repeat' (first | (simp -implicitDefEqProofs (maxSteps := 1000000) (disch := first | assumption | omega | (simp only [KE, JO, JP, KF]; omega)) only [*, lenV, ty3, ty4, ty22, ty24, ty25, ty50, slot3, plan3_13, Za, Zb, Zc, Zd, Ze, Zf, Zg, Zh, Zi, Zj, and_true, true_and, Ja, Jb, Jc, cond_true, cond_false, Jd, Je, Jf, Jg, Jh, Ji, Jj, St.put, Jk, Jl, Jm, Jn, Jo, Jp, Jq, Jr, Js, Jt, decide_true, decide_false, Nat.reduceEqDiff, Ju, Jv, Jw, Jx, Jy, rd, TI.kind, Nat.reduceLT, Nat.reduceAdd, and_self, Jz, J0, J1, J2, J3, J4, beq_self_eq_true, J5, J6, J7, J8, J9, JA, JB, Op.operands, JC, JD, JE, JF, JG, JH, JI, JJ, JK, JL, Nat.reduceBEq, JM, JN, JO, JP, JQ, JR, JS, JT, JU, JV, JW, wr, JX, JY, Nat.reduceSub, Nat.reduceMul, JZ, Ka, Kb, Kc, Kd, Ke, Kf, Kg, Kh, Ki, Kj, Kk, Kl, Km, Kn, Ko, Kp, Kq, Kr, Ks, Kt, Ku, Kv, Kw, Kx, Ky, Kz, K0, K1, K2, K3, K4, K5, K6, K7, K8, K9, KA, KC, KD, reduceCtorEq, Int.reduceLT, Int.reduceLE, Int.reduceAdd, Int.reduceSub, Int.reduceNeg, Int.reduceToNat, Int.reduceEq, KE, KF, Nat.reduceLeDiff, KG, KH, KI, or_true, true_or, or_false, false_or]) | ((with_reducible (first | refine Ok.br ?_ ?_ | refine Ok.gd ?_ ?_ | refine Ok.ld ?_ ?_)) <;> (intro g; (try simp only [Zz] at g); (first | (exfalso; omega) | skip)))))
        refine Ok.bnd2 (add_at hr'.out (by have := addsR_len (M.take i) (addsR [] L); rw [List.length_take] at this; omega) x) fun y h4 ⟨w2, g2, hy, hx2, hr2⟩ => ?_
        cases hy
        (repeat' (first | (simp -implicitDefEqProofs (maxSteps := 1000000) (disch := first | assumption | omega | (simp only [KE, JO, JP, KF]; omega)) only [*, lenV, ty3, ty4, ty22, ty24, ty25, ty50, slot3, plan3_13, Za, Zb, Zc, Zd, Ze, Zf, Zg, Zh, Zi, Zj, and_true, true_and, Ja, Jb, Jc, cond_true, cond_false, Jd, Je, Jf, Jg, Jh, Ji, Jj, St.put, Jk, Jl, Jm, Jn, Jo, Jp, Jq, Jr, Js, Jt, decide_true, decide_false, Nat.reduceEqDiff, Ju, Jv, Jw, Jx, Jy, rd, TI.kind, Nat.reduceLT, Nat.reduceAdd, and_self, Jz, J0, J1, J2, J3, J4, beq_self_eq_true, J5, J6, J7, J8, J9, JA, JB, Op.operands, JC, JD, JE, JF, JG, JH, JI, JJ, JK, JL, Nat.reduceBEq, JM, JN, JO, JP, JQ, JR, JS, JT, JU, JV, JW, wr, JX, JY, Nat.reduceSub, Nat.reduceMul, JZ, Ka, Kb, Kc, Kd, Ke, Kf, Kg, Kh, Ki, Kj, Kk, Kl, Km, Kn, Ko, Kp, Kq, Kr, Ks, Kt, Ku, Kv, Kw, Kx, Ky, Kz, K0, K1, K2, K3, K4, K5, K6, K7, K8, K9, KA, KC, KD, reduceCtorEq, Int.reduceLT, Int.reduceLE, Int.reduceAdd, Int.reduceSub, Int.reduceNeg, Int.reduceToNat, Int.reduceEq, KE, KF, Nat.reduceLeDiff, KG, KH, KI, or_true, true_or, or_false, false_or]) | ((with_reducible (first | refine Ok.br ?_ ?_ | refine Ok.gd ?_ ?_ | refine Ok.ld ?_ ?_)) <;> (intro g; (try simp only [Zz] at g); (first | (exfalso; omega) | skip)))))
        refine Turn.next (M.length - (i + 1)) (by omega) ⟨rfl, i + 1, _, _, y, rfl, by omega, rfl, rfl, rfl, hx'.out.trans hx2, ?_⟩
        have e : addsR (addsR [] L) (M.take (i + 1)) = addR x (addsR (addsR [] L) (M.take i)) := by rw [List.take_add_one, hxi'.out]; exact addsR_snoc _ _ _
        show RowAt h4 y (addsR (addsR [] L) (M.take (i + 1)))
        rw [e]; exact hr2
      · have hlt' : ¬ (i : Int) < (M.length : Int) := by omega
        (repeat' (first | (simp -implicitDefEqProofs (maxSteps := 1000000) (disch := first | assumption | omega | (simp only [KE, JO, JP, KF]; omega)) only [*, lenV, ty3, ty4, ty22, ty24, ty25, ty50, slot3, plan3_13, Za, Zb, Zc, Zd, Ze, Zf, Zg, Zh, Zi, Zj, and_true, true_and, Ja, Jb, Jc, cond_true, cond_false, Jd, Je, Jf, Jg, Jh, Ji, Jj, St.put, Jk, Jl, Jm, Jn, Jo, Jp, Jq, Jr, Js, Jt, decide_true, decide_false, Nat.reduceEqDiff, Ju, Jv, Jw, Jx, Jy, rd, TI.kind, Nat.reduceLT, Nat.reduceAdd, and_self, Jz, J0, J1, J2, J3, J4, beq_self_eq_true, J5, J6, J7, J8, J9, JA, JB, Op.operands, JC, JD, JE, JF, JG, JH, JI, JJ, JK, JL, Nat.reduceBEq, JM, JN, JO, JP, JQ, JR, JS, JT, JU, JV, JW, wr, JX, JY, Nat.reduceSub, Nat.reduceMul, JZ, Ka, Kb, Kc, Kd, Ke, Kf, Kg, Kh, Ki, Kj, Kk, Kl, Km, Kn, Ko, Kp, Kq, Kr, Ks, Kt, Ku, Kv, Kw, Kx, Ky, Kz, K0, K1, K2, K3, K4, K5, K6, K7, K8, K9, KA, KC, KD, reduceCtorEq, Int.reduceLT, Int.reduceLE, Int.reduceAdd, Int.reduceSub, Int.reduceNeg, Int.reduceToNat, Int.reduceEq, KE, KF, Nat.reduceLeDiff, KG, KH, KI, or_true, true_or, or_false, false_or]) | ((with_reducible (first | refine Ok.br ?_ ?_ | refine Ok.gd ?_ ?_ | refine Ok.ld ?_ ?_)) <;> (intro g; (try simp only [Zz] at g); (first | (exfalso; omega) | skip)))))
        exact Turn.exit ⟨rfl, rfl, _, _, w, rfl, rfl, hx, by rwa [List.take_of_length_le (by omega)] at hr⟩
    · intro x ⟨e', l', g⟩ hW ⟨hx0, k, cs, w, h5, hsl, hx, hr⟩
      dsimp only at hW h5 hsl hx hr
      subst l' hx0
      rw [hW.spread]
      simp only [spread_t, spread_f, spread_n, Nat.zero_add, Nat.reduceAdd, h5]
      clear hW
      have hx2 := hx
      have hr2 := hr
      obtain ⟨a2, c2, z2, rfl⟩ := hr2.sl
      have hst : Strict (addsR (addsR [] L) M) := addsR_strict _ _ (addsR_strict _ _ List.Pairwise.nil)
      have hmm : ∀ x, x ∈ addsR (addsR [] L) M ↔ x ∈ L ++ M := fun x => by rw [addsR_mem, addsR_mem]; simp
      generalize addsR (addsR [] L) M = A at hr2 hst hmm
      have hv3 := hv2.ext hx2
      have hw3 := hw2.ext hx2
      have hst' := Hid.mk hst
      have hmm' := Hid.mk hmm
      have hr2' := Hid.mk hr2
      have hv3' := Hid.mk hv3
      have hw3' := Hid.mk hw3
      clear hst hmm hr2 hv2 hw2 hx hx2 hr
      by_cases hL0 : L.length = 0
      · obtain rfl : L = [] := List.length_eq_zero_iff.1 hL0
        have hz : ((0 : Nat) : Int) = 0 := rfl
        clear hv3 hw3
        (repeat' (first | (simp -implicitDefEqProofs (maxSteps := 1000000) (disch := first | assumption | omega | (simp only [KE, JO, JP, KF]; omega)) only [*, lenV, List.length_nil, reps_2, ty3, ty4, ty22, ty24, ty25, ty50, slot3, plan3_13, Za, Zb, Zc, Zd, Ze, Zf, Zg, Zh, Zi, Zj, and_true, true_and, Ja, Jb, Jc, cond_true, cond_false, Jd, Je, Jf, Jg, Jh, Ji, Jj, St.put, Jk, Jl, Jm, Jn, Jo, Jp, Jq, Jr, Js, Jt, decide_true, decide_false, Nat.reduceEqDiff, Ju, Jv, Jw, Jx, Jy, rd, TI.kind, Nat.reduceLT, Nat.reduceAdd, and_self, Jz, J0, J1, J2, J3, J4, beq_self_eq_true, J5, J6, J7, J8, J9, JA, JB, Op.operands, JC, JD, JE, JF, JG, JH, JI, JJ, JK, JL, Nat.reduceBEq, JM, JN, JO, JP, JQ, JR, JS, JT, JU, JV, JW, wr, JX, JY, Nat.reduceSub, Nat.reduceMul, JZ, Ka, Kb, Kc, Kd, Ke, Kf, Kg, Kh, Ki, Kj, Kk, Kl, Km, Kn, Ko, Kp, Kq, Kr, Ks, Kt, Ku, Kv, Kw, Kx, Ky, Kz, K0, K1, K2, K3, K4, K5, K6, K7, K8, K9, KA, KC, KD, reduceCtorEq, Int.reduceLT, Int.reduceLE, Int.reduceAdd, Int.reduceSub, Int.reduceNeg, Int.reduceToNat, Int.reduceEq, KE, KF, Nat.reduceLeDiff, KG, KH, KI, or_true, true_or, or_false, false_or]) | ((with_reducible (first | refine Ok.br ?_ ?_ | refine Ok.gd ?_ ?_ | refine Ok.ld ?_ ?_)) <;> (intro g; (try simp only [Zz] at g); (first | (exfalso; omega) | skip)))))
        refine Ok.bnd2 (refs_at (hcells_new) (hv3'.out.ext ⟨_, rfl⟩) (hw3'.out.ext ⟨_, rfl⟩) (by omega) (by omega)) fun y h5 ⟨u, g5, p, hy, hx5, hp, hps, hpm⟩ => ?_
        cases hy
        have hpA : p = A := strict_eq p A hps hst'.out fun z => (hpm z).trans (hmm'.out z).symm
        subst hpA
        have hxa : Ext g h5 := Ext.trans ⟨_, rfl⟩ hx5
        have hs1 := same_at hp (hr2'.out.ext hxa)
        rw [decide_eq_true rfl] at hs1
        obtain ⟨a3, c3, z3, rfl⟩ := hp.sl
        (repeat' (first | (simp -implicitDefEqProofs (maxSteps := 1000000) (disch := first | assumption | omega | (simp only [KE, JO, JP, KF]; omega)) only [*, lenV, List.length_nil, reps_2, ty3, ty4, ty22, ty24, ty25, ty50, slot3, plan3_13, Za, Zb, Zc, Zd, Ze, Zf, Zg, Zh, Zi, Zj, and_true, true_and, Ja, Jb, Jc, cond_true, cond_false, Jd, Je, Jf, Jg, Jh, Ji, Jj, St.put, Jk, Jl, Jm, Jn, Jo, Jp, Jq, Jr, Js, Jt, decide_true, decide_false, Nat.reduceEqDiff, Ju, Jv, Jw, Jx, Jy, rd, TI.kind, Nat.reduceLT, Nat.reduceAdd, and_self, Jz, J0, J1, J2, J3, J4, beq_self_eq_true, J5, J6, J7, J8, J9, JA, JB, Op.operands, JC, JD, JE, JF, JG, JH, JI, JJ, JK, JL, Nat.reduceBEq, JM, JN, JO, JP, JQ, JR, JS, JT, JU, JV, JW, wr, JX, JY, Nat.reduceSub, Nat.reduceMul, JZ, Ka, Kb, Kc, Kd, Ke, Kf, Kg, Kh, Ki, Kj, Kk, Kl, Km, Kn, Ko, Kp, Kq, Kr, Ks, Kt, Ku, Kv, Kw, Kx, Ky, Kz, K0, K1, K2, K3, K4, K5, K6, K7, K8, K9, KA, KC, KD, reduceCtorEq, Int.reduceLT, Int.reduceLE, Int.reduceAdd, Int.reduceSub, Int.reduceNeg, Int.reduceToNat, Int.reduceEq, KE, KF, Nat.reduceLeDiff, KG, KH, KI, or_true, true_or, or_false, false_or]) | ((with_reducible (first | refine Ok.br ?_ ?_ | refine Ok.gd ?_ ?_ | refine Ok.ld ?_ ?_)) <;> (intro g; (try simp only [Zz] at g); (first | (exfalso; omega) | skip)))))
        clear hs1
        refine Ok.bnd2 (refs_at (hcells_new) ((hw3'.out.ext hxa).ext ⟨_, rfl⟩) ((hv3'.out.ext hxa).ext ⟨_, rfl⟩) (by omega) (by omega)) fun y h6 ⟨u6, g6, p6, hy, hx6, hp6, hps6, hpm6⟩ => ?_
        cases hy
        have hpB : p6 = p := strict_eq p6 p hps6 hps fun z => by
          rw [hpm6, hpm, List.mem_append, List.mem_append]
          exact Or.comm
        subst hpB
        have hs2 := same_at hp6 ((hr2'.out.ext hxa).ext (Ext.trans ⟨_, rfl⟩ hx6))
        rw [decide_eq_true rfl] at hs2
        obtain ⟨a4, c4, z4, rfl⟩ := hp6.sl
        have hrf := refs_0 h6
        have hlv := D_pin (X := X) (f := 17) (b := true) rfl h6
        (repeat' (first | (simp -implicitDefEqProofs (maxSteps := 1000000) (disch := first | assumption | omega | (simp only [KE, JO, JP, KF]; omega)) only [*, lenV, ty3, ty4, ty22, ty24, ty25, ty50, slot3, plan3_13, Za, Zb, Zc, Zd, Ze, Zf, Zg, Zh, Zi, Zj, and_true, true_and, Ja, Jb, Jc, cond_true, cond_false, Jd, Je, Jf, Jg, Jh, Ji, Jj, St.put, Jk, Jl, Jm, Jn, Jo, Jp, Jq, Jr, Js, Jt, decide_true, decide_false, Nat.reduceEqDiff, Ju, Jv, Jw, Jx, Jy, rd, TI.kind, Nat.reduceLT, Nat.reduceAdd, and_self, Jz, J0, J1, J2, J3, J4, beq_self_eq_true, J5, J6, J7, J8, J9, JA, JB, Op.operands, JC, JD, JE, JF, JG, JH, JI, JJ, JK, JL, Nat.reduceBEq, JM, JN, JO, JP, JQ, JR, JS, JT, JU, JV, JW, wr, JX, JY, Nat.reduceSub, Nat.reduceMul, JZ, Ka, Kb, Kc, Kd, Ke, Kf, Kg, Kh, Ki, Kj, Kk, Kl, Km, Kn, Ko, Kp, Kq, Kr, Ks, Kt, Ku, Kv, Kw, Kx, Ky, Kz, K0, K1, K2, K3, K4, K5, K6, K7, K8, K9, KA, KC, KD, reduceCtorEq, Int.reduceLT, Int.reduceLE, Int.reduceAdd, Int.reduceSub, Int.reduceNeg, Int.reduceToNat, Int.reduceEq, KE, KF, Nat.reduceLeDiff, KG, KH, KI, or_true, true_or, or_false, false_or]) | ((with_reducible (first | refine Ok.br ?_ ?_ | refine Ok.gd ?_ ?_ | refine Ok.ld ?_ ?_)) <;> (intro g; (try simp only [Zz] at g); (first | (exfalso; omega) | skip)))))
        exact hQ'.out _ rfl
      · have hz : ¬ (L.length : Int) = 0 := by omega
        obtain ⟨b, q, o, rw, full, x, rfl, hb, hxi, hf, ho⟩ := hv3.get (i := 0) (by omega)
        have hbl := hcells_lt hb
        have g1 : 0 < (L.length : Int) := by omega
        have g1' : 0 < L.length := by omega
        simp only [Nat.zero_mul, Nat.add_zero] at hf ho
        clear hv3 hxi
        by_cases hM0 : M.length = 0
        · obtain rfl : M = [] := List.length_eq_zero_iff.1 hM0
          have hz2 : ((0 : Nat) : Int) = 0 := rfl
          clear hw3
          (repeat' (first | (simp -implicitDefEqProofs (maxSteps := 1000000) (disch := first | assumption | omega | (simp only [KE, JO, JP, KF]; omega)) only [*, lenV, List.length_nil, reps_2, ty3, ty4, ty22, ty24, ty25, ty50, slot3, plan3_13, Za, Zb, Zc, Zd, Ze, Zf, Zg, Zh, Zi, Zj, and_true, true_and, Ja, Jb, Jc, cond_true, cond_false, Jd, Je, Jf, Jg, Jh, Ji, Jj, St.put, Jk, Jl, Jm, Jn, Jo, Jp, Jq, Jr, Js, Jt, decide_true, decide_false, Nat.reduceEqDiff, Ju, Jv, Jw, Jx, Jy, rd, TI.kind, Nat.reduceLT, Nat.reduceAdd, and_self, Jz, J0, J1, J2, J3, J4, beq_self_eq_true, J5, J6, J7, J8, J9, JA, JB, Op.operands, JC, JD, JE, JF, JG, JH, JI, JJ, JK, JL, Nat.reduceBEq, JM, JN, JO, JP, JQ, JR, JS, JT, JU, JV, JW, wr, JX, JY, Nat.reduceSub, Nat.reduceMul, JZ, Ka, Kb, Kc, Kd, Ke, Kf, Kg, Kh, Ki, Kj, Kk, Kl, Km, Kn, Ko, Kp, Kq, Kr, Ks, Kt, Ku, Kv, Kw, Kx, Ky, Kz, K0, K1, K2, K3, K4, K5, K6, K7, K8, K9, KA, KC, KD, reduceCtorEq, Int.reduceLT, Int.reduceLE, Int.reduceAdd, Int.reduceSub, Int.reduceNeg, Int.reduceToNat, Int.reduceEq, KE, KF, Nat.reduceLeDiff, KG, KH, KI, or_true, true_or, or_false, false_or]) | ((with_reducible (first | refine Ok.br ?_ ?_ | refine Ok.gd ?_ ?_ | refine Ok.ld ?_ ?_)) <;> (intro g; (try simp only [Zz] at g); (first | (exfalso; omega) | skip)))))
          refine Ok.bnd2 (refs_at (hcells_new) (hv3'.out.ext ⟨_, rfl⟩) (hw3'.out.ext ⟨_, rfl⟩) (by omega) (by omega)) fun y h5 ⟨u, g5, p, hy, hx5, hp, hps, hpm⟩ => ?_
          cases hy
          have hpA : p = A := strict_eq p A hps hst'.out fun z => (hpm z).trans (hmm'.out z).symm
          subst hpA
          have hxa : Ext g h5 := Ext.trans ⟨_, rfl⟩ hx5
          have hs1 := same_at hp (hr2'.out.ext hxa)
          rw [decide_eq_true rfl] at hs1
          obtain ⟨a3, c3, z3, rfl⟩ := hp.sl
          (repeat' (first | (simp -implicitDefEqProofs (maxSteps := 1000000) (disch := first | assumption | omega | (simp only [KE, JO, JP, KF]; omega)) only [*, lenV, List.length_nil, reps_2, ty3, ty4, ty22, ty24, ty25, ty50, slot3, plan3_13, Za, Zb, Zc, Zd, Ze, Zf, Zg, Zh, Zi, Zj, and_true, true_and, Ja, Jb, Jc, cond_true, cond_false, Jd, Je, Jf, Jg, Jh, Ji, Jj, St.put, Jk, Jl, Jm, Jn, Jo, Jp, Jq, Jr, Js, Jt, decide_true, decide_false, Nat.reduceEqDiff, Ju, Jv, Jw, Jx, Jy, rd, TI.kind, Nat.reduceLT, Nat.reduceAdd, and_self, Jz, J0, J1, J2, J3, J4, beq_self_eq_true, J5, J6, J7, J8, J9, JA, JB, Op.operands, JC, JD, JE, JF, JG, JH, JI, JJ, JK, JL, Nat.reduceBEq, JM, JN, JO, JP, JQ, JR, JS, JT, JU, JV, JW, wr, JX, JY, Nat.reduceSub, Nat.reduceMul, JZ, Ka, Kb, Kc, Kd, Ke, Kf, Kg, Kh, Ki, Kj, Kk, Kl, Km, Kn, Ko, Kp, Kq, Kr, Ks, Kt, Ku, Kv, Kw, Kx, Ky, Kz, K0, K1, K2, K3, K4, K5, K6, K7, K8, K9, KA, KC, KD, reduceCtorEq, Int.reduceLT, Int.reduceLE, Int.reduceAdd, Int.reduceSub, Int.reduceNeg, Int.reduceToNat, Int.reduceEq, KE, KF, Nat.reduceLeDiff, KG, KH, KI, or_true, true_or, or_false, false_or]) | ((with_reducible (first | refine Ok.br ?_ ?_ | refine Ok.gd ?_ ?_ | refine Ok.ld ?_ ?_)) <;> (intro g; (try simp only [Zz] at g); (first | (exfalso; omega) | skip)))))
          clear hs1
          refine Ok.bnd2 (refs_at (hcells_new) ((hw3'.out.ext hxa).ext ⟨_, rfl⟩) ((hv3'.out.ext hxa).ext ⟨_, rfl⟩) (by omega) (by omega)) fun y h6 ⟨u6, g6, p6, hy, hx6, hp6, hps6, hpm6⟩ => ?_
          cases hy
          have hpB : p6 = p := strict_eq p6 p hps6 hps fun z => by
            rw [hpm6, hpm, List.mem_append, List.mem_append]
            exact Or.comm
          subst hpB
          have hs2 := same_at hp6 ((hr2'.out.ext hxa).ext (Ext.trans ⟨_, rfl⟩ hx6))
          rw [decide_eq_true rfl] at hs2
          obtain ⟨a4, c4, z4, rfl⟩ := hp6.sl
          have hrf := refs_0 h6
          have hlv := D_pin (X := X) (f := 17) (b := true) rfl h6
          (repeat' (first | (simp -implicitDefEqProofs (maxSteps := 1000000) (disch := first | assumption | omega | (simp only [KE, JO, JP, KF]; omega)) only [*, lenV, ty3, ty4, ty22, ty24, ty25, ty50, slot3, plan3_13, Za, Zb, Zc, Zd, Ze, Zf, Zg, Zh, Zi, Zj, and_true, true_and, Ja, Jb, Jc, cond_true, cond_false, Jd, Je, Jf, Jg, Jh, Ji, Jj, St.put, Jk, Jl, Jm, Jn, Jo, Jp, Jq, Jr, Js, Jt, decide_true, decide_false, Nat.reduceEqDiff, Ju, Jv, Jw, Jx, Jy, rd, TI.kind, Nat.reduceLT, Nat.reduceAdd, and_self, Jz, J0, J1, J2, J3, J4, beq_self_eq_true, J5, J6, J7, J8, J9, JA, JB, Op.operands, JC, JD, JE, JF, JG, JH, JI, JJ, JK, JL, Nat.reduceBEq, JM, JN, JO, JP, JQ, JR, JS, JT, JU, JV, JW, wr, JX, JY, Nat.reduceSub, Nat.reduceMul, JZ, Ka, Kb, Kc, Kd, Ke, Kf, Kg, Kh, Ki, Kj, Kk, Kl, Km, Kn, Ko, Kp, Kq, Kr, Ks, Kt, Ku, Kv, Kw, Kx, Ky, Kz, K0, K1, K2, K3, K4, K5, K6, K7, K8, K9, KA, KC, KD, reduceCtorEq, Int.reduceLT, Int.reduceLE, Int.reduceAdd, Int.reduceSub, Int.reduceNeg, Int.reduceToNat, Int.reduceEq, KE, KF, Nat.reduceLeDiff, KG, KH, KI, or_true, true_or, or_false, false_or]) | ((with_reducible (first | refine Ok.br ?_ ?_ | refine Ok.gd ?_ ?_ | refine Ok.ld ?_ ?_)) <;> (intro g; (try simp only [Zz] at g); (first | (exfalso; omega) | skip)))))
          exact hQ'.out _ rfl
        · have hz2 : ¬ (M.length : Int) = 0 := by omega
          obtain ⟨b2, q2, o2, rw2, full2, x2, rfl, hb2, hxi2, hf2, ho2⟩ := hw3.get (i := 0) (by omega)
          have hbl2 := hcells_lt hb2
          have g2 : 0 < (M.length : Int) := by omega
          have g2' : 0 < M.length := by omega
          simp only [Nat.zero_mul, Nat.add_zero] at hf2 ho2
          have hle1 := less_at x x2
          have hle2 := less06_at x x2
          clear hw3 hxi2
          (repeat' (first | (simp -implicitDefEqProofs (maxSteps := 1000000) (disch := first | assumption | omega | (simp only [KE, JO, JP, KF]; omega)) only [*, lenV, eq_self, reps_2, ty3, ty4, ty22, ty24, ty25, ty50, slot3, plan3_13, Za, Zb, Zc, Zd, Ze, Zf, Zg, Zh, Zi, Zj, and_true, true_and, Ja, Jb, Jc, cond_true, cond_false, Jd, Je, Jf, Jg, Jh, Ji, Jj, St.put, Jk, Jl, Jm, Jn, Jo, Jp, Jq, Jr, Js, Jt, decide_true, decide_false, Nat.reduceEqDiff, Ju, Jv, Jw, Jx, Jy, rd, TI.kind, Nat.reduceLT, Nat.reduceAdd, and_self, Jz, J0, J1, J2, J3, J4, beq_self_eq_true, J5, J6, J7, J8, J9, JA, JB, Op.operands, JC, JD, JE, JF, JG, JH, JI, JJ, JK, JL, Nat.reduceBEq, JM, JN, JO, JP, JQ, JR, JS, JT, JU, JV, JW, wr, JX, JY, Nat.reduceSub, Nat.reduceMul, JZ, Ka, Kb, Kc, Kd, Ke, Kf, Kg, Kh, Ki, Kj, Kk, Kl, Km, Kn, Ko, Kp, Kq, Kr, Ks, Kt, Ku, Kv, Kw, Kx, Ky, Kz, K0, K1, K2, K3, K4, K5, K6, K7, K8, K9, KA, KC, KD, reduceCtorEq, Int.reduceLT, Int.reduceLE, Int.reduceAdd, Int.reduceSub, Int.reduceNeg, Int.reduceToNat, Int.reduceEq, KE, KF, Nat.reduceLeDiff, KG, KH, KI, or_true, true_or, or_false, false_or]) | ((with_reducible (first | refine Ok.br ?_ ?_ | refine Ok.gd ?_ ?_ | refine Ok.ld ?_ ?_)) <;> (intro g; (try simp only [Zz] at g); (first | (exfalso; omega) | skip)))))
          refine Ok.bnd2 (refs_at (hcells_new) (hv3'.out.ext ⟨_, rfl⟩) (hw3'.out.ext ⟨_, rfl⟩) (by omega) (by omega)) fun y h5 ⟨u, g5, p, hy, hx5, hp, hps, hpm⟩ => ?_
          cases hy
          have hpA : p = A := strict_eq p A hps hst'.out fun z => (hpm z).trans (hmm'.out z).symm
          subst hpA
          have hxa : Ext g h5 := Ext.trans ⟨_, rfl⟩ hx5
          have hs1 := same_at hp (hr2'.out.ext hxa)
          rw [decide_eq_true rfl] at hs1
          obtain ⟨a3, c3, z3, rfl⟩ := hp.sl
          (repeat' (first | (simp -implicitDefEqProofs (maxSteps := 1000000) (disch := first | assumption | omega | (simp only [KE, JO, JP, KF]; omega)) only [*, lenV, List.length_nil, reps_2, ty3, ty4, ty22, ty24, ty25, ty50, slot3, plan3_13, Za, Zb, Zc, Zd, Ze, Zf, Zg, Zh, Zi, Zj, and_true, true_and, Ja, Jb, Jc, cond_true, cond_false, Jd, Je, Jf, Jg, Jh, Ji, Jj, St.put, Jk, Jl, Jm, Jn, Jo, Jp, Jq, Jr, Js, Jt, decide_true, decide_false, Nat.reduceEqDiff, Ju, Jv, Jw, Jx, Jy, rd, TI.kind, Nat.reduceLT, Nat.reduceAdd, and_self, Jz, J0, J1, J2, J3, J4, beq_self_eq_true, J5, J6, J7, J8, J9, JA, JB, Op.operands, JC, JD, JE, JF, JG, JH, JI, JJ, JK, JL, Nat.reduceBEq, JM, JN, JO, JP, JQ, JR, JS, JT, JU, JV, JW, wr, JX, JY, Nat.reduceSub, Nat.reduceMul, JZ, Ka, Kb, Kc, Kd, Ke, Kf, Kg, Kh, Ki, Kj, Kk, Kl, Km, Kn, Ko, Kp, Kq, Kr, Ks, Kt, Ku, Kv, Kw, Kx, Ky, Kz, K0, K1, K2, K3, K4, K5, K6, K7, K8, K9, KA, KC, KD, reduceCtorEq, Int.reduceLT, Int.reduceLE, Int.reduceAdd, Int.reduceSub, Int.reduceNeg, Int.reduceToNat, Int.reduceEq, KE, KF, Nat.reduceLeDiff, KG, KH, KI, or_true, true_or, or_false, false_or]) | ((with_reducible (first | refine Ok.br ?_ ?_ | refine Ok.gd ?_ ?_ | refine Ok.ld ?_ ?_)) <;> (intro g; (try simp only [Zz] at g); (first | (exfalso; omega) | skip)))))
          clear hs1
          refine Ok.bnd2 (refs_at (hcells_new) ((hw3'.out.ext hxa).ext ⟨_, rfl⟩) ((hv3'.out.ext hxa).ext ⟨_, rfl⟩) (by omega) (by omega)) fun y h6 ⟨u6, g6, p6, hy, hx6, hp6, hps6, hpm6⟩ => ?_
          cases hy
          have hpB : p6 = p := strict_eq p6 p hps6 hps fun z => by
            rw [hpm6, hpm, List.mem_append, List.mem_append]
            exact Or.comm
          subst hpB
          have hs2 := same_at hp6 ((hr2'.out.ext hxa).ext (Ext.trans ⟨_, rfl⟩ hx6))
          rw [decide_eq_true rfl] at hs2
          obtain ⟨a4, c4, z4, rfl⟩ := hp6.sl
          have hrf := refs_0 h6
          have hlv := D_pin (X := X) (f := 17) (b := true) rfl h6
          (repeat' (first | (simp -implicitDefEqProofs (maxSteps := 1000000) (disch := first | assumption | omega | (simp only [KE, JO, JP, KF]; omega)) only [*, lenV, ty3, ty4, ty22, ty24, ty25, ty50, slot3, plan3_13, Za, Zb, Zc, Zd, Ze, Zf, Zg, Zh, Zi, Zj, and_true, true_and, Ja, Jb, Jc, cond_true, cond_false, Jd, Je, Jf, Jg, Jh, Ji, Jj, St.put, Jk, Jl, Jm, Jn, Jo, Jp, Jq, Jr, Js, Jt, decide_true, decide_false, Nat.reduceEqDiff, Ju, Jv, Jw, Jx, Jy, rd, TI.kind, Nat.reduceLT, Nat.reduceAdd, and_self, Jz, J0, J1, J2, J3, J4, beq_self_eq_true, J5, J6, J7, J8, J9, JA, JB, Op.operands, JC, JD, JE, JF, JG, JH, JI, JJ, JK, JL, Nat.reduceBEq, JM, JN, JO, JP, JQ, JR, JS, JT, JU, JV, JW, wr, JX, JY, Nat.reduceSub, Nat.reduceMul, JZ, Ka, Kb, Kc, Kd, Ke, Kf, Kg, Kh, Ki, Kj, Kk, Kl, Km, Kn, Ko, Kp, Kq, Kr, Ks, Kt, Ku, Kv, Kw, Kx, Ky, Kz, K0, K1, K2, K3, K4, K5, K6, K7, K8, K9, KA, KC, KD, reduceCtorEq, Int.reduceLT, Int.reduceLE, Int.reduceAdd, Int.reduceSub, Int.reduceNeg, Int.reduceToNat, Int.reduceEq, KE, KF, Nat.reduceLeDiff, KG, KH, KI, or_true, true_or, or_false, false_or]) | ((with_reducible (first | refine Ok.br ?_ ?_ | refine Ok.gd ?_ ?_ | refine Ok.ld ?_ ?_)) <;> (intro g; (try simp only [Zz] at g); (first | (exfalso; omega) | skip)))))
          exact hQ'.out _ rfl
end Go.Ev
