/-
Sorting pairs of numbers: partition. Printed by tools/sort_print.py.
-/
import Derived.Test.YtgkmfoljhapmiaaBun
import Derived.Test.YtgkmfoljhapmiaaSortC
set_option linter.unusedSimpArgs false
set_option linter.unusedVariables false
set_option maxRecDepth 100000
namespace Go.Ev
open Int renaming le_refl → Ja, toNat_natCast → Kz
open Go.Ev renaming wantedT → Jb, exPure → Jd, opd → Je, getT → Jf, constT → Jg, ofValue → Jh, cellsV → Ji, newVar → Jj, setT → Jk, posT → Jl, fieldAddrV → Ju, fieldOff → Jv, load → Jw, store → Jx, lcells → Jy, binOp → Jz, intOp → J0, leadsT → J5, again → J6, rdV → J7, vsame → J8, vsames → J9, makeSliceV → JF, buildV → JG, fillV → JH, splice → JI, results → JU, resV → JV, isCell → JW, nilCheckV → JY, allV → Ke, builtinV → Kf, lenV → Kg, indexAddrV → Kh, unOp → Ki, minmaxV → Kj, minmax → Kk, sliceV → Kl, bound → Km, asInt → Kn, idx → Ko, idxLe → Kp, appendV → Kq, copyV → Kr, clearV → Ks, convV → Kt, putBlk → Ku, sliceCells → Kv, newBlk → Kw, buildSliceV → Kx, shift → Ky
open Bool renaming not_not → Jc, not_true → J1, not_false → J2, true_beq → J3, false_beq → J4, and_true → JA, true_and → JB, or_false → K4, or_true → K5, true_or → K6, false_or → K7, and_false → K8, false_and → K9
open Option renaming bind_some → Jm, isSome_none → K0, isNone_none → K1, isSome_some → K2, isNone_some → K3
open List renaming getD_cons_zero → Jn, getD_cons_succ → Jo, set_cons_zero → Jp, set_cons_succ → Jq, getElem?_cons_zero → Jr, getElem?_cons_succ → Js, getElem?_nil → Jt, elem_cons → JC, elem_nil → JD, toList_toArray → JE, zip → JJ, map_cons → JK, map_nil → JL, all_cons → JM, all_nil → JN, length_cons → JO, length_nil → JP, take → JQ, drop → JR, cons_append → JS, nil_append → JT, set → JX, append_nil → Kd, append_assoc → KD, length_append → KE, length_set → KF, replicate_zero → KG, flatten_nil → KH, set_set → KI
open Nat renaming mul_one → JZ, zero_add → Ka, add_zero → Kb, le_refl → Kc, add_sub_cancel_left → KA, sub_self → KC
open Go.Proofs Go.Sort
variable {fv : V} {lt : RP → RP → Bool}

set_option maxHeartbeats 4000000 in
theorem part_at (hc : Cmp fv lt) {H : Heap} {b g n cap z : Nat} {d : Array RP} (hb : b < H.length) (hn : n ≤ d.size) (hl : d.size ≤ 1000000000) {i0 j0 pv : Nat} (h1 : i0 ≤ pv) (h2 : pv < j0) (h3 : j0 ≤ n) :
    D X (.fn 55 []) [.sl (.at b g 0) n cap z, .int .i64 i0, .int .i64 j0, .int .i64 pv, fv] (hs H b g d) = some (.tup [.int .i64 (partition lt d i0 j0 pv).1, .bool (partition lt d i0 j0 pv).2.1], hs H b g (partition lt d i0 j0 pv).2.2) := by
  refine Ok.eq ?_
  refine Ok.aim fun Q hQ => ?_
  have hQ' := Hid.mk hQ
  clear hQ
  unfold hs at hQ' ⊢
  have e1 : (j0 : Int) - 1 = ((j0 - 1 : Nat) : Int) := by omega
  have g1 : 0 ≤ (i0 : Int) ∧ (i0 : Int) < (n : Int) := by omega
  have g2 : 0 ≤ (pv : Int) ∧ (pv : Int) < (n : Int) := by omega
  have g3 : i0 < d.size := by omega
  have g4 : pv < d.size := by omega
  have hng' : Hid (∀ x y, lt x y = decide (hc.c x y < 0)) := ⟨hc.neg⟩
  (refine Ok.body body55 pin55 ?_; simp only [c55, Try.f55, Option.getD_some, nslot55, List.append_nil, List.map, List.replicate, List.length_cons, List.length_nil, Nat.reduceAdd, Nat.reduceSub, List.cons_append, List.nil_append])
  (repeat' (first | (simp -implicitDefEqProofs (maxSteps := 1000000) (disch := first | assumption | omega | (simp only [KE, JO, JP, KF]; omega)) only [*, lenV, fl_len, fl_at, fl_set, fl_set2, swp_eq, hc.run, eq_self, Array.size_setIfInBounds, pr_eta, ty3, ty4, ty22, ty24, ty25, slot55, plan55_1, plan55_3, plan55_5, plan55_8, plan55_10, plan55_13, plan55_15, plan55_18, plan55_21, Za, Zb, Zc, Zd, Ze, Zf, Zg, Zh, Zi, Zj, and_true, true_and, Ja, Jb, Jc, cond_true, cond_false, Jd, Je, Jf, Jg, Jh, Ji, Jj, St.put, Jk, Jl, Jm, Jn, Jo, Jp, Jq, Jr, Js, Jt, decide_true, decide_false, Nat.reduceEqDiff, Ju, Jv, Jw, Jx, Jy, rd, TI.kind, Nat.reduceLT, Nat.reduceAdd, and_self, Jz, J0, J1, J2, J3, J4, beq_self_eq_true, J5, J6, J7, J8, J9, JA, JB, Op.operands, JC, JD, JE, JF, JG, JH, JI, JJ, JK, JL, Nat.reduceBEq, JM, JN, JO, JP, JQ, JR, JS, JT, JU, JV, JW, wr, JX, JY, Nat.reduceSub, Nat.reduceMul, JZ, Ka, Kb, Kc, Kd, Ke, Kf, Kg, Kh, Ki, Kj, Kk, Kl, Km, Kn, Ko, Kp, Kq, Kr, Ks, Kt, Ku, Kv, Kw, Kx, Ky, Kz, K0, K1, K2, K3, K4, K5, K6, K7, K8, K9, KA, KC, KD, reduceCtorEq, Int.reduceLT, Int.reduceLE, Int.reduceAdd, Int.reduceSub, Int.reduceNeg, Int.reduceToNat, Int.reduceEq, KE, KF, Nat.reduceLeDiff, KG, KH, KI, or_true, true_or, or_false, false_or]) | ((with_reducible (first | refine Ok.br ?_ ?_ | refine Ok.gd ?_ ?_ | refine Ok.ld ?_ ?_)) <;> (intro g; (try simp only [Zz] at g); (first | (exfalso; omega) | skip)))))
  have hsz : (swp d i0 pv).size = d.size := swp_size d i0 pv
  generalize he : swp d i0 pv = e at hsz
  have he' := Hid.mk he
  clear he g2 g3 g4
  have g5 : i0 < e.size := by omega
  obtain ⟨i, hi⟩ : ∃ i, i = i0 + 1 := ⟨_, rfl⟩
  have hi' : (i0 : Int) + 1 = (i : Int) := by omega
  obtain ⟨j, hj⟩ : ∃ j, j = j0 - 1 := ⟨_, rfl⟩
  rw [← hj]
  simp only [hi']
  have hij : i0 < i ∧ j < j0 := by omega
  have hi2 := Hid.mk hi
  have hj2 := Hid.mk hj
  clear hi' e1 hi hj
  refine Ok.loop [false, false, false, false, false, false, false, false, false, false, false, false, true, false, false, false, false, false, false, false, false, false, false, false, false, false, false, false, false, false, false, false, true, true, true, true, true, true, true, true, true, true, true, true, true, true, true, true, true, true, false, false, false, false, false, false, false, false, false, false, false, false, false, false, false, false, false, false, false, false, false, false, false, false, false, false, false, false, false, false, false, false, false, false, false, false, false, false, false, false, false, false, false, false, false, false, false, false, false, false, false, false, false, false, false, false, false, false, false, false, false, false, false, false, false, false, false, false, false, false, false, false, false, false, false, false, false, false, false, false, false, false, false, false, false, false, false, false, false, false, false, false, false, false, false, false, false, false, false, false, false, false, false, false, false, false, false, false, false, false, false, false, false, false, false, false, false, false, false, false, false, false, false, false, false, false, false, false] (fun m s2 => ∃ i2 : Nat, m = j + 1 - i2 ∧ i ≤ i2 ∧ tv s2.e 12 = .v (.int .i64 i2) ∧ s2.l = [] ∧ s2.h = H.set b (.cells g true (fl e)) ∧ scanUp (fun x => lt x e[i0]!) e j i2 = scanUp (fun x => lt x e[i0]!) e j i)
    (fun x s2 => x = .exit 0 ∧ tv s2.e 12 = .v (.int .i64 (scanUp (fun x => lt x e[i0]!) e j i : Nat)) ∧ s2.l = [] ∧ s2.h = H.set b (.cells g true (fl e))) (j + 1 - i) ⟨i, rfl, Nat.le_refl _, rfl, rfl, rfl, rfl⟩ ?_ ?_
  · intro m2 ⟨e3, l3, H3⟩ hW2 ⟨i2, hm2, hi2, h9, q2, q3, hsc⟩
    dsimp only at hW2 h9 q2 q3
    subst l3 H3
    rw [hW2.spread]
    simp only [spread_t, spread_f, spread_n, Nat.zero_add, Nat.reduceAdd, h9]
    clear hW2
    have hsc' := Hid.mk hsc
    clear hsc
    by_cases hle : i2 ≤ j
    · have hle' : (i2 : Int) ≤ (j : Int) := by omega
      have g1 : 0 ≤ (i2 : Int) ∧ (i2 : Int) < (n : Int) := by omega
      have g2 : i2 < e.size := by omega
      by_cases hp : hc.c e[i2]! e[i0]! < 0
      · (repeat' (first | (simp -implicitDefEqProofs (maxSteps := 1000000) (disch := first | assumption | omega | (simp only [KE, JO, JP, KF]; omega)) only [*, lenV, fl_len, fl_at, fl_set, fl_set2, swp_eq, hc.run, eq_self, Array.size_setIfInBounds, pr_eta, ty3, ty4, ty22, ty24, ty25, slot55, plan55_1, plan55_3, plan55_5, plan55_8, plan55_10, plan55_13, plan55_15, plan55_18, plan55_21, Za, Zb, Zc, Zd, Ze, Zf, Zg, Zh, Zi, Zj, and_true, true_and, Ja, Jb, Jc, cond_true, cond_false, Jd, Je, Jf, Jg, Jh, Ji, Jj, St.put, Jk, Jl, Jm, Jn, Jo, Jp, Jq, Jr, Js, Jt, decide_true, decide_false, Nat.reduceEqDiff, Ju, Jv, Jw, Jx, Jy, rd, TI.kind, Nat.reduceLT, Nat.reduceAdd, and_self, Jz, J0, J1, J2, J3, J4, beq_self_eq_true, J5, J6, J7, J8, J9, JA, JB, Op.operands, JC, JD, JE, JF, JG, JH, JI, JJ, JK, JL, Nat.reduceBEq, JM, JN, JO, JP, JQ, JR, JS, JT, JU, JV, JW, wr, JX, JY, Nat.reduceSub, Nat.reduceMul, JZ, Ka, Kb, Kc, Kd, Ke, Kf, Kg, Kh, Ki, Kj, Kk, Kl, Km, Kn, Ko, Kp, Kq, Kr, Ks, Kt, Ku, Kv, Kw, Kx, Ky, Kz, K0, K1, K2, K3, K4, K5, K6, K7, K8, K9, KA, KC, KD, reduceCtorEq, Int.reduceLT, Int.reduceLE, Int.reduceAdd, Int.reduceSub, Int.reduceNeg, Int.reduceToNat, Int.reduceEq, KE, KF, Nat.reduceLeDiff, KG, KH, KI, or_true, true_or, or_false, false_or]) | ((with_reducible (first | refine Ok.br ?_ ?_ | refine Ok.gd ?_ ?_ | refine Ok.ld ?_ ?_)) <;> (intro g; (try simp only [Zz] at g); (first | (exfalso; omega) | skip)))))
        exact Turn.next (j + 1 - (i2 + 1)) (by omega) ⟨rfl, i2 + 1, rfl, by omega, rfl, rfl, rfl, by rw [← hsc'.out, scanUp_next (p := fun x => lt x e[i0]!) hle (by rw [hng'.out]; exact decide_eq_true hp)]⟩
      · (repeat' (first | (simp -implicitDefEqProofs (maxSteps := 1000000) (disch := first | assumption | omega | (simp only [KE, JO, JP, KF]; omega)) only [*, lenV, fl_len, fl_at, fl_set, fl_set2, swp_eq, hc.run, eq_self, Array.size_setIfInBounds, pr_eta, ty3, ty4, ty22, ty24, ty25, slot55, plan55_1, plan55_3, plan55_5, plan55_8, plan55_10, plan55_13, plan55_15, plan55_18, plan55_21, Za, Zb, Zc, Zd, Ze, Zf, Zg, Zh, Zi, Zj, and_true, true_and, Ja, Jb, Jc, cond_true, cond_false, Jd, Je, Jf, Jg, Jh, Ji, Jj, St.put, Jk, Jl, Jm, Jn, Jo, Jp, Jq, Jr, Js, Jt, decide_true, decide_false, Nat.reduceEqDiff, Ju, Jv, Jw, Jx, Jy, rd, TI.kind, Nat.reduceLT, Nat.reduceAdd, and_self, Jz, J0, J1, J2, J3, J4, beq_self_eq_true, J5, J6, J7, J8, J9, JA, JB, Op.operands, JC, JD, JE, JF, JG, JH, JI, JJ, JK, JL, Nat.reduceBEq, JM, JN, JO, JP, JQ, JR, JS, JT, JU, JV, JW, wr, JX, JY, Nat.reduceSub, Nat.reduceMul, JZ, Ka, Kb, Kc, Kd, Ke, Kf, Kg, Kh, Ki, Kj, Kk, Kl, Km, Kn, Ko, Kp, Kq, Kr, Ks, Kt, Ku, Kv, Kw, Kx, Ky, Kz, K0, K1, K2, K3, K4, K5, K6, K7, K8, K9, KA, KC, KD, reduceCtorEq, Int.reduceLT, Int.reduceLE, Int.reduceAdd, Int.reduceSub, Int.reduceNeg, Int.reduceToNat, Int.reduceEq, KE, KF, Nat.reduceLeDiff, KG, KH, KI, or_true, true_or, or_false, false_or]) | ((with_reducible (first | refine Ok.br ?_ ?_ | refine Ok.gd ?_ ?_ | refine Ok.ld ?_ ?_)) <;> (intro g; (try simp only [Zz] at g); (first | (exfalso; omega) | skip)))))
        exact Turn.exit ⟨rfl, rfl, by rw [← hsc'.out, scanUp_stop (p := fun x => lt x e[i0]!) (.inr (by rw [hng'.out]; exact decide_eq_false hp))] <;> rfl, rfl, rfl⟩
    · have hle' : ¬ (i2 : Int) ≤ (j : Int) := by omega
      (repeat' (first | (simp -implicitDefEqProofs (maxSteps := 1000000) (disch := first | assumption | omega | (simp only [KE, JO, JP, KF]; omega)) only [*, lenV, ty3, ty4, ty22, ty24, ty25, slot55, plan55_1, plan55_3, plan55_5, plan55_8, plan55_10, plan55_13, plan55_15, plan55_18, plan55_21, Za, Zb, Zc, Zd, Ze, Zf, Zg, Zh, Zi, Zj, and_true, true_and, Ja, Jb, Jc, cond_true, cond_false, Jd, Je, Jf, Jg, Jh, Ji, Jj, St.put, Jk, Jl, Jm, Jn, Jo, Jp, Jq, Jr, Js, Jt, decide_true, decide_false, Nat.reduceEqDiff, Ju, Jv, Jw, Jx, Jy, rd, TI.kind, Nat.reduceLT, Nat.reduceAdd, and_self, Jz, J0, J1, J2, J3, J4, beq_self_eq_true, J5, J6, J7, J8, J9, JA, JB, Op.operands, JC, JD, JE, JF, JG, JH, JI, JJ, JK, JL, Nat.reduceBEq, JM, JN, JO, JP, JQ, JR, JS, JT, JU, JV, JW, wr, JX, JY, Nat.reduceSub, Nat.reduceMul, JZ, Ka, Kb, Kc, Kd, Ke, Kf, Kg, Kh, Ki, Kj, Kk, Kl, Km, Kn, Ko, Kp, Kq, Kr, Ks, Kt, Ku, Kv, Kw, Kx, Ky, Kz, K0, K1, K2, K3, K4, K5, K6, K7, K8, K9, KA, KC, KD, reduceCtorEq, Int.reduceLT, Int.reduceLE, Int.reduceAdd, Int.reduceSub, Int.reduceNeg, Int.reduceToNat, Int.reduceEq, KE, KF, Nat.reduceLeDiff, KG, KH, KI, or_true, true_or, or_false, false_or]) | ((with_reducible (first | refine Ok.br ?_ ?_ | refine Ok.gd ?_ ?_ | refine Ok.ld ?_ ?_)) <;> (intro g; (try simp only [Zz] at g); (first | (exfalso; omega) | skip)))))
      exact Turn.exit ⟨rfl, rfl, by rw [← hsc'.out, scanUp_stop (p := fun x => lt x e[i0]!) (.inl hle)] <;> rfl, rfl, rfl⟩
  · intro x ⟨e3, l3, H3⟩ hW2 ⟨hx, h9, q2, q3⟩
    dsimp only at hW2 h9 q2 q3
    subst l3 hx H3
    rw [hW2.spread]
    simp only [spread_t, spread_f, spread_n, Nat.zero_add, Nat.reduceAdd, h9]
    clear hW2
    have hge := scanUp_ge (fun x => lt x e[i0]!) e j i
    generalize hI : scanUp (fun x => lt x e[i0]!) e j i = I at hge h9
    have hI' := Hid.mk hI
    clear hI
    (repeat' (first | (simp -implicitDefEqProofs (maxSteps := 1000000) (disch := first | assumption | omega | (simp only [KE, JO, JP, KF]; omega)) only [*, lenV, ty3, ty4, ty22, ty24, ty25, slot55, plan55_1, plan55_3, plan55_5, plan55_8, plan55_10, plan55_13, plan55_15, plan55_18, plan55_21, Za, Zb, Zc, Zd, Ze, Zf, Zg, Zh, Zi, Zj, and_true, true_and, Ja, Jb, Jc, cond_true, cond_false, Jd, Je, Jf, Jg, Jh, Ji, Jj, St.put, Jk, Jl, Jm, Jn, Jo, Jp, Jq, Jr, Js, Jt, decide_true, decide_false, Nat.reduceEqDiff, Ju, Jv, Jw, Jx, Jy, rd, TI.kind, Nat.reduceLT, Nat.reduceAdd, and_self, Jz, J0, J1, J2, J3, J4, beq_self_eq_true, J5, J6, J7, J8, J9, JA, JB, Op.operands, JC, JD, JE, JF, JG, JH, JI, JJ, JK, JL, Nat.reduceBEq, JM, JN, JO, JP, JQ, JR, JS, JT, JU, JV, JW, wr, JX, JY, Nat.reduceSub, Nat.reduceMul, JZ, Ka, Kb, Kc, Kd, Ke, Kf, Kg, Kh, Ki, Kj, Kk, Kl, Km, Kn, Ko, Kp, Kq, Kr, Ks, Kt, Ku, Kv, Kw, Kx, Ky, Kz, K0, K1, K2, K3, K4, K5, K6, K7, K8, K9, KA, KC, KD, reduceCtorEq, Int.reduceLT, Int.reduceLE, Int.reduceAdd, Int.reduceSub, Int.reduceNeg, Int.reduceToNat, Int.reduceEq, KE, KF, Nat.reduceLeDiff, KG, KH, KI, or_true, true_or, or_false, false_or]) | ((with_reducible (first | refine Ok.br ?_ ?_ | refine Ok.gd ?_ ?_ | refine Ok.ld ?_ ?_)) <;> (intro g; (try simp only [Zz] at g); (first | (exfalso; omega) | skip)))))
    refine Ok.loop [false, false, false, false, false, false, false, false, false, false, false, false, false, true, false, false, false, false, false, false, false, false, false, false, false, false, false, false, false, false, false, false, false, false, false, false, false, false, false, false, false, false, false, false, false, false, false, false, false, false, true, true, true, true, true, true, true, true, true, true, true, true, true, true, true, true, true, true, true, false, false, false, false, false, false, false, false, false, false, false, false, false, false, false, false, false, false, false, false, false, false, false, false, false, false, false, false, false, false, false, false, false, false, false, false, false, false, false, false, false, false, false, false, false, false, false, false, false, false, false, false, false, false, false, false, false, false, false, false, false, false, false, false, false, false, false, false, false, false, false, false, false, false, false, false, false, false, false, false, false, false, false, false, false, false, false, false, false, false, false, false, false, false, false, false, false, false, false, false, false, false, false, false, false, false, false, false, false] (fun m s2 => ∃ j2 : Nat, m = j2 ∧ j2 ≤ j ∧ tv s2.e 13 = .v (.int .i64 j2) ∧ s2.l = [] ∧ s2.h = H.set b (.cells g true (fl e)) ∧ scanDown (fun x => !lt x e[i0]!) e I j2 = scanDown (fun x => !lt x e[i0]!) e I j)
      (fun x s2 => x = .exit 2 ∧ tv s2.e 13 = .v (.int .i64 (scanDown (fun x => !lt x e[i0]!) e I j : Nat)) ∧ s2.l = [] ∧ s2.h = H.set b (.cells g true (fl e))) j ⟨j, rfl, Nat.le_refl _, rfl, rfl, rfl, rfl⟩ ?_ ?_
    · intro m2 ⟨e3, l3, H3⟩ hW2 ⟨j2, hm2, hj2, h9, q2, q3, hsc⟩
      dsimp only at hW2 h9 q2 q3
      subst l3 H3
      rw [hW2.spread]
      simp only [spread_t, spread_f, spread_n, Nat.zero_add, Nat.reduceAdd, h9]
      clear hW2
      have hsc' := Hid.mk hsc
      clear hsc
      by_cases hle : I ≤ j2
      · obtain ⟨j2, rfl⟩ : ∃ j', j2 = j' + 1 := ⟨j2 - 1, by omega⟩
        have hle' : (I : Int) ≤ ((j2 + 1 : Nat) : Int) := by omega
        have e1 : ((j2 + 1 : Nat) : Int) - 1 = (j2 : Int) := by omega
        have g1 : 0 ≤ ((j2 + 1 : Nat) : Int) ∧ ((j2 + 1 : Nat) : Int) < (n : Int) := by omega
        have g2 : j2 + 1 < e.size := by omega
        by_cases hp : hc.c e[j2 + 1]! e[i0]! < 0
        · (repeat' (first | (simp -implicitDefEqProofs (maxSteps := 1000000) (disch := first | assumption | omega | (simp only [KE, JO, JP, KF]; omega)) only [*, lenV, fl_len, fl_at, fl_set, fl_set2, swp_eq, hc.run, eq_self, Array.size_setIfInBounds, pr_eta, ty3, ty4, ty22, ty24, ty25, slot55, plan55_1, plan55_3, plan55_5, plan55_8, plan55_10, plan55_13, plan55_15, plan55_18, plan55_21, Za, Zb, Zc, Zd, Ze, Zf, Zg, Zh, Zi, Zj, and_true, true_and, Ja, Jb, Jc, cond_true, cond_false, Jd, Je, Jf, Jg, Jh, Ji, Jj, St.put, Jk, Jl, Jm, Jn, Jo, Jp, Jq, Jr, Js, Jt, decide_true, decide_false, Nat.reduceEqDiff, Ju, Jv, Jw, Jx, Jy, rd, TI.kind, Nat.reduceLT, Nat.reduceAdd, and_self, Jz, J0, J1, J2, J3, J4, beq_self_eq_true, J5, J6, J7, J8, J9, JA, JB, Op.operands, JC, JD, JE, JF, JG, JH, JI, JJ, JK, JL, Nat.reduceBEq, JM, JN, JO, JP, JQ, JR, JS, JT, JU, JV, JW, wr, JX, JY, Nat.reduceSub, Nat.reduceMul, JZ, Ka, Kb, Kc, Kd, Ke, Kf, Kg, Kh, Ki, Kj, Kk, Kl, Km, Kn, Ko, Kp, Kq, Kr, Ks, Kt, Ku, Kv, Kw, Kx, Ky, Kz, K0, K1, K2, K3, K4, K5, K6, K7, K8, K9, KA, KC, KD, reduceCtorEq, Int.reduceLT, Int.reduceLE, Int.reduceAdd, Int.reduceSub, Int.reduceNeg, Int.reduceToNat, Int.reduceEq, KE, KF, Nat.reduceLeDiff, KG, KH, KI, or_true, true_or, or_false, false_or]) | ((with_reducible (first | refine Ok.br ?_ ?_ | refine Ok.gd ?_ ?_ | refine Ok.ld ?_ ?_)) <;> (intro g; (try simp only [Zz] at g); (first | (exfalso; omega) | skip)))))
          exact Turn.exit ⟨rfl, rfl, by rw [← hsc'.out, scanDown_stop (p := fun x => !lt x e[i0]!) (.inr (by rw [hng'.out]; simp only [decide_eq_true hp, Bool.not_true]))] <;> rfl, rfl, rfl⟩
        · (repeat' (first | (simp -implicitDefEqProofs (maxSteps := 1000000) (disch := first | assumption | omega | (simp only [KE, JO, JP, KF]; omega)) only [*, lenV, fl_len, fl_at, fl_set, fl_set2, swp_eq, hc.run, eq_self, Array.size_setIfInBounds, pr_eta, ty3, ty4, ty22, ty24, ty25, slot55, plan55_1, plan55_3, plan55_5, plan55_8, plan55_10, plan55_13, plan55_15, plan55_18, plan55_21, Za, Zb, Zc, Zd, Ze, Zf, Zg, Zh, Zi, Zj, and_true, true_and, Ja, Jb, Jc, cond_true, cond_false, Jd, Je, Jf, Jg, Jh, Ji, Jj, St.put, Jk, Jl, Jm, Jn, Jo, Jp, Jq, Jr, Js, Jt, decide_true, decide_false, Nat.reduceEqDiff, Ju, Jv, Jw, Jx, Jy, rd, TI.kind, Nat.reduceLT, Nat.reduceAdd, and_self, Jz, J0, J1, J2, J3, J4, beq_self_eq_true, J5, J6, J7, J8, J9, JA, JB, Op.operands, JC, JD, JE, JF, JG, JH, JI, JJ, JK, JL, Nat.reduceBEq, JM, JN, JO, JP, JQ, JR, JS, JT, JU, JV, JW, wr, JX, JY, Nat.reduceSub, Nat.reduceMul, JZ, Ka, Kb, Kc, Kd, Ke, Kf, Kg, Kh, Ki, Kj, Kk, Kl, Km, Kn, Ko, Kp, Kq, Kr, Ks, Kt, Ku, Kv, Kw, Kx, Ky, Kz, K0, K1, K2, K3, K4, K5, K6, K7, K8, K9, KA, KC, KD, reduceCtorEq, Int.reduceLT, Int.reduceLE, Int.reduceAdd, Int.reduceSub, Int.reduceNeg, Int.reduceToNat, Int.reduceEq, KE, KF, Nat.reduceLeDiff, KG, KH, KI, or_true, true_or, or_false, false_or]) | ((with_reducible (first | refine Ok.br ?_ ?_ | refine Ok.gd ?_ ?_ | refine Ok.ld ?_ ?_)) <;> (intro g; (try simp only [Zz] at g); (first | (exfalso; omega) | skip)))))
          exact Turn.next j2 (by omega) ⟨rfl, j2, rfl, by omega, rfl, rfl, rfl, by rw [← hsc'.out, scanDown_next (p := fun x => !lt x e[i0]!) hle (by rw [hng'.out]; simp only [decide_eq_false hp, Bool.not_false])]⟩
      · have hle' : ¬ (I : Int) ≤ (j2 : Int) := by omega
        (repeat' (first | (simp -implicitDefEqProofs (maxSteps := 1000000) (disch := first | assumption | omega | (simp only [KE, JO, JP, KF]; omega)) only [*, lenV, ty3, ty4, ty22, ty24, ty25, slot55, plan55_1, plan55_3, plan55_5, plan55_8, plan55_10, plan55_13, plan55_15, plan55_18, plan55_21, Za, Zb, Zc, Zd, Ze, Zf, Zg, Zh, Zi, Zj, and_true, true_and, Ja, Jb, Jc, cond_true, cond_false, Jd, Je, Jf, Jg, Jh, Ji, Jj, St.put, Jk, Jl, Jm, Jn, Jo, Jp, Jq, Jr, Js, Jt, decide_true, decide_false, Nat.reduceEqDiff, Ju, Jv, Jw, Jx, Jy, rd, TI.kind, Nat.reduceLT, Nat.reduceAdd, and_self, Jz, J0, J1, J2, J3, J4, beq_self_eq_true, J5, J6, J7, J8, J9, JA, JB, Op.operands, JC, JD, JE, JF, JG, JH, JI, JJ, JK, JL, Nat.reduceBEq, JM, JN, JO, JP, JQ, JR, JS, JT, JU, JV, JW, wr, JX, JY, Nat.reduceSub, Nat.reduceMul, JZ, Ka, Kb, Kc, Kd, Ke, Kf, Kg, Kh, Ki, Kj, Kk, Kl, Km, Kn, Ko, Kp, Kq, Kr, Ks, Kt, Ku, Kv, Kw, Kx, Ky, Kz, K0, K1, K2, K3, K4, K5, K6, K7, K8, K9, KA, KC, KD, reduceCtorEq, Int.reduceLT, Int.reduceLE, Int.reduceAdd, Int.reduceSub, Int.reduceNeg, Int.reduceToNat, Int.reduceEq, KE, KF, Nat.reduceLeDiff, KG, KH, KI, or_true, true_or, or_false, false_or]) | ((with_reducible (first | refine Ok.br ?_ ?_ | refine Ok.gd ?_ ?_ | refine Ok.ld ?_ ?_)) <;> (intro g; (try simp only [Zz] at g); (first | (exfalso; omega) | skip)))))
        exact Turn.exit ⟨rfl, rfl, by rw [← hsc'.out, scanDown_stop0 (p := fun x => !lt x e[i0]!) hle] <;> rfl, rfl, rfl⟩
    · intro x ⟨e3, l3, H3⟩ hW2 ⟨hx, h9, q2, q3⟩
      dsimp only at hW2 h9 q2 q3
      subst l3 hx H3
      rw [hW2.spread]
      simp only [spread_t, spread_f, spread_n, Nat.zero_add, Nat.reduceAdd, h9]
      clear hW2
      have hle := scanDown_le (fun x => !lt x e[i0]!) e I j
      generalize hJ : scanDown (fun x => !lt x e[i0]!) e I j = J at hle h9
      have hJ' := Hid.mk hJ
      clear hJ
      have hpt : partition lt d i0 j0 pv = if I > J then (J, true, swp e J i0) else ((partLoop lt i0 (I + 1) (J - 1) (swp e I J)).1, false, swp (partLoop lt i0 (I + 1) (J - 1) (swp e I J)).2 (partLoop lt i0 (I + 1) (J - 1) (swp e I J)).1 i0) := by
        unfold partition
        rw [he'.out]
        simp only [← hi2.out, ← hj2.out, hI'.out, hJ'.out]
      have hpt' := Hid.mk hpt
      clear hpt
      by_cases hgt : J < I
      · have hgt' : (J : Int) < (I : Int) := by omega
        have g3 : 0 ≤ (J : Int) ∧ (J : Int) < (n : Int) := by omega
        have g6 : J < e.size := by omega
        (repeat' (first | (simp -implicitDefEqProofs (maxSteps := 1000000) (disch := first | assumption | omega | (simp only [KE, JO, JP, KF]; omega)) only [*, lenV, fl_len, fl_at, fl_set, fl_set2, swp_eq, hc.run, eq_self, Array.size_setIfInBounds, pr_eta, ty3, ty4, ty22, ty24, ty25, slot55, plan55_1, plan55_3, plan55_5, plan55_8, plan55_10, plan55_13, plan55_15, plan55_18, plan55_21, Za, Zb, Zc, Zd, Ze, Zf, Zg, Zh, Zi, Zj, and_true, true_and, Ja, Jb, Jc, cond_true, cond_false, Jd, Je, Jf, Jg, Jh, Ji, Jj, St.put, Jk, Jl, Jm, Jn, Jo, Jp, Jq, Jr, Js, Jt, decide_true, decide_false, Nat.reduceEqDiff, Ju, Jv, Jw, Jx, Jy, rd, TI.kind, Nat.reduceLT, Nat.reduceAdd, and_self, Jz, J0, J1, J2, J3, J4, beq_self_eq_true, J5, J6, J7, J8, J9, JA, JB, Op.operands, JC, JD, JE, JF, JG, JH, JI, JJ, JK, JL, Nat.reduceBEq, JM, JN, JO, JP, JQ, JR, JS, JT, JU, JV, JW, wr, JX, JY, Nat.reduceSub, Nat.reduceMul, JZ, Ka, Kb, Kc, Kd, Ke, Kf, Kg, Kh, Ki, Kj, Kk, Kl, Km, Kn, Ko, Kp, Kq, Kr, Ks, Kt, Ku, Kv, Kw, Kx, Ky, Kz, K0, K1, K2, K3, K4, K5, K6, K7, K8, K9, KA, KC, KD, reduceCtorEq, Int.reduceLT, Int.reduceLE, Int.reduceAdd, Int.reduceSub, Int.reduceNeg, Int.reduceToNat, Int.reduceEq, KE, KF, Nat.reduceLeDiff, KG, KH, KI, or_true, true_or, or_false, false_or]) | ((with_reducible (first | refine Ok.br ?_ ?_ | refine Ok.gd ?_ ?_ | refine Ok.ld ?_ ?_)) <;> (intro g; (try simp only [Zz] at g); (first | (exfalso; omega) | skip)))))
        refine hQ'.out _ ?_
        rw [hpt'.out, if_pos (show I > J from hgt)]
      · have hgt' : ¬ (J : Int) < (I : Int) := by omega
        have e5 : (J : Int) - 1 = ((J - 1 : Nat) : Int) := by omega
        have g3 : 0 ≤ (I : Int) ∧ (I : Int) < (n : Int) := by omega
        have g4 : 0 ≤ (J : Int) ∧ (J : Int) < (n : Int) := by omega
        have g6 : I < e.size := by omega
        have g7 : J < e.size := by omega
        (repeat' (first | (simp -implicitDefEqProofs (maxSteps := 1000000) (disch := first | assumption | omega | (simp only [KE, JO, JP, KF]; omega)) only [*, lenV, fl_len, fl_at, fl_set, fl_set2, swp_eq, hc.run, eq_self, Array.size_setIfInBounds, pr_eta, ty3, ty4, ty22, ty24, ty25, slot55, plan55_1, plan55_3, plan55_5, plan55_8, plan55_10, plan55_13, plan55_15, plan55_18, plan55_21, Za, Zb, Zc, Zd, Ze, Zf, Zg, Zh, Zi, Zj, and_true, true_and, Ja, Jb, Jc, cond_true, cond_false, Jd, Je, Jf, Jg, Jh, Ji, Jj, St.put, Jk, Jl, Jm, Jn, Jo, Jp, Jq, Jr, Js, Jt, decide_true, decide_false, Nat.reduceEqDiff, Ju, Jv, Jw, Jx, Jy, rd, TI.kind, Nat.reduceLT, Nat.reduceAdd, and_self, Jz, J0, J1, J2, J3, J4, beq_self_eq_true, J5, J6, J7, J8, J9, JA, JB, Op.operands, JC, JD, JE, JF, JG, JH, JI, JJ, JK, JL, Nat.reduceBEq, JM, JN, JO, JP, JQ, JR, JS, JT, JU, JV, JW, wr, JX, JY, Nat.reduceSub, Nat.reduceMul, JZ, Ka, Kb, Kc, Kd, Ke, Kf, Kg, Kh, Ki, Kj, Kk, Kl, Km, Kn, Ko, Kp, Kq, Kr, Ks, Kt, Ku, Kv, Kw, Kx, Ky, Kz, K0, K1, K2, K3, K4, K5, K6, K7, K8, K9, KA, KC, KD, reduceCtorEq, Int.reduceLT, Int.reduceLE, Int.reduceAdd, Int.reduceSub, Int.reduceNeg, Int.reduceToNat, Int.reduceEq, KE, KF, Nat.reduceLeDiff, KG, KH, KI, or_true, true_or, or_false, false_or]) | ((with_reducible (first | refine Ok.br ?_ ?_ | refine Ok.gd ?_ ?_ | refine Ok.ld ?_ ?_)) <;> (intro g; (try simp only [Zz] at g); (first | (exfalso; omega) | skip)))))
        rw [if_neg (show ¬ I > J from hgt)] at hpt'
        have hs2 : (swp e I J).size = d.size := by rw [swp_size]; exact hsz
        generalize swp e I J = d2 at hs2 hpt'
        generalize hi1 : I + 1 = i1 at hpt'
        generalize hj1 : J - 1 = j1 at hpt'
        have hi1' : ((I : Int) + 1) = (i1 : Int) := by omega
        have hb1 : i0 < i1 ∧ j1 < j0 := by omega
        clear e5 g3 g4 g6 g7 hgt hgt' hge hle hI' hJ' he' hj1
        simp only [hi1'] at *
        clear hi1 hi1'
        clear hsz g5
        refine Ok.loop [false, false, false, false, false, false, false, false, false, false, false, false, true, true, false, false, false, false, false, false, false, false, false, false, false, false, false, false, false, false, false, false, false, false, false, false, false, false, false, false, false, false, false, false, false, false, false, false, false, false, false, false, false, false, false, false, false, false, false, false, false, false, false, false, false, false, false, false, false, false, false, false, false, false, false, false, false, false, false, false, false, false, false, false, false, false, false, false, false, false, false, false, false, false, false, false, false, false, false, false, false, false, false, false, false, true, true, true, true, true, true, true, true, true, true, true, true, true, true, true, true, true, true, true, true, true, true, true, true, true, true, true, true, true, true, true, true, true, true, true, true, true, true, true, true, true, true, true, true, true, true, true, true, true, true, true, true, true, true, true, true, true, true, false, false, false, false, false, false, false, false, false, false, false, false, false, false, false] (fun m s2 => ∃ (i j : Nat) (e : Array RP), m = j + 1 - i ∧ i0 < i ∧ j < j0 ∧ tv s2.e 12 = .v (.int .i64 i) ∧ tv s2.e 13 = .v (.int .i64 j) ∧ s2.l = [] ∧ s2.h = H.set b (.cells g true (fl e)) ∧ e.size = d.size ∧ partLoop lt i0 i j e = partLoop lt i0 i1 j1 d2)
          (fun x s2 => x = .exit 4 ∧ tv s2.e 13 = .v (.int .i64 ((partLoop lt i0 i1 j1 d2).1 : Nat)) ∧ s2.l = [] ∧ s2.h = H.set b (.cells g true (fl (partLoop lt i0 i1 j1 d2).2)) ∧ (partLoop lt i0 i1 j1 d2).1 < n ∧ (partLoop lt i0 i1 j1 d2).2.size = d.size) (j1 + 1 - i1) ⟨i1, j1, d2, rfl, by omega, by omega, rfl, rfl, rfl, rfl, hs2, rfl⟩ ?_ ?_
        · intro m ⟨e', l', H'⟩ hW ⟨i, j, e, hm, hi, hj, h11, h12, k2, k3, hsz, hre⟩
          dsimp only at hW h11 h12 k2 k3
          subst l' H'
          rw [hW.spread]
          simp only [spread_t, spread_f, spread_n, Nat.zero_add, Nat.reduceAdd, h11, h12]
          clear hW
          have hre' := Hid.mk hre
          have g5 : i0 < e.size := by omega
          clear hre hQ' hpt' hs2
          (repeat' (first | (simp -implicitDefEqProofs (maxSteps := 1000000) (disch := first | assumption | omega | (simp only [KE, JO, JP, KF]; omega)) only [*, lenV, ty3, ty4, ty22, ty24, ty25, slot55, plan55_1, plan55_3, plan55_5, plan55_8, plan55_10, plan55_13, plan55_15, plan55_18, plan55_21, Za, Zb, Zc, Zd, Ze, Zf, Zg, Zh, Zi, Zj, and_true, true_and, Ja, Jb, Jc, cond_true, cond_false, Jd, Je, Jf, Jg, Jh, Ji, Jj, St.put, Jk, Jl, Jm, Jn, Jo, Jp, Jq, Jr, Js, Jt, decide_true, decide_false, Nat.reduceEqDiff, Ju, Jv, Jw, Jx, Jy, rd, TI.kind, Nat.reduceLT, Nat.reduceAdd, and_self, Jz, J0, J1, J2, J3, J4, beq_self_eq_true, J5, J6, J7, J8, J9, JA, JB, Op.operands, JC, JD, JE, JF, JG, JH, JI, JJ, JK, JL, Nat.reduceBEq, JM, JN, JO, JP, JQ, JR, JS, JT, JU, JV, JW, wr, JX, JY, Nat.reduceSub, Nat.reduceMul, JZ, Ka, Kb, Kc, Kd, Ke, Kf, Kg, Kh, Ki, Kj, Kk, Kl, Km, Kn, Ko, Kp, Kq, Kr, Ks, Kt, Ku, Kv, Kw, Kx, Ky, Kz, K0, K1, K2, K3, K4, K5, K6, K7, K8, K9, KA, KC, KD, reduceCtorEq, Int.reduceLT, Int.reduceLE, Int.reduceAdd, Int.reduceSub, Int.reduceNeg, Int.reduceToNat, Int.reduceEq, KE, KF, Nat.reduceLeDiff, KG, KH, KI, or_true, true_or, or_false, false_or]) | ((with_reducible (first | refine Ok.br ?_ ?_ | refine Ok.gd ?_ ?_ | refine Ok.ld ?_ ?_)) <;> (intro g; (try simp only [Zz] at g); (first | (exfalso; omega) | skip)))))
          refine Ok.loop [false, false, false, false, false, false, false, false, false, false, false, false, true, false, false, false, false, false, false, false, false, false, false, false, false, false, false, false, false, false, false, false, false, false, false, false, false, false, false, false, false, false, false, false, false, false, false, false, false, false, false, false, false, false, false, false, false, false, false, false, false, false, false, false, false, false, false, false, false, false, false, false, false, false, false, false, false, false, false, false, false, false, false, false, false, false, false, false, false, false, false, false, false, false, false, false, false, false, false, false, false, false, false, false, false, true, true, true, true, true, true, true, true, true, true, true, true, true, true, true, true, true, true, false, false, false, false, false, false, false, false, false, false, false, false, false, false, false, false, false, false, false, false, false, false, false, false, false, false, false, false, false, false, false, false, false, false, false, false, false, false, false, false, false, false, false, false, false, false, false, false, false, false, false, false, false, false, false] (fun m s2 => ∃ i2 : Nat, m = j + 1 - i2 ∧ i ≤ i2 ∧ tv s2.e 12 = .v (.int .i64 i2) ∧ s2.l = [] ∧ s2.h = H.set b (.cells g true (fl e)) ∧ scanUp (fun x => lt x e[i0]!) e j i2 = scanUp (fun x => lt x e[i0]!) e j i)
            (fun x s2 => x = .exit 6 ∧ tv s2.e 12 = .v (.int .i64 (scanUp (fun x => lt x e[i0]!) e j i : Nat)) ∧ s2.l = [] ∧ s2.h = H.set b (.cells g true (fl e))) (j + 1 - i) ⟨i, rfl, Nat.le_refl _, rfl, rfl, rfl, rfl⟩ ?_ ?_
          · intro m2 ⟨e3, l3, H3⟩ hW2 ⟨i2, hm2, hi2, h9, q2, q3, hsc⟩
            dsimp only at hW2 h9 q2 q3
            subst l3 H3
            rw [hW2.spread]
            simp only [spread_t, spread_f, spread_n, Nat.zero_add, Nat.reduceAdd, h9]
            clear hW2
            have hsc' := Hid.mk hsc
            clear hsc
            by_cases hle : i2 ≤ j
            · have hle' : (i2 : Int) ≤ (j : Int) := by omega
              have g1 : 0 ≤ (i2 : Int) ∧ (i2 : Int) < (n : Int) := by omega
              have g2 : i2 < e.size := by omega
              by_cases hp : hc.c e[i2]! e[i0]! < 0
              · (repeat' (first | (simp -implicitDefEqProofs (maxSteps := 1000000) (disch := first | assumption | omega | (simp only [KE, JO, JP, KF]; omega)) only [*, lenV, fl_len, fl_at, fl_set, fl_set2, swp_eq, hc.run, eq_self, Array.size_setIfInBounds, pr_eta, ty3, ty4, ty22, ty24, ty25, slot55, plan55_1, plan55_3, plan55_5, plan55_8, plan55_10, plan55_13, plan55_15, plan55_18, plan55_21, Za, Zb, Zc, Zd, Ze, Zf, Zg, Zh, Zi, Zj, and_true, true_and, Ja, Jb, Jc, cond_true, cond_false, Jd, Je, Jf, Jg, Jh, Ji, Jj, St.put, Jk, Jl, Jm, Jn, Jo, Jp, Jq, Jr, Js, Jt, decide_true, decide_false, Nat.reduceEqDiff, Ju, Jv, Jw, Jx, Jy, rd, TI.kind, Nat.reduceLT, Nat.reduceAdd, and_self, Jz, J0, J1, J2, J3, J4, beq_self_eq_true, J5, J6, J7, J8, J9, JA, JB, Op.operands, JC, JD, JE, JF, JG, JH, JI, JJ, JK, JL, Nat.reduceBEq, JM, JN, JO, JP, JQ, JR, JS, JT, JU, JV, JW, wr, JX, JY, Nat.reduceSub, Nat.reduceMul, JZ, Ka, Kb, Kc, Kd, Ke, Kf, Kg, Kh, Ki, Kj, Kk, Kl, Km, Kn, Ko, Kp, Kq, Kr, Ks, Kt, Ku, Kv, Kw, Kx, Ky, Kz, K0, K1, K2, K3, K4, K5, K6, K7, K8, K9, KA, KC, KD, reduceCtorEq, Int.reduceLT, Int.reduceLE, Int.reduceAdd, Int.reduceSub, Int.reduceNeg, Int.reduceToNat, Int.reduceEq, KE, KF, Nat.reduceLeDiff, KG, KH, KI, or_true, true_or, or_false, false_or]) | ((with_reducible (first | refine Ok.br ?_ ?_ | refine Ok.gd ?_ ?_ | refine Ok.ld ?_ ?_)) <;> (intro g; (try simp only [Zz] at g); (first | (exfalso; omega) | skip)))))
                exact Turn.next (j + 1 - (i2 + 1)) (by omega) ⟨rfl, i2 + 1, rfl, by omega, rfl, rfl, rfl, by rw [← hsc'.out, scanUp_next (p := fun x => lt x e[i0]!) hle (by rw [hng'.out]; exact decide_eq_true hp)]⟩
              · (repeat' (first | (simp -implicitDefEqProofs (maxSteps := 1000000) (disch := first | assumption | omega | (simp only [KE, JO, JP, KF]; omega)) only [*, lenV, fl_len, fl_at, fl_set, fl_set2, swp_eq, hc.run, eq_self, Array.size_setIfInBounds, pr_eta, ty3, ty4, ty22, ty24, ty25, slot55, plan55_1, plan55_3, plan55_5, plan55_8, plan55_10, plan55_13, plan55_15, plan55_18, plan55_21, Za, Zb, Zc, Zd, Ze, Zf, Zg, Zh, Zi, Zj, and_true, true_and, Ja, Jb, Jc, cond_true, cond_false, Jd, Je, Jf, Jg, Jh, Ji, Jj, St.put, Jk, Jl, Jm, Jn, Jo, Jp, Jq, Jr, Js, Jt, decide_true, decide_false, Nat.reduceEqDiff, Ju, Jv, Jw, Jx, Jy, rd, TI.kind, Nat.reduceLT, Nat.reduceAdd, and_self, Jz, J0, J1, J2, J3, J4, beq_self_eq_true, J5, J6, J7, J8, J9, JA, JB, Op.operands, JC, JD, JE, JF, JG, JH, JI, JJ, JK, JL, Nat.reduceBEq, JM, JN, JO, JP, JQ, JR, JS, JT, JU, JV, JW, wr, JX, JY, Nat.reduceSub, Nat.reduceMul, JZ, Ka, Kb, Kc, Kd, Ke, Kf, Kg, Kh, Ki, Kj, Kk, Kl, Km, Kn, Ko, Kp, Kq, Kr, Ks, Kt, Ku, Kv, Kw, Kx, Ky, Kz, K0, K1, K2, K3, K4, K5, K6, K7, K8, K9, KA, KC, KD, reduceCtorEq, Int.reduceLT, Int.reduceLE, Int.reduceAdd, Int.reduceSub, Int.reduceNeg, Int.reduceToNat, Int.reduceEq, KE, KF, Nat.reduceLeDiff, KG, KH, KI, or_true, true_or, or_false, false_or]) | ((with_reducible (first | refine Ok.br ?_ ?_ | refine Ok.gd ?_ ?_ | refine Ok.ld ?_ ?_)) <;> (intro g; (try simp only [Zz] at g); (first | (exfalso; omega) | skip)))))
                exact Turn.exit ⟨rfl, rfl, by rw [← hsc'.out, scanUp_stop (p := fun x => lt x e[i0]!) (.inr (by rw [hng'.out]; exact decide_eq_false hp))] <;> rfl, rfl, rfl⟩
            · have hle' : ¬ (i2 : Int) ≤ (j : Int) := by omega
              (repeat' (first | (simp -implicitDefEqProofs (maxSteps := 1000000) (disch := first | assumption | omega | (simp only [KE, JO, JP, KF]; omega)) only [*, lenV, ty3, ty4, ty22, ty24, ty25, slot55, plan55_1, plan55_3, plan55_5, plan55_8, plan55_10, plan55_13, plan55_15, plan55_18, plan55_21, Za, Zb, Zc, Zd, Ze, Zf, Zg, Zh, Zi, Zj, and_true, true_and, Ja, Jb, Jc, cond_true, cond_false, Jd, Je, Jf, Jg, Jh, Ji, Jj, St.put, Jk, Jl, Jm, Jn, Jo, Jp, Jq, Jr, Js, Jt, decide_true, decide_false, Nat.reduceEqDiff, Ju, Jv, Jw, Jx, Jy, rd, TI.kind, Nat.reduceLT, Nat.reduceAdd, and_self, Jz, J0, J1, J2, J3, J4, beq_self_eq_true, J5, J6, J7, J8, J9, JA, JB, Op.operands, JC, JD, JE, JF, JG, JH, JI, JJ, JK, JL, Nat.reduceBEq, JM, JN, JO, JP, JQ, JR, JS, JT, JU, JV, JW, wr, JX, JY, Nat.reduceSub, Nat.reduceMul, JZ, Ka, Kb, Kc, Kd, Ke, Kf, Kg, Kh, Ki, Kj, Kk, Kl, Km, Kn, Ko, Kp, Kq, Kr, Ks, Kt, Ku, Kv, Kw, Kx, Ky, Kz, K0, K1, K2, K3, K4, K5, K6, K7, K8, K9, KA, KC, KD, reduceCtorEq, Int.reduceLT, Int.reduceLE, Int.reduceAdd, Int.reduceSub, Int.reduceNeg, Int.reduceToNat, Int.reduceEq, KE, KF, Nat.reduceLeDiff, KG, KH, KI, or_true, true_or, or_false, false_or]) | ((with_reducible (first | refine Ok.br ?_ ?_ | refine Ok.gd ?_ ?_ | refine Ok.ld ?_ ?_)) <;> (intro g; (try simp only [Zz] at g); (first | (exfalso; omega) | skip)))))
              exact Turn.exit ⟨rfl, rfl, by rw [← hsc'.out, scanUp_stop (p := fun x => lt x e[i0]!) (.inl hle)] <;> rfl, rfl, rfl⟩
          · intro x ⟨e3, l3, H3⟩ hW2 ⟨hx, h9, q2, q3⟩
            dsimp only at hW2 h9 q2 q3
            subst l3 hx H3
            rw [hW2.spread]
            simp only [spread_t, spread_f, spread_n, Nat.zero_add, Nat.reduceAdd, h9]
            clear hW2
            have hge := scanUp_ge (fun x => lt x e[i0]!) e j i
            generalize hI : scanUp (fun x => lt x e[i0]!) e j i = I at hge h9
            have hI' := Hid.mk hI
            clear hI
            (repeat' (first | (simp -implicitDefEqProofs (maxSteps := 1000000) (disch := first | assumption | omega | (simp only [KE, JO, JP, KF]; omega)) only [*, lenV, ty3, ty4, ty22, ty24, ty25, slot55, plan55_1, plan55_3, plan55_5, plan55_8, plan55_10, plan55_13, plan55_15, plan55_18, plan55_21, Za, Zb, Zc, Zd, Ze, Zf, Zg, Zh, Zi, Zj, and_true, true_and, Ja, Jb, Jc, cond_true, cond_false, Jd, Je, Jf, Jg, Jh, Ji, Jj, St.put, Jk, Jl, Jm, Jn, Jo, Jp, Jq, Jr, Js, Jt, decide_true, decide_false, Nat.reduceEqDiff, Ju, Jv, Jw, Jx, Jy, rd, TI.kind, Nat.reduceLT, Nat.reduceAdd, and_self, Jz, J0, J1, J2, J3, J4, beq_self_eq_true, J5, J6, J7, J8, J9, JA, JB, Op.operands, JC, JD, JE, JF, JG, JH, JI, JJ, JK, JL, Nat.reduceBEq, JM, JN, JO, JP, JQ, JR, JS, JT, JU, JV, JW, wr, JX, JY, Nat.reduceSub, Nat.reduceMul, JZ, Ka, Kb, Kc, Kd, Ke, Kf, Kg, Kh, Ki, Kj, Kk, Kl, Km, Kn, Ko, Kp, Kq, Kr, Ks, Kt, Ku, Kv, Kw, Kx, Ky, Kz, K0, K1, K2, K3, K4, K5, K6, K7, K8, K9, KA, KC, KD, reduceCtorEq, Int.reduceLT, Int.reduceLE, Int.reduceAdd, Int.reduceSub, Int.reduceNeg, Int.reduceToNat, Int.reduceEq, KE, KF, Nat.reduceLeDiff, KG, KH, KI, or_true, true_or, or_false, false_or]) | ((with_reducible (first | refine Ok.br ?_ ?_ | refine Ok.gd ?_ ?_ | refine Ok.ld ?_ ?_)) <;> (intro g; (try simp only [Zz] at g); (first | (exfalso; omega) | skip)))))
            refine Ok.loop [false, false, false, false, false, false, false, false, false, false, false, false, false, true, false, false, false, false, false, false, false, false, false, false, false, false, false, false, false, false, false, false, false, false, false, false, false, false, false, false, false, false, false, false, false, false, false, false, false, false, false, false, false, false, false, false, false, false, false, false, false, false, false, false, false, false, false, false, false, false, false, false, false, false, false, false, false, false, false, false, false, false, false, false, false, false, false, false, false, false, false, false, false, false, false, false, false, false, false, false, false, false, false, false, false, false, false, false, false, false, false, false, false, false, false, false, false, false, false, false, false, false, false, true, true, true, true, true, true, true, true, true, true, true, true, true, true, true, true, true, true, true, false, false, false, false, false, false, false, false, false, false, false, false, false, false, false, false, false, false, false, false, false, false, false, false, false, false, false, false, false, false, false, false, false, false, false, false] (fun m s2 => ∃ j2 : Nat, m = j2 ∧ j2 ≤ j ∧ tv s2.e 13 = .v (.int .i64 j2) ∧ s2.l = [] ∧ s2.h = H.set b (.cells g true (fl e)) ∧ scanDown (fun x => !lt x e[i0]!) e I j2 = scanDown (fun x => !lt x e[i0]!) e I j)
              (fun x s2 => x = .exit 8 ∧ tv s2.e 13 = .v (.int .i64 (scanDown (fun x => !lt x e[i0]!) e I j : Nat)) ∧ s2.l = [] ∧ s2.h = H.set b (.cells g true (fl e))) j ⟨j, rfl, Nat.le_refl _, rfl, rfl, rfl, rfl⟩ ?_ ?_
            · intro m2 ⟨e3, l3, H3⟩ hW2 ⟨j2, hm2, hj2, h9, q2, q3, hsc⟩
              dsimp only at hW2 h9 q2 q3
              subst l3 H3
              rw [hW2.spread]
              simp only [spread_t, spread_f, spread_n, Nat.zero_add, Nat.reduceAdd, h9]
              clear hW2
              have hsc' := Hid.mk hsc
              clear hsc
              by_cases hle : I ≤ j2
              · obtain ⟨j2, rfl⟩ : ∃ j', j2 = j' + 1 := ⟨j2 - 1, by omega⟩
                have hle' : (I : Int) ≤ ((j2 + 1 : Nat) : Int) := by omega
                have e1 : ((j2 + 1 : Nat) : Int) - 1 = (j2 : Int) := by omega
                have g1 : 0 ≤ ((j2 + 1 : Nat) : Int) ∧ ((j2 + 1 : Nat) : Int) < (n : Int) := by omega
                have g2 : j2 + 1 < e.size := by omega
                by_cases hp : hc.c e[j2 + 1]! e[i0]! < 0
                · (repeat' (first | (simp -implicitDefEqProofs (maxSteps := 1000000) (disch := first | assumption | omega | (simp only [KE, JO, JP, KF]; omega)) only [*, lenV, fl_len, fl_at, fl_set, fl_set2, swp_eq, hc.run, eq_self, Array.size_setIfInBounds, pr_eta, ty3, ty4, ty22, ty24, ty25, slot55, plan55_1, plan55_3, plan55_5, plan55_8, plan55_10, plan55_13, plan55_15, plan55_18, plan55_21, Za, Zb, Zc, Zd, Ze, Zf, Zg, Zh, Zi, Zj, and_true, true_and, Ja, Jb, Jc, cond_true, cond_false, Jd, Je, Jf, Jg, Jh, Ji, Jj, St.put, Jk, Jl, Jm, Jn, Jo, Jp, Jq, Jr, Js, Jt, decide_true, decide_false, Nat.reduceEqDiff, Ju, Jv, Jw, Jx, Jy, rd, TI.kind, Nat.reduceLT, Nat.reduceAdd, and_self, Jz, J0, J1, J2, J3, J4, beq_self_eq_true, J5, J6, J7, J8, J9, JA, JB, Op.operands, JC, JD, JE, JF, JG, JH, JI, JJ, JK, JL, Nat.reduceBEq, JM, JN, JO, JP, JQ, JR, JS, JT, JU, JV, JW, wr, JX, JY, Nat.reduceSub, Nat.reduceMul, JZ, Ka, Kb, Kc, Kd, Ke, Kf, Kg, Kh, Ki, Kj, Kk, Kl, Km, Kn, Ko, Kp, Kq, Kr, Ks, Kt, Ku, Kv, Kw, Kx, Ky, Kz, K0, K1, K2, K3, K4, K5, K6, K7, K8, K9, KA, KC, KD, reduceCtorEq, Int.reduceLT, Int.reduceLE, Int.reduceAdd, Int.reduceSub, Int.reduceNeg, Int.reduceToNat, Int.reduceEq, KE, KF, Nat.reduceLeDiff, KG, KH, KI, or_true, true_or, or_false, false_or]) | ((with_reducible (first | refine Ok.br ?_ ?_ | refine Ok.gd ?_ ?_ | refine Ok.ld ?_ ?_)) <;> (intro g; (try simp only [Zz] at g); (first | (exfalso; omega) | skip)))))
                  exact Turn.exit ⟨rfl, rfl, by rw [← hsc'.out, scanDown_stop (p := fun x => !lt x e[i0]!) (.inr (by rw [hng'.out]; simp only [decide_eq_true hp, Bool.not_true]))] <;> rfl, rfl, rfl⟩
                · (repeat' (first | (simp -implicitDefEqProofs (maxSteps := 1000000) (disch := first | assumption | omega | (simp only [KE, JO, JP, KF]; omega)) only [*, lenV, fl_len, fl_at, fl_set, fl_set2, swp_eq, hc.run, eq_self, Array.size_setIfInBounds, pr_eta, ty3, ty4, ty22, ty24, ty25, slot55, plan55_1, plan55_3, plan55_5, plan55_8, plan55_10, plan55_13, plan55_15, plan55_18, plan55_21, Za, Zb, Zc, Zd, Ze, Zf, Zg, Zh, Zi, Zj, and_true, true_and, Ja, Jb, Jc, cond_true, cond_false, Jd, Je, Jf, Jg, Jh, Ji, Jj, St.put, Jk, Jl, Jm, Jn, Jo, Jp, Jq, Jr, Js, Jt, decide_true, decide_false, Nat.reduceEqDiff, Ju, Jv, Jw, Jx, Jy, rd, TI.kind, Nat.reduceLT, Nat.reduceAdd, and_self, Jz, J0, J1, J2, J3, J4, beq_self_eq_true, J5, J6, J7, J8, J9, JA, JB, Op.operands, JC, JD, JE, JF, JG, JH, JI, JJ, JK, JL, Nat.reduceBEq, JM, JN, JO, JP, JQ, JR, JS, JT, JU, JV, JW, wr, JX, JY, Nat.reduceSub, Nat.reduceMul, JZ, Ka, Kb, Kc, Kd, Ke, Kf, Kg, Kh, Ki, Kj, Kk, Kl, Km, Kn, Ko, Kp, Kq, Kr, Ks, Kt, Ku, Kv, Kw, Kx, Ky, Kz, K0, K1, K2, K3, K4, K5, K6, K7, K8, K9, KA, KC, KD, reduceCtorEq, Int.reduceLT, Int.reduceLE, Int.reduceAdd, Int.reduceSub, Int.reduceNeg, Int.reduceToNat, Int.reduceEq, KE, KF, Nat.reduceLeDiff, KG, KH, KI, or_true, true_or, or_false, false_or]) | ((with_reducible (first | refine Ok.br ?_ ?_ | refine Ok.gd ?_ ?_ | refine Ok.ld ?_ ?_)) <;> (intro g; (try simp only [Zz] at g); (first | (exfalso; omega) | skip)))))
                  exact Turn.next j2 (by omega) ⟨rfl, j2, rfl, by omega, rfl, rfl, rfl, by rw [← hsc'.out, scanDown_next (p := fun x => !lt x e[i0]!) hle (by rw [hng'.out]; simp only [decide_eq_false hp, Bool.not_false])]⟩
              · have hle' : ¬ (I : Int) ≤ (j2 : Int) := by omega
                (repeat' (first | (simp -implicitDefEqProofs (maxSteps := 1000000) (disch := first | assumption | omega | (simp only [KE, JO, JP, KF]; omega)) only [*, lenV, ty3, ty4, ty22, ty24, ty25, slot55, plan55_1, plan55_3, plan55_5, plan55_8, plan55_10, plan55_13, plan55_15, plan55_18, plan55_21, Za, Zb, Zc, Zd, Ze, Zf, Zg, Zh, Zi, Zj, and_true, true_and, Ja, Jb, Jc, cond_true, cond_false, Jd, Je, Jf, Jg, Jh, Ji, Jj, St.put, Jk, Jl, Jm, Jn, Jo, Jp, Jq, Jr, Js, Jt, decide_true, decide_false, Nat.reduceEqDiff, Ju, Jv, Jw, Jx, Jy, rd, TI.kind, Nat.reduceLT, Nat.reduceAdd, and_self, Jz, J0, J1, J2, J3, J4, beq_self_eq_true, J5, J6, J7, J8, J9, JA, JB, Op.operands, JC, JD, JE, JF, JG, JH, JI, JJ, JK, JL, Nat.reduceBEq, JM, JN, JO, JP, JQ, JR, JS, JT, JU, JV, JW, wr, JX, JY, Nat.reduceSub, Nat.reduceMul, JZ, Ka, Kb, Kc, Kd, Ke, Kf, Kg, Kh, Ki, Kj, Kk, Kl, Km, Kn, Ko, Kp, Kq, Kr, Ks, Kt, Ku, Kv, Kw, Kx, Ky, Kz, K0, K1, K2, K3, K4, K5, K6, K7, K8, K9, KA, KC, KD, reduceCtorEq, Int.reduceLT, Int.reduceLE, Int.reduceAdd, Int.reduceSub, Int.reduceNeg, Int.reduceToNat, Int.reduceEq, KE, KF, Nat.reduceLeDiff, KG, KH, KI, or_true, true_or, or_false, false_or]) | ((with_reducible (first | refine Ok.br ?_ ?_ | refine Ok.gd ?_ ?_ | refine Ok.ld ?_ ?_)) <;> (intro g; (try simp only [Zz] at g); (first | (exfalso; omega) | skip)))))
                exact Turn.exit ⟨rfl, rfl, by rw [← hsc'.out, scanDown_stop0 (p := fun x => !lt x e[i0]!) hle] <;> rfl, rfl, rfl⟩
            · intro x ⟨e3, l3, H3⟩ hW2 ⟨hx, h9, q2, q3⟩
              dsimp only at hW2 h9 q2 q3
              subst l3 hx H3
              rw [hW2.spread]
              simp only [spread_t, spread_f, spread_n, Nat.zero_add, Nat.reduceAdd, h9]
              clear hW2
              have hle := scanDown_le (fun x => !lt x e[i0]!) e I j
              generalize hJ : scanDown (fun x => !lt x e[i0]!) e I j = J at hle h9
              have hJ' := Hid.mk hJ
              clear hJ
              by_cases hgt : J < I
              · have hgt' : (J : Int) < (I : Int) := by omega
                (repeat' (first | (simp -implicitDefEqProofs (maxSteps := 1000000) (disch := first | assumption | omega | (simp only [KE, JO, JP, KF]; omega)) only [*, lenV, ty3, ty4, ty22, ty24, ty25, slot55, plan55_1, plan55_3, plan55_5, plan55_8, plan55_10, plan55_13, plan55_15, plan55_18, plan55_21, Za, Zb, Zc, Zd, Ze, Zf, Zg, Zh, Zi, Zj, and_true, true_and, Ja, Jb, Jc, cond_true, cond_false, Jd, Je, Jf, Jg, Jh, Ji, Jj, St.put, Jk, Jl, Jm, Jn, Jo, Jp, Jq, Jr, Js, Jt, decide_true, decide_false, Nat.reduceEqDiff, Ju, Jv, Jw, Jx, Jy, rd, TI.kind, Nat.reduceLT, Nat.reduceAdd, and_self, Jz, J0, J1, J2, J3, J4, beq_self_eq_true, J5, J6, J7, J8, J9, JA, JB, Op.operands, JC, JD, JE, JF, JG, JH, JI, JJ, JK, JL, Nat.reduceBEq, JM, JN, JO, JP, JQ, JR, JS, JT, JU, JV, JW, wr, JX, JY, Nat.reduceSub, Nat.reduceMul, JZ, Ka, Kb, Kc, Kd, Ke, Kf, Kg, Kh, Ki, Kj, Kk, Kl, Km, Kn, Ko, Kp, Kq, Kr, Ks, Kt, Ku, Kv, Kw, Kx, Ky, Kz, K0, K1, K2, K3, K4, K5, K6, K7, K8, K9, KA, KC, KD, reduceCtorEq, Int.reduceLT, Int.reduceLE, Int.reduceAdd, Int.reduceSub, Int.reduceNeg, Int.reduceToNat, Int.reduceEq, KE, KF, Nat.reduceLeDiff, KG, KH, KI, or_true, true_or, or_false, false_or]) | ((with_reducible (first | refine Ok.br ?_ ?_ | refine Ok.gd ?_ ?_ | refine Ok.ld ?_ ?_)) <;> (intro g; (try simp only [Zz] at g); (first | (exfalso; omega) | skip)))))
                refine Turn.exit ⟨rfl, rfl, ?_, rfl, ?_, ?_, ?_⟩
                · rw [← hre'.out, partLoop_eq, hI'.out, hJ'.out, if_pos hgt] <;> rfl
                · rw [← hre'.out, partLoop_eq, hI'.out, hJ'.out, if_pos hgt] <;> rfl
                · rw [← hre'.out, partLoop_eq, hI'.out, hJ'.out, if_pos hgt]; show J < n; omega
                · rw [← hre'.out, partLoop_eq, hI'.out, hJ'.out, if_pos hgt]; exact hsz
              · have hgt' : ¬ (J : Int) < (I : Int) := by omega
                have e5 : (J : Int) - 1 = ((J - 1 : Nat) : Int) := by omega
                have g3 : 0 ≤ (I : Int) ∧ (I : Int) < (n : Int) := by omega
                have g4 : 0 ≤ (J : Int) ∧ (J : Int) < (n : Int) := by omega
                have g5 : I < e.size := by omega
                have g6 : J < e.size := by omega
                (repeat' (first | (simp -implicitDefEqProofs (maxSteps := 1000000) (disch := first | assumption | omega | (simp only [KE, JO, JP, KF]; omega)) only [*, lenV, fl_len, fl_at, fl_set, fl_set2, swp_eq, hc.run, eq_self, Array.size_setIfInBounds, pr_eta, ty3, ty4, ty22, ty24, ty25, slot55, plan55_1, plan55_3, plan55_5, plan55_8, plan55_10, plan55_13, plan55_15, plan55_18, plan55_21, Za, Zb, Zc, Zd, Ze, Zf, Zg, Zh, Zi, Zj, and_true, true_and, Ja, Jb, Jc, cond_true, cond_false, Jd, Je, Jf, Jg, Jh, Ji, Jj, St.put, Jk, Jl, Jm, Jn, Jo, Jp, Jq, Jr, Js, Jt, decide_true, decide_false, Nat.reduceEqDiff, Ju, Jv, Jw, Jx, Jy, rd, TI.kind, Nat.reduceLT, Nat.reduceAdd, and_self, Jz, J0, J1, J2, J3, J4, beq_self_eq_true, J5, J6, J7, J8, J9, JA, JB, Op.operands, JC, JD, JE, JF, JG, JH, JI, JJ, JK, JL, Nat.reduceBEq, JM, JN, JO, JP, JQ, JR, JS, JT, JU, JV, JW, wr, JX, JY, Nat.reduceSub, Nat.reduceMul, JZ, Ka, Kb, Kc, Kd, Ke, Kf, Kg, Kh, Ki, Kj, Kk, Kl, Km, Kn, Ko, Kp, Kq, Kr, Ks, Kt, Ku, Kv, Kw, Kx, Ky, Kz, K0, K1, K2, K3, K4, K5, K6, K7, K8, K9, KA, KC, KD, reduceCtorEq, Int.reduceLT, Int.reduceLE, Int.reduceAdd, Int.reduceSub, Int.reduceNeg, Int.reduceToNat, Int.reduceEq, KE, KF, Nat.reduceLeDiff, KG, KH, KI, or_true, true_or, or_false, false_or]) | ((with_reducible (first | refine Ok.br ?_ ?_ | refine Ok.gd ?_ ?_ | refine Ok.ld ?_ ?_)) <;> (intro g; (try simp only [Zz] at g); (first | (exfalso; omega) | skip)))))
                refine Turn.next (J - 1 + 1 - (I + 1)) (by omega) ⟨rfl, I + 1, J - 1, swp e I J, rfl, by omega, by omega, rfl, rfl, rfl, rfl, by rw [swp_size]; exact hsz, ?_⟩
                rw [← hre'.out]
                conv => rhs; rw [partLoop_eq, hI'.out, hJ'.out, if_neg (show ¬ I > J from hgt)]
        · intro x ⟨e', l', H'⟩ hW ⟨hx, h11, k2, k3, k4, k5⟩
          dsimp only at hW h11 k2 k3
          subst l' hx H'
          rw [hW.spread]
          clear hW
          simp only [spread_t, spread_f, spread_n, Nat.zero_add, Nat.reduceAdd, h11]
          clear hs2
          generalize partLoop lt i0 i1 j1 d2 = R at *
          obtain ⟨rj, re⟩ := R
          dsimp only at h11 k4 k5 hpt' ⊢
          have g3 : 0 ≤ (rj : Int) ∧ (rj : Int) < (n : Int) := by omega
          have g6 : rj < re.size := by omega
          have g7 : i0 < re.size := by omega
          (repeat' (first | (simp -implicitDefEqProofs (maxSteps := 1000000) (disch := first | assumption | omega | (simp only [KE, JO, JP, KF]; omega)) only [*, lenV, fl_len, fl_at, fl_set, fl_set2, swp_eq, hc.run, eq_self, Array.size_setIfInBounds, pr_eta, ty3, ty4, ty22, ty24, ty25, slot55, plan55_1, plan55_3, plan55_5, plan55_8, plan55_10, plan55_13, plan55_15, plan55_18, plan55_21, Za, Zb, Zc, Zd, Ze, Zf, Zg, Zh, Zi, Zj, and_true, true_and, Ja, Jb, Jc, cond_true, cond_false, Jd, Je, Jf, Jg, Jh, Ji, Jj, St.put, Jk, Jl, Jm, Jn, Jo, Jp, Jq, Jr, Js, Jt, decide_true, decide_false, Nat.reduceEqDiff, Ju, Jv, Jw, Jx, Jy, rd, TI.kind, Nat.reduceLT, Nat.reduceAdd, and_self, Jz, J0, J1, J2, J3, J4, beq_self_eq_true, J5, J6, J7, J8, J9, JA, JB, Op.operands, JC, JD, JE, JF, JG, JH, JI, JJ, JK, JL, Nat.reduceBEq, JM, JN, JO, JP, JQ, JR, JS, JT, JU, JV, JW, wr, JX, JY, Nat.reduceSub, Nat.reduceMul, JZ, Ka, Kb, Kc, Kd, Ke, Kf, Kg, Kh, Ki, Kj, Kk, Kl, Km, Kn, Ko, Kp, Kq, Kr, Ks, Kt, Ku, Kv, Kw, Kx, Ky, Kz, K0, K1, K2, K3, K4, K5, K6, K7, K8, K9, KA, KC, KD, reduceCtorEq, Int.reduceLT, Int.reduceLE, Int.reduceAdd, Int.reduceSub, Int.reduceNeg, Int.reduceToNat, Int.reduceEq, KE, KF, Nat.reduceLeDiff, KG, KH, KI, or_true, true_or, or_false, false_or]) | ((with_reducible (first | refine Ok.br ?_ ?_ | refine Ok.gd ?_ ?_ | refine Ok.ld ?_ ?_)) <;> (intro g; (try simp only [Zz] at g); (first | (exfalso; omega) | skip)))))
          refine hQ'.out _ ?_
          rw [hpt'.out]
end Go.Ev
