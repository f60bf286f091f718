/-
Sorting pairs of numbers: a few steps of insertion. Printed by tools/sort_print2.py.
-/
import Derived.Test.YtgkmfoljhapmiaaBun
import Derived.Test.YtgkmfoljhapmiaaSortD
set_option linter.unusedSimpArgs false
set_option linter.unusedVariables false
set_option maxRecDepth 100000
namespace Go.Ev
open Int renaming le_refl → Ja, toNat_natCast → Kz
open Go.Ev renaming wantedT → Jb, exPure → Jd, opd → Je, getT → Jf, constT → Jg, ofValue → Jh, cellsV → Ji, newVar → Jj, setT → Jk, posT → Jl, fieldAddrV → Ju, fieldOff → Jv, load → Jw, store → Jx, lcells → Jy, binOp → Jz, intOp → J0, leadsT → J5, again → J6, rdV → J7, vsame → J8, vsames → J9, makeSliceV → JF, buildV → JG, fillV → JH, splice → JI, results → JU, resV → JV, isCell → JW, nilCheckV → JY, allV → Ke, builtinV → Kf, lenV → Kg, indexAddrV → Kh, unOp → Ki, minmaxV → Kj, minmax → Kk, sliceV → Kl, bound → Km, asInt → Kn, idx → Ko, idxLe → Kp, appendV → Kq, copyV → Kr, clearV → Ks, convV → Kt, putBlk → Ku, sliceCells → Kv, newBlk → Kw, buildSliceV → Kx, shift → Ky
open Bool renaming not_not → Jc, not_true → J1, not_false → J2, true_beq → J3, false_beq → J4, and_true → JA, true_and → JB, or_false → K4, or_true → K5, true_or → K6, false_or → K7, and_false → K8, false_and → K9
open Option renaming bind_some → Jm, isSome_none → K0, isNone_none → K1, isSome_some → K2, isNone_some → K3
open List renaming getD_cons_zero → Jn, getD_cons_succ → Jo, set_cons_zero → Jp, set_cons_succ → Jq, getElem?_cons_zero → Jr, getElem?_cons_succ → Js, getElem?_nil → Jt, elem_cons → JC, elem_nil → JD, toList_toArray → JE, zip → JJ, map_cons → JK, map_nil → JL, all_cons → JM, all_nil → JN, length_cons → JO, length_nil → JP, take → JQ, drop → JR, cons_append → JS, nil_append → JT, set → JX, append_nil → Kd, append_assoc → KD, length_append → KE, length_set → KF, replicate_zero → KG, flatten_nil → KH, set_set → KI
open Nat renaming mul_one → JZ, zero_add → Ka, add_zero → Kb, le_refl → Kc, add_sub_cancel_left → KA, sub_self → KC
open Go.Proofs Go.Sort
variable {fv : V} {lt : RP → RP → Bool}

theorem scanSorted_next {d : Array RP} {b i : Nat} (h : i < b) (hl : lt d[i]! d[i - 1]! = false) : scanSorted lt d b (i + 1) = scanSorted lt d b i := by
  conv => rhs; rw [scanSorted, if_pos (by simp [h, hl])]
theorem scanSorted_stop {d : Array RP} {b i : Nat} (h : ¬ i < b ∨ lt d[i]! d[i - 1]! = true) : scanSorted lt d b i = i := by
  rw [scanSorted, if_neg]
  rcases h with h | h <;> simp [h]
theorem scanSorted_le {d : Array RP} {b : Nat} : ∀ (m i : Nat), b - i ≤ m → i ≤ b → i ≤ scanSorted lt d b i ∧ scanSorted lt d b i ≤ b := by
  intro m
  induction m with
  | zero => intro i h1 h2; rw [scanSorted_stop (.inl (by omega))]; exact ⟨Nat.le_refl _, h2⟩
  | succ m ih =>
    intro i h1 h2
    rw [scanSorted]
    split
    · rename_i h
      simp only [Bool.and_eq_true, decide_eq_true_eq] at h
      have := ih (i + 1) (by omega) (by omega)
      omega
    · exact ⟨Nat.le_refl _, h2⟩
theorem shiftDown_size (lt : RP → RP → Bool) : ∀ (j : Nat) (d : Array RP), (shiftDown lt j d).size = d.size
  | 0, d => rfl
  | j + 1, d => by
    rw [shiftDown]
    split
    · rfl
    · rw [shiftDown_size lt j, swp_size]
theorem shiftUp_size (lt : RP → RP → Bool) (b : Nat) : ∀ (m j : Nat) (d : Array RP), b - j ≤ m → (shiftUp lt b j d).size = d.size := by
  intro m
  induction m with
  | zero => intro j d h; rw [shiftUp, if_neg (by omega)]
  | succ m ih =>
    intro j d h
    rw [shiftUp]
    split
    · split
      · rfl
      · rw [ih _ _ (by omega), swp_size]
    · rfl

set_option maxHeartbeats 4000000 in
theorem partIns_at (hc : Cmp fv lt) {H : Heap} {b g n cap z : Nat} {d : Array RP} (hb : b < H.length) (hn : n ≤ d.size) (hl : d.size ≤ 1000000000) {i0 j0 : Nat} (h1 : i0 < j0) (h2 : j0 ≤ n) :
    D X (.fn 53 []) [.sl (.at b g 0) n cap z, .int .i64 i0, .int .i64 j0, fv] (hs H b g d) = some (.bool (partialInsertionSort lt d i0 j0).2, hs H b g (partialInsertionSort lt d i0 j0).1) := by
  refine Ok.eq ?_
  refine Ok.aim fun Q hQ => ?_
  unfold partialInsertionSort at hQ
  generalize hR : partialIns lt i0 j0 5 (i0 + 1) d = R at hQ
  have hQ' := Hid.mk hQ
  clear hQ
  unfold hs at hQ' ⊢
  have hng' : Hid (∀ x y, lt x y = decide (hc.c x y < 0)) := ⟨hc.neg⟩
  (refine Ok.body body53 pin53 ?_; simp only [c53, Try.f53, Option.getD_some, nslot53, List.append_nil, List.map, List.replicate, List.length_cons, List.length_nil, Nat.reduceAdd, Nat.reduceSub, List.cons_append, List.nil_append])
  (repeat' (first | (simp -implicitDefEqProofs (maxSteps := 1000000) (disch := first | assumption | omega | (simp only [KE, JO, JP, KF]; omega)) only [*, lenV, ty3, ty4, ty22, ty24, ty25, slot53, plan53_5, plan53_11, plan53_16, plan53_17, plan53_22, plan53_23, Za, Zb, Zc, Zd, Ze, Zf, Zg, Zh, Zi, Zj, and_true, true_and, Ja, Jb, Jc, cond_true, cond_false, Jd, Je, Jf, Jg, Jh, Ji, Jj, St.put, Jk, Jl, Jm, Jn, Jo, Jp, Jq, Jr, Js, Jt, decide_true, decide_false, Nat.reduceEqDiff, Ju, Jv, Jw, Jx, Jy, rd, TI.kind, Nat.reduceLT, Nat.reduceAdd, and_self, Jz, J0, J1, J2, J3, J4, beq_self_eq_true, J5, J6, J7, J8, J9, JA, JB, Op.operands, JC, JD, JE, JF, JG, JH, JI, JJ, JK, JL, Nat.reduceBEq, JM, JN, JO, JP, JQ, JR, JS, JT, JU, JV, JW, wr, JX, JY, Nat.reduceSub, Nat.reduceMul, JZ, Ka, Kb, Kc, Kd, Ke, Kf, Kg, Kh, Ki, Kj, Kk, Kl, Km, Kn, Ko, Kp, Kq, Kr, Ks, Kt, Ku, Kv, Kw, Kx, Ky, Kz, K0, K1, K2, K3, K4, K5, K6, K7, K8, K9, KA, KC, KD, reduceCtorEq, Int.reduceLT, Int.reduceLE, Int.reduceAdd, Int.reduceSub, Int.reduceNeg, Int.reduceToNat, Int.reduceEq, KE, KF, Nat.reduceLeDiff, KG, KH, KI, or_true, true_or, or_false, false_or]) | ((with_reducible (first | refine Ok.br ?_ ?_ | refine Ok.gd ?_ ?_ | refine Ok.ld ?_ ?_)) <;> (intro g; (try simp only [Zz] at g); (first | (exfalso; omega) | skip)))))
  refine Ok.loop [false, false, false, false, false, false, false, false, true, true, true, true, true, false, false, true, true, true, true, true, true, true, true, true, true, true, true, true, true, true, true, true, true, true, true, true, true, true, true, true, true, true, true, true, true, true, true, true, true, true, true, true, true, true, true, true, true, true, true, true, true, true, true, true, true, true, true, true, true, true, true, true, true, true, true, true, true, true, true, true, true, true, true, true, true, true, true, true, true, true, true, true, true, true, true, true, true, true, true, true, true, true, true, true, true, true, true, true, true, true, true, true, true, true, true, true, true, true, true, true, true, true, true, true, true, true, true, true, true, true, true, true, true, true, true, true, true, true, true, true, true] (fun m s2 => ∃ (k i : Nat) (e : Array RP), m = 5 - k ∧ k ≤ 5 ∧ i0 < i ∧ i ≤ j0 ∧ tv s2.e 9 = .v (.int .i64 i) ∧ tv s2.e 10 = .v (.int .i64 k) ∧ s2.l = [] ∧ s2.h = H.set b (.cells g true (fl e)) ∧ e.size = d.size ∧ partialIns lt i0 j0 (5 - k) i e = R)
    (fun x s2 => s2.l = [] ∧ s2.h = H.set b (.cells g true (fl R.1)) ∧ ((x = .exit 0 ∧ R.2 = false) ∨ (x = .ret ∧ tv s2.e 8 = .v (.bool R.2)))) 5 ⟨0, i0 + 1, d, rfl, by omega, by omega, by omega, rfl, rfl, rfl, rfl, rfl, hR⟩ ?_ ?_
  · intro m ⟨e', l', H'⟩ hW ⟨k, i, e, hm, hk, hi, hij, h9, h10, k2, k3, hsz, hre⟩
    dsimp only at hW h9 h10 k2 k3
    subst l' H'
    rw [hW.spread]
    simp only [spread_t, spread_f, spread_n, Nat.zero_add, Nat.reduceAdd, h9, h10]
    clear hW hQ' hR
    have hre' := Hid.mk hre
    clear hre
    by_cases hk5 : k < 5
    · have hk5' : (k : Int) < 5 := by omega
      (repeat' (first | (simp -implicitDefEqProofs (maxSteps := 1000000) (disch := first | assumption | omega | (simp only [KE, JO, JP, KF]; omega)) only [*, lenV, ty3, ty4, ty22, ty24, ty25, slot53, plan53_5, plan53_11, plan53_16, plan53_17, plan53_22, plan53_23, Za, Zb, Zc, Zd, Ze, Zf, Zg, Zh, Zi, Zj, and_true, true_and, Ja, Jb, Jc, cond_true, cond_false, Jd, Je, Jf, Jg, Jh, Ji, Jj, St.put, Jk, Jl, Jm, Jn, Jo, Jp, Jq, Jr, Js, Jt, decide_true, decide_false, Nat.reduceEqDiff, Ju, Jv, Jw, Jx, Jy, rd, TI.kind, Nat.reduceLT, Nat.reduceAdd, and_self, Jz, J0, J1, J2, J3, J4, beq_self_eq_true, J5, J6, J7, J8, J9, JA, JB, Op.operands, JC, JD, JE, JF, JG, JH, JI, JJ, JK, JL, Nat.reduceBEq, JM, JN, JO, JP, JQ, JR, JS, JT, JU, JV, JW, wr, JX, JY, Nat.reduceSub, Nat.reduceMul, JZ, Ka, Kb, Kc, Kd, Ke, Kf, Kg, Kh, Ki, Kj, Kk, Kl, Km, Kn, Ko, Kp, Kq, Kr, Ks, Kt, Ku, Kv, Kw, Kx, Ky, Kz, K0, K1, K2, K3, K4, K5, K6, K7, K8, K9, KA, KC, KD, reduceCtorEq, Int.reduceLT, Int.reduceLE, Int.reduceAdd, Int.reduceSub, Int.reduceNeg, Int.reduceToNat, Int.reduceEq, KE, KF, Nat.reduceLeDiff, KG, KH, KI, or_true, true_or, or_false, false_or]) | ((with_reducible (first | refine Ok.br ?_ ?_ | refine Ok.gd ?_ ?_ | refine Ok.ld ?_ ?_)) <;> (intro g; (try simp only [Zz] at g); (first | (exfalso; omega) | skip)))))
      refine Ok.loop [false, false, false, false, false, false, false, false, false, true, false, false, false, false, false, false, false, false, false, true, true, true, true, true, true, true, true, true, true, true, true, true, true, true, true, true, true, true, true, false, false, false, false, false, false, false, false, false, false, false, false, false, false, false, false, false, false, false, false, false, false, false, false, false, false, false, false, false, false, false, false, false, false, false, false, false, false, false, false, false, false, false, false, false, false, false, false, false, false, false, false, false, false, false, false, false, false, false, false, false, false, false, false, false, false, false, false, false, false, false, false, false, false, false, false, false, false, false, false, false, false, false, false, false, false, false, false, false, false, false, false, false, false, false, false, false, false, false, false, false, false] (fun m s2 => ∃ i2 : Nat, m = j0 - i2 ∧ i ≤ i2 ∧ i2 ≤ j0 ∧ tv s2.e 9 = .v (.int .i64 i2) ∧ s2.l = [] ∧ s2.h = H.set b (.cells g true (fl e)) ∧ scanSorted lt e j0 i2 = scanSorted lt e j0 i)
        (fun x s2 => x = .exit 2 ∧ tv s2.e 9 = .v (.int .i64 (scanSorted lt e j0 i : Nat)) ∧ s2.l = [] ∧ s2.h = H.set b (.cells g true (fl e))) (j0 - i) ⟨i, rfl, Nat.le_refl _, hij, rfl, rfl, rfl, rfl⟩ ?_ ?_
      · intro m2 ⟨e3, l3, H3⟩ hW2 ⟨i2, hm2, hi2, hi3, q9, q2, q3, hsc⟩
        dsimp only at hW2 q9 q2 q3
        subst l3 H3
        rw [hW2.spread]
        simp only [spread_t, spread_f, spread_n, Nat.zero_add, Nat.reduceAdd, q9]
        clear hW2
        have hsc' := Hid.mk hsc
        clear hsc
        by_cases hle : i2 < j0
        · have hle' : (i2 : Int) < (j0 : Int) := by omega
          have e1 : (i2 : Int) - 1 = ((i2 - 1 : Nat) : Int) := by omega
          have g1 : 0 ≤ (i2 : Int) ∧ (i2 : Int) < (n : Int) := by omega
          have g2 : 0 ≤ ((i2 - 1 : Nat) : Int) ∧ ((i2 - 1 : Nat) : Int) < (n : Int) := by omega
          have g3 : i2 < e.size := by omega
          have g4 : i2 - 1 < e.size := by omega
          by_cases hp : hc.c e[i2]! e[i2 - 1]! < 0
          · (repeat' (first | (simp -implicitDefEqProofs (maxSteps := 1000000) (disch := first | assumption | omega | (simp only [KE, JO, JP, KF]; omega)) only [*, lenV, fl_len, fl_at, fl_set, fl_set2, swp_eq, hc.run, eq_self, Array.size_setIfInBounds, pr_eta, ty3, ty4, ty22, ty24, ty25, slot53, plan53_5, plan53_11, plan53_16, plan53_17, plan53_22, plan53_23, Za, Zb, Zc, Zd, Ze, Zf, Zg, Zh, Zi, Zj, and_true, true_and, Ja, Jb, Jc, cond_true, cond_false, Jd, Je, Jf, Jg, Jh, Ji, Jj, St.put, Jk, Jl, Jm, Jn, Jo, Jp, Jq, Jr, Js, Jt, decide_true, decide_false, Nat.reduceEqDiff, Ju, Jv, Jw, Jx, Jy, rd, TI.kind, Nat.reduceLT, Nat.reduceAdd, and_self, Jz, J0, J1, J2, J3, J4, beq_self_eq_true, J5, J6, J7, J8, J9, JA, JB, Op.operands, JC, JD, JE, JF, JG, JH, JI, JJ, JK, JL, Nat.reduceBEq, JM, JN, JO, JP, JQ, JR, JS, JT, JU, JV, JW, wr, JX, JY, Nat.reduceSub, Nat.reduceMul, JZ, Ka, Kb, Kc, Kd, Ke, Kf, Kg, Kh, Ki, Kj, Kk, Kl, Km, Kn, Ko, Kp, Kq, Kr, Ks, Kt, Ku, Kv, Kw, Kx, Ky, Kz, K0, K1, K2, K3, K4, K5, K6, K7, K8, K9, KA, KC, KD, reduceCtorEq, Int.reduceLT, Int.reduceLE, Int.reduceAdd, Int.reduceSub, Int.reduceNeg, Int.reduceToNat, Int.reduceEq, KE, KF, Nat.reduceLeDiff, KG, KH, KI, or_true, true_or, or_false, false_or]) | ((with_reducible (first | refine Ok.br ?_ ?_ | refine Ok.gd ?_ ?_ | refine Ok.ld ?_ ?_)) <;> (intro g; (try simp only [Zz] at g); (first | (exfalso; omega) | skip)))))
            exact Turn.exit ⟨rfl, rfl, by rw [← hsc'.out, scanSorted_stop (.inr (by rw [hng'.out]; exact decide_eq_true hp))] <;> rfl, rfl, rfl⟩
          · (repeat' (first | (simp -implicitDefEqProofs (maxSteps := 1000000) (disch := first | assumption | omega | (simp only [KE, JO, JP, KF]; omega)) only [*, lenV, fl_len, fl_at, fl_set, fl_set2, swp_eq, hc.run, eq_self, Array.size_setIfInBounds, pr_eta, ty3, ty4, ty22, ty24, ty25, slot53, plan53_5, plan53_11, plan53_16, plan53_17, plan53_22, plan53_23, Za, Zb, Zc, Zd, Ze, Zf, Zg, Zh, Zi, Zj, and_true, true_and, Ja, Jb, Jc, cond_true, cond_false, Jd, Je, Jf, Jg, Jh, Ji, Jj, St.put, Jk, Jl, Jm, Jn, Jo, Jp, Jq, Jr, Js, Jt, decide_true, decide_false, Nat.reduceEqDiff, Ju, Jv, Jw, Jx, Jy, rd, TI.kind, Nat.reduceLT, Nat.reduceAdd, and_self, Jz, J0, J1, J2, J3, J4, beq_self_eq_true, J5, J6, J7, J8, J9, JA, JB, Op.operands, JC, JD, JE, JF, JG, JH, JI, JJ, JK, JL, Nat.reduceBEq, JM, JN, JO, JP, JQ, JR, JS, JT, JU, JV, JW, wr, JX, JY, Nat.reduceSub, Nat.reduceMul, JZ, Ka, Kb, Kc, Kd, Ke, Kf, Kg, Kh, Ki, Kj, Kk, Kl, Km, Kn, Ko, Kp, Kq, Kr, Ks, Kt, Ku, Kv, Kw, Kx, Ky, Kz, K0, K1, K2, K3, K4, K5, K6, K7, K8, K9, KA, KC, KD, reduceCtorEq, Int.reduceLT, Int.reduceLE, Int.reduceAdd, Int.reduceSub, Int.reduceNeg, Int.reduceToNat, Int.reduceEq, KE, KF, Nat.reduceLeDiff, KG, KH, KI, or_true, true_or, or_false, false_or]) | ((with_reducible (first | refine Ok.br ?_ ?_ | refine Ok.gd ?_ ?_ | refine Ok.ld ?_ ?_)) <;> (intro g; (try simp only [Zz] at g); (first | (exfalso; omega) | skip)))))
            exact Turn.next (j0 - (i2 + 1)) (by omega) ⟨rfl, i2 + 1, rfl, by omega, by omega, rfl, rfl, rfl, by rw [← hsc'.out, scanSorted_next hle (by rw [hng'.out]; exact decide_eq_false hp)]⟩
        · have hle' : ¬ (i2 : Int) < (j0 : Int) := by omega
          (repeat' (first | (simp -implicitDefEqProofs (maxSteps := 1000000) (disch := first | assumption | omega | (simp only [KE, JO, JP, KF]; omega)) only [*, lenV, ty3, ty4, ty22, ty24, ty25, slot53, plan53_5, plan53_11, plan53_16, plan53_17, plan53_22, plan53_23, Za, Zb, Zc, Zd, Ze, Zf, Zg, Zh, Zi, Zj, and_true, true_and, Ja, Jb, Jc, cond_true, cond_false, Jd, Je, Jf, Jg, Jh, Ji, Jj, St.put, Jk, Jl, Jm, Jn, Jo, Jp, Jq, Jr, Js, Jt, decide_true, decide_false, Nat.reduceEqDiff, Ju, Jv, Jw, Jx, Jy, rd, TI.kind, Nat.reduceLT, Nat.reduceAdd, and_self, Jz, J0, J1, J2, J3, J4, beq_self_eq_true, J5, J6, J7, J8, J9, JA, JB, Op.operands, JC, JD, JE, JF, JG, JH, JI, JJ, JK, JL, Nat.reduceBEq, JM, JN, JO, JP, JQ, JR, JS, JT, JU, JV, JW, wr, JX, JY, Nat.reduceSub, Nat.reduceMul, JZ, Ka, Kb, Kc, Kd, Ke, Kf, Kg, Kh, Ki, Kj, Kk, Kl, Km, Kn, Ko, Kp, Kq, Kr, Ks, Kt, Ku, Kv, Kw, Kx, Ky, Kz, K0, K1, K2, K3, K4, K5, K6, K7, K8, K9, KA, KC, KD, reduceCtorEq, Int.reduceLT, Int.reduceLE, Int.reduceAdd, Int.reduceSub, Int.reduceNeg, Int.reduceToNat, Int.reduceEq, KE, KF, Nat.reduceLeDiff, KG, KH, KI, or_true, true_or, or_false, false_or]) | ((with_reducible (first | refine Ok.br ?_ ?_ | refine Ok.gd ?_ ?_ | refine Ok.ld ?_ ?_)) <;> (intro g; (try simp only [Zz] at g); (first | (exfalso; omega) | skip)))))
          exact Turn.exit ⟨rfl, rfl, by rw [← hsc'.out, scanSorted_stop (.inl hle)] <;> rfl, rfl, rfl⟩
      · intro x ⟨e3, l3, H3⟩ hW2 ⟨hx, q9, q2, q3⟩
        dsimp only at hW2 q9 q2 q3
        subst l3 hx H3
        rw [hW2.spread]
        simp only [spread_t, spread_f, spread_n, Nat.zero_add, Nat.reduceAdd, q9]
        clear hW2
        have hge := scanSorted_le (lt := lt) (d := e) (b := j0) _ i (Nat.le_refl _) hij
        have hre := hre'.out
        clear hre'
        obtain ⟨s, hs5⟩ : ∃ s, 5 - k = s + 1 := ⟨5 - k - 1, by omega⟩
        rw [hs5, partialIns_succ] at hre
        generalize scanSorted lt e j0 i = I at hge q9 hre
        have hre' := Hid.mk hre
        clear hre
        by_cases hIj : I = j0
        · have hIj' : (I : Int) = (j0 : Int) := by omega
          have hr := hre'.out
          rw [if_pos hIj] at hr
          subst hr
          clear hre' hIj
          (repeat' (first | (simp -implicitDefEqProofs (maxSteps := 1000000) (disch := first | assumption | omega | (simp only [KE, JO, JP, KF]; omega)) only [*, lenV, ty3, ty4, ty22, ty24, ty25, slot53, plan53_5, plan53_11, plan53_16, plan53_17, plan53_22, plan53_23, Za, Zb, Zc, Zd, Ze, Zf, Zg, Zh, Zi, Zj, and_true, true_and, Ja, Jb, Jc, cond_true, cond_false, Jd, Je, Jf, Jg, Jh, Ji, Jj, St.put, Jk, Jl, Jm, Jn, Jo, Jp, Jq, Jr, Js, Jt, decide_true, decide_false, Nat.reduceEqDiff, Ju, Jv, Jw, Jx, Jy, rd, TI.kind, Nat.reduceLT, Nat.reduceAdd, and_self, Jz, J0, J1, J2, J3, J4, beq_self_eq_true, J5, J6, J7, J8, J9, JA, JB, Op.operands, JC, JD, JE, JF, JG, JH, JI, JJ, JK, JL, Nat.reduceBEq, JM, JN, JO, JP, JQ, JR, JS, JT, JU, JV, JW, wr, JX, JY, Nat.reduceSub, Nat.reduceMul, JZ, Ka, Kb, Kc, Kd, Ke, Kf, Kg, Kh, Ki, Kj, Kk, Kl, Km, Kn, Ko, Kp, Kq, Kr, Ks, Kt, Ku, Kv, Kw, Kx, Ky, Kz, K0, K1, K2, K3, K4, K5, K6, K7, K8, K9, KA, KC, KD, reduceCtorEq, Int.reduceLT, Int.reduceLE, Int.reduceAdd, Int.reduceSub, Int.reduceNeg, Int.reduceToNat, Int.reduceEq, KE, KF, Nat.reduceLeDiff, KG, KH, KI, or_true, true_or, or_false, false_or]) | ((with_reducible (first | refine Ok.br ?_ ?_ | refine Ok.gd ?_ ?_ | refine Ok.ld ?_ ?_)) <;> (intro g; (try simp only [Zz] at g); (first | (exfalso; omega) | skip)))))
          exact Turn.ret ⟨rfl, rfl, rfl, .inr ⟨rfl, rfl⟩⟩
        · have hIj' : ¬ (I : Int) = (j0 : Int) := by omega
          by_cases h50 : j0 - i0 < 50
          · have h50' : (j0 : Int) - (i0 : Int) < 50 := by omega
            have hr := hre'.out
            rw [if_neg hIj, if_pos h50] at hr
            subst hr
            clear hre' hIj
            (repeat' (first | (simp -implicitDefEqProofs (maxSteps := 1000000) (disch := first | assumption | omega | (simp only [KE, JO, JP, KF]; omega)) only [*, lenV, ty3, ty4, ty22, ty24, ty25, slot53, plan53_5, plan53_11, plan53_16, plan53_17, plan53_22, plan53_23, Za, Zb, Zc, Zd, Ze, Zf, Zg, Zh, Zi, Zj, and_true, true_and, Ja, Jb, Jc, cond_true, cond_false, Jd, Je, Jf, Jg, Jh, Ji, Jj, St.put, Jk, Jl, Jm, Jn, Jo, Jp, Jq, Jr, Js, Jt, decide_true, decide_false, Nat.reduceEqDiff, Ju, Jv, Jw, Jx, Jy, rd, TI.kind, Nat.reduceLT, Nat.reduceAdd, and_self, Jz, J0, J1, J2, J3, J4, beq_self_eq_true, J5, J6, J7, J8, J9, JA, JB, Op.operands, JC, JD, JE, JF, JG, JH, JI, JJ, JK, JL, Nat.reduceBEq, JM, JN, JO, JP, JQ, JR, JS, JT, JU, JV, JW, wr, JX, JY, Nat.reduceSub, Nat.reduceMul, JZ, Ka, Kb, Kc, Kd, Ke, Kf, Kg, Kh, Ki, Kj, Kk, Kl, Km, Kn, Ko, Kp, Kq, Kr, Ks, Kt, Ku, Kv, Kw, Kx, Ky, Kz, K0, K1, K2, K3, K4, K5, K6, K7, K8, K9, KA, KC, KD, reduceCtorEq, Int.reduceLT, Int.reduceLE, Int.reduceAdd, Int.reduceSub, Int.reduceNeg, Int.reduceToNat, Int.reduceEq, KE, KF, Nat.reduceLeDiff, KG, KH, KI, or_true, true_or, or_false, false_or]) | ((with_reducible (first | refine Ok.br ?_ ?_ | refine Ok.gd ?_ ?_ | refine Ok.ld ?_ ?_)) <;> (intro g; (try simp only [Zz] at g); (first | (exfalso; omega) | skip)))))
            exact Turn.ret ⟨rfl, rfl, rfl, .inr ⟨rfl, rfl⟩⟩
          · have h50' : ¬ (j0 : Int) - (i0 : Int) < 50 := by omega
            have hr := hre'.out
            rw [if_neg hIj, if_neg h50] at hr
            clear hre'
            have hre' := Hid.mk hr
            clear hr h50
            have e1 : (I : Int) - 1 = ((I - 1 : Nat) : Int) := by omega
            have e2 : (I : Int) + 1 = ((I + 1 : Nat) : Int) := by omega
            have g1 : 0 ≤ (I : Int) ∧ (I : Int) < (n : Int) := by omega
            have g2 : 0 ≤ ((I - 1 : Nat) : Int) ∧ ((I - 1 : Nat) : Int) < (n : Int) := by omega
            have g3 : I < e.size := by omega
            have g4 : I - 1 < e.size := by omega
            by_cases hd : 2 ≤ I - i0
            · have hd' : 2 ≤ (I : Int) - (i0 : Int) := by omega
              (repeat' (first | (simp -implicitDefEqProofs (maxSteps := 1000000) (disch := first | assumption | omega | (simp only [KE, JO, JP, KF]; omega)) only [*, lenV, fl_len, fl_at, fl_set, fl_set2, swp_eq, hc.run, eq_self, Array.size_setIfInBounds, pr_eta, ty3, ty4, ty22, ty24, ty25, slot53, plan53_5, plan53_11, plan53_16, plan53_17, plan53_22, plan53_23, Za, Zb, Zc, Zd, Ze, Zf, Zg, Zh, Zi, Zj, and_true, true_and, Ja, Jb, Jc, cond_true, cond_false, Jd, Je, Jf, Jg, Jh, Ji, Jj, St.put, Jk, Jl, Jm, Jn, Jo, Jp, Jq, Jr, Js, Jt, decide_true, decide_false, Nat.reduceEqDiff, Ju, Jv, Jw, Jx, Jy, rd, TI.kind, Nat.reduceLT, Nat.reduceAdd, and_self, Jz, J0, J1, J2, J3, J4, beq_self_eq_true, J5, J6, J7, J8, J9, JA, JB, Op.operands, JC, JD, JE, JF, JG, JH, JI, JJ, JK, JL, Nat.reduceBEq, JM, JN, JO, JP, JQ, JR, JS, JT, JU, JV, JW, wr, JX, JY, Nat.reduceSub, Nat.reduceMul, JZ, Ka, Kb, Kc, Kd, Ke, Kf, Kg, Kh, Ki, Kj, Kk, Kl, Km, Kn, Ko, Kp, Kq, Kr, Ks, Kt, Ku, Kv, Kw, Kx, Ky, Kz, K0, K1, K2, K3, K4, K5, K6, K7, K8, K9, KA, KC, KD, reduceCtorEq, Int.reduceLT, Int.reduceLE, Int.reduceAdd, Int.reduceSub, Int.reduceNeg, Int.reduceToNat, Int.reduceEq, KE, KF, Nat.reduceLeDiff, KG, KH, KI, or_true, true_or, or_false, false_or]) | ((with_reducible (first | refine Ok.br ?_ ?_ | refine Ok.gd ?_ ?_ | refine Ok.ld ?_ ?_)) <;> (intro g; (try simp only [Zz] at g); (first | (exfalso; omega) | skip)))))
              have hfd : fixDown lt i0 I (swp e I (I - 1)) = shiftDown lt (I - 1) (swp e I (I - 1)) := if_pos hd
              rw [hfd] at hre'
              have hs2 : (swp e I (I - 1)).size = d.size := by rw [swp_size]; exact hsz
              generalize swp e I (I - 1) = d2 at hs2 hre'
              obtain ⟨K, hK⟩ : ∃ K, I - 1 = K := ⟨_, rfl⟩
              simp only [hK] at hre' ⊢
              clear e1 g2 g3 g4 hfd
              have hK2 : K < j0 := by omega
              refine Ok.loop [false, false, false, false, false, false, false, false, false, false, false, true, false, false, false, false, false, false, false, false, false, false, false, false, false, false, false, false, false, false, false, false, false, false, false, false, false, false, false, false, false, false, false, false, false, false, false, false, false, false, false, false, false, false, false, false, false, false, false, false, false, false, false, false, false, false, false, false, true, true, true, true, true, true, true, true, true, true, true, true, true, true, true, true, true, true, true, true, true, true, true, true, true, true, true, true, true, true, true, true, true, false, false, false, false, false, false, false, false, false, false, false, false, false, false, false, false, false, false, false, false, false, false, false, false, false, false, false, false, false, false, false, false, false, false, false, false, false, false, false, false] (fun m s2 => ∃ (j : Nat) (e2 : Array RP), m = j ∧ j ≤ K ∧ tv s2.e 11 = .v (.int .i64 j) ∧ s2.l = [] ∧ s2.h = H.set b (.cells g true (fl e2)) ∧ e2.size = d.size ∧ shiftDown lt j e2 = shiftDown lt K d2)
                (fun x s2 => x = .exit 4 ∧ s2.l = [] ∧ s2.h = H.set b (.cells g true (fl (shiftDown lt K d2)))) K ⟨K, d2, rfl, Nat.le_refl _, rfl, rfl, rfl, hs2, rfl⟩ ?_ ?_
              · intro m2 ⟨e3, l3, H3⟩ hW2 ⟨j, e2, hm2, hj, q9, q2, q3, hsz2, hsc⟩
                dsimp only at hW2 q9 q2 q3
                subst l3 H3
                rw [hW2.spread]
                simp only [spread_t, spread_f, spread_n, Nat.zero_add, Nat.reduceAdd, q9]
                clear hW2
                have hsc' := Hid.mk hsc
                clear hsc
                by_cases hj0 : 1 ≤ j
                · obtain ⟨j, rfl⟩ : ∃ j', j = j' + 1 := ⟨j - 1, by omega⟩
                  have hj0' : 1 ≤ ((j + 1 : Nat) : Int) := by omega
                  have e1 : ((j + 1 : Nat) : Int) - 1 = (j : Int) := by omega
                  have g1 : 0 ≤ ((j + 1 : Nat) : Int) ∧ ((j + 1 : Nat) : Int) < (n : Int) := by omega
                  have g2 : 0 ≤ (j : Int) ∧ (j : Int) < (n : Int) := by omega
                  have g3 : j + 1 < e2.size := by omega
                  have g4 : j < e2.size := by omega
                  by_cases hp : hc.c e2[j + 1]! e2[j]! < 0
                  · (repeat' (first | (simp -implicitDefEqProofs (maxSteps := 1000000) (disch := first | assumption | omega | (simp only [KE, JO, JP, KF]; omega)) only [*, lenV, fl_len, fl_at, fl_set, fl_set2, swp_eq, hc.run, eq_self, Array.size_setIfInBounds, pr_eta, ty3, ty4, ty22, ty24, ty25, slot53, plan53_5, plan53_11, plan53_16, plan53_17, plan53_22, plan53_23, Za, Zb, Zc, Zd, Ze, Zf, Zg, Zh, Zi, Zj, and_true, true_and, Ja, Jb, Jc, cond_true, cond_false, Jd, Je, Jf, Jg, Jh, Ji, Jj, St.put, Jk, Jl, Jm, Jn, Jo, Jp, Jq, Jr, Js, Jt, decide_true, decide_false, Nat.reduceEqDiff, Ju, Jv, Jw, Jx, Jy, rd, TI.kind, Nat.reduceLT, Nat.reduceAdd, and_self, Jz, J0, J1, J2, J3, J4, beq_self_eq_true, J5, J6, J7, J8, J9, JA, JB, Op.operands, JC, JD, JE, JF, JG, JH, JI, JJ, JK, JL, Nat.reduceBEq, JM, JN, JO, JP, JQ, JR, JS, JT, JU, JV, JW, wr, JX, JY, Nat.reduceSub, Nat.reduceMul, JZ, Ka, Kb, Kc, Kd, Ke, Kf, Kg, Kh, Ki, Kj, Kk, Kl, Km, Kn, Ko, Kp, Kq, Kr, Ks, Kt, Ku, Kv, Kw, Kx, Ky, Kz, K0, K1, K2, K3, K4, K5, K6, K7, K8, K9, KA, KC, KD, reduceCtorEq, Int.reduceLT, Int.reduceLE, Int.reduceAdd, Int.reduceSub, Int.reduceNeg, Int.reduceToNat, Int.reduceEq, KE, KF, Nat.reduceLeDiff, KG, KH, KI, or_true, true_or, or_false, false_or]) | ((with_reducible (first | refine Ok.br ?_ ?_ | refine Ok.gd ?_ ?_ | refine Ok.ld ?_ ?_)) <;> (intro g; (try simp only [Zz] at g); (first | (exfalso; omega) | skip)))))
                    refine Turn.next j (by omega) ⟨rfl, j, swp e2 (j + 1) j, rfl, by omega, rfl, rfl, rfl, by rw [swp_size]; exact hsz2, ?_⟩
                    rw [← hsc'.out]
                    conv => rhs; rw [shiftDown, hng'.out, decide_eq_true hp, if_neg (by simp)]
                  · (repeat' (first | (simp -implicitDefEqProofs (maxSteps := 1000000) (disch := first | assumption | omega | (simp only [KE, JO, JP, KF]; omega)) only [*, lenV, fl_len, fl_at, fl_set, fl_set2, swp_eq, hc.run, eq_self, Array.size_setIfInBounds, pr_eta, ty3, ty4, ty22, ty24, ty25, slot53, plan53_5, plan53_11, plan53_16, plan53_17, plan53_22, plan53_23, Za, Zb, Zc, Zd, Ze, Zf, Zg, Zh, Zi, Zj, and_true, true_and, Ja, Jb, Jc, cond_true, cond_false, Jd, Je, Jf, Jg, Jh, Ji, Jj, St.put, Jk, Jl, Jm, Jn, Jo, Jp, Jq, Jr, Js, Jt, decide_true, decide_false, Nat.reduceEqDiff, Ju, Jv, Jw, Jx, Jy, rd, TI.kind, Nat.reduceLT, Nat.reduceAdd, and_self, Jz, J0, J1, J2, J3, J4, beq_self_eq_true, J5, J6, J7, J8, J9, JA, JB, Op.operands, JC, JD, JE, JF, JG, JH, JI, JJ, JK, JL, Nat.reduceBEq, JM, JN, JO, JP, JQ, JR, JS, JT, JU, JV, JW, wr, JX, JY, Nat.reduceSub, Nat.reduceMul, JZ, Ka, Kb, Kc, Kd, Ke, Kf, Kg, Kh, Ki, Kj, Kk, Kl, Km, Kn, Ko, Kp, Kq, Kr, Ks, Kt, Ku, Kv, Kw, Kx, Ky, Kz, K0, K1, K2, K3, K4, K5, K6, K7, K8, K9, KA, KC, KD, reduceCtorEq, Int.reduceLT, Int.reduceLE, Int.reduceAdd, Int.reduceSub, Int.reduceNeg, Int.reduceToNat, Int.reduceEq, KE, KF, Nat.reduceLeDiff, KG, KH, KI, or_true, true_or, or_false, false_or]) | ((with_reducible (first | refine Ok.br ?_ ?_ | refine Ok.gd ?_ ?_ | refine Ok.ld ?_ ?_)) <;> (intro g; (try simp only [Zz] at g); (first | (exfalso; omega) | skip)))))
                    exact Turn.exit ⟨rfl, rfl, rfl, by rw [← hsc'.out, shiftDown, hng'.out, decide_eq_false hp, if_pos (by simp)]⟩
                · have hj0' : ¬ 1 ≤ (j : Int) := by omega
                  (repeat' (first | (simp -implicitDefEqProofs (maxSteps := 1000000) (disch := first | assumption | omega | (simp only [KE, JO, JP, KF]; omega)) only [*, lenV, fl_len, fl_at, fl_set, fl_set2, swp_eq, hc.run, eq_self, Array.size_setIfInBounds, pr_eta, ty3, ty4, ty22, ty24, ty25, slot53, plan53_5, plan53_11, plan53_16, plan53_17, plan53_22, plan53_23, Za, Zb, Zc, Zd, Ze, Zf, Zg, Zh, Zi, Zj, and_true, true_and, Ja, Jb, Jc, cond_true, cond_false, Jd, Je, Jf, Jg, Jh, Ji, Jj, St.put, Jk, Jl, Jm, Jn, Jo, Jp, Jq, Jr, Js, Jt, decide_true, decide_false, Nat.reduceEqDiff, Ju, Jv, Jw, Jx, Jy, rd, TI.kind, Nat.reduceLT, Nat.reduceAdd, and_self, Jz, J0, J1, J2, J3, J4, beq_self_eq_true, J5, J6, J7, J8, J9, JA, JB, Op.operands, JC, JD, JE, JF, JG, JH, JI, JJ, JK, JL, Nat.reduceBEq, JM, JN, JO, JP, JQ, JR, JS, JT, JU, JV, JW, wr, JX, JY, Nat.reduceSub, Nat.reduceMul, JZ, Ka, Kb, Kc, Kd, Ke, Kf, Kg, Kh, Ki, Kj, Kk, Kl, Km, Kn, Ko, Kp, Kq, Kr, Ks, Kt, Ku, Kv, Kw, Kx, Ky, Kz, K0, K1, K2, K3, K4, K5, K6, K7, K8, K9, KA, KC, KD, reduceCtorEq, Int.reduceLT, Int.reduceLE, Int.reduceAdd, Int.reduceSub, Int.reduceNeg, Int.reduceToNat, Int.reduceEq, KE, KF, Nat.reduceLeDiff, KG, KH, KI, or_true, true_or, or_false, false_or]) | ((with_reducible (first | refine Ok.br ?_ ?_ | refine Ok.gd ?_ ?_ | refine Ok.ld ?_ ?_)) <;> (intro g; (try simp only [Zz] at g); (first | (exfalso; omega) | skip)))))
                  obtain rfl : j = 0 := by omega
                  exact Turn.exit ⟨rfl, rfl, rfl, by rw [← hsc'.out]; rfl⟩
              · intro x ⟨e3, l3, H3⟩ hW2 ⟨hx, q2, q3⟩
                dsimp only at hW2 q2 q3
                subst l3 hx H3
                rw [hW2.spread]
                simp only [spread_t, spread_f, spread_n, Nat.zero_add, Nat.reduceAdd]
                clear hW2
                have hs3 : (shiftDown lt K d2).size = d.size := by rw [shiftDown_size]; exact hs2
                generalize shiftDown lt K d2 = d3 at hs3 hre'
                clear hs2
                by_cases hu : 2 ≤ j0 - I
                · have hu' : 2 ≤ (j0 : Int) - (I : Int) := by omega
                  (repeat' (first | (simp -implicitDefEqProofs (maxSteps := 1000000) (disch := first | assumption | omega | (simp only [KE, JO, JP, KF]; omega)) only [*, lenV, fl_len, fl_at, fl_set, fl_set2, swp_eq, hc.run, eq_self, Array.size_setIfInBounds, pr_eta, ty3, ty4, ty22, ty24, ty25, slot53, plan53_5, plan53_11, plan53_16, plan53_17, plan53_22, plan53_23, Za, Zb, Zc, Zd, Ze, Zf, Zg, Zh, Zi, Zj, and_true, true_and, Ja, Jb, Jc, cond_true, cond_false, Jd, Je, Jf, Jg, Jh, Ji, Jj, St.put, Jk, Jl, Jm, Jn, Jo, Jp, Jq, Jr, Js, Jt, decide_true, decide_false, Nat.reduceEqDiff, Ju, Jv, Jw, Jx, Jy, rd, TI.kind, Nat.reduceLT, Nat.reduceAdd, and_self, Jz, J0, J1, J2, J3, J4, beq_self_eq_true, J5, J6, J7, J8, J9, JA, JB, Op.operands, JC, JD, JE, JF, JG, JH, JI, JJ, JK, JL, Nat.reduceBEq, JM, JN, JO, JP, JQ, JR, JS, JT, JU, JV, JW, wr, JX, JY, Nat.reduceSub, Nat.reduceMul, JZ, Ka, Kb, Kc, Kd, Ke, Kf, Kg, Kh, Ki, Kj, Kk, Kl, Km, Kn, Ko, Kp, Kq, Kr, Ks, Kt, Ku, Kv, Kw, Kx, Ky, Kz, K0, K1, K2, K3, K4, K5, K6, K7, K8, K9, KA, KC, KD, reduceCtorEq, Int.reduceLT, Int.reduceLE, Int.reduceAdd, Int.reduceSub, Int.reduceNeg, Int.reduceToNat, Int.reduceEq, KE, KF, Nat.reduceLeDiff, KG, KH, KI, or_true, true_or, or_false, false_or]) | ((with_reducible (first | refine Ok.br ?_ ?_ | refine Ok.gd ?_ ?_ | refine Ok.ld ?_ ?_)) <;> (intro g; (try simp only [Zz] at g); (first | (exfalso; omega) | skip)))))
                  have hfu : fixUp lt j0 I d3 = shiftUp lt j0 (I + 1) d3 := if_pos hu
                  rw [hfu] at hre'
                  refine Ok.loop [false, false, false, false, false, false, false, false, false, false, false, false, true, false, false, false, false, false, false, false, false, false, false, false, false, false, false, false, false, false, false, false, false, false, false, false, false, false, false, false, false, false, false, false, false, false, false, false, false, false, false, false, false, false, false, false, false, false, false, false, false, false, false, false, false, false, false, false, false, false, false, false, false, false, false, false, false, false, false, false, false, false, false, false, false, false, false, false, false, false, false, false, false, false, false, false, false, false, false, false, false, false, false, false, false, false, false, true, true, true, true, true, true, true, true, true, true, true, true, true, true, true, true, true, true, true, true, true, true, true, true, true, true, true, true, true, true, true, true, true, true] (fun m s2 => ∃ (j : Nat) (e2 : Array RP), m = j0 - j ∧ I < j ∧ j ≤ j0 ∧ tv s2.e 12 = .v (.int .i64 j) ∧ s2.l = [] ∧ s2.h = H.set b (.cells g true (fl e2)) ∧ e2.size = d.size ∧ shiftUp lt j0 j e2 = shiftUp lt j0 (I + 1) d3)
                    (fun x s2 => x = .exit 6 ∧ s2.l = [] ∧ s2.h = H.set b (.cells g true (fl (shiftUp lt j0 (I + 1) d3)))) (j0 - (I + 1)) ⟨I + 1, d3, rfl, Nat.lt_succ_self _, by omega, rfl, rfl, rfl, hs3, rfl⟩ ?_ ?_
                  · intro m2 ⟨e3, l3, H3⟩ hW2 ⟨j, e2, hm2, hj, hj2, q9, q2, q3, hsz2, hsc⟩
                    dsimp only at hW2 q9 q2 q3
                    subst l3 H3
                    rw [hW2.spread]
                    simp only [spread_t, spread_f, spread_n, Nat.zero_add, Nat.reduceAdd, q9]
                    clear hW2
                    have hsc' := Hid.mk hsc
                    clear hsc
                    by_cases hj0 : j < j0
                    · have hj0' : (j : Int) < (j0 : Int) := by omega
                      have e1 : (j : Int) - 1 = ((j - 1 : Nat) : Int) := by omega
                      have g1 : 0 ≤ (j : Int) ∧ (j : Int) < (n : Int) := by omega
                      have g2 : 0 ≤ ((j - 1 : Nat) : Int) ∧ ((j - 1 : Nat) : Int) < (n : Int) := by omega
                      have g3 : j < e2.size := by omega
                      have g4 : j - 1 < e2.size := by omega
                      by_cases hp : hc.c e2[j]! e2[j - 1]! < 0
                      · (repeat' (first | (simp -implicitDefEqProofs (maxSteps := 1000000) (disch := first | assumption | omega | (simp only [KE, JO, JP, KF]; omega)) only [*, lenV, fl_len, fl_at, fl_set, fl_set2, swp_eq, hc.run, eq_self, Array.size_setIfInBounds, pr_eta, ty3, ty4, ty22, ty24, ty25, slot53, plan53_5, plan53_11, plan53_16, plan53_17, plan53_22, plan53_23, Za, Zb, Zc, Zd, Ze, Zf, Zg, Zh, Zi, Zj, and_true, true_and, Ja, Jb, Jc, cond_true, cond_false, Jd, Je, Jf, Jg, Jh, Ji, Jj, St.put, Jk, Jl, Jm, Jn, Jo, Jp, Jq, Jr, Js, Jt, decide_true, decide_false, Nat.reduceEqDiff, Ju, Jv, Jw, Jx, Jy, rd, TI.kind, Nat.reduceLT, Nat.reduceAdd, and_self, Jz, J0, J1, J2, J3, J4, beq_self_eq_true, J5, J6, J7, J8, J9, JA, JB, Op.operands, JC, JD, JE, JF, JG, JH, JI, JJ, JK, JL, Nat.reduceBEq, JM, JN, JO, JP, JQ, JR, JS, JT, JU, JV, JW, wr, JX, JY, Nat.reduceSub, Nat.reduceMul, JZ, Ka, Kb, Kc, Kd, Ke, Kf, Kg, Kh, Ki, Kj, Kk, Kl, Km, Kn, Ko, Kp, Kq, Kr, Ks, Kt, Ku, Kv, Kw, Kx, Ky, Kz, K0, K1, K2, K3, K4, K5, K6, K7, K8, K9, KA, KC, KD, reduceCtorEq, Int.reduceLT, Int.reduceLE, Int.reduceAdd, Int.reduceSub, Int.reduceNeg, Int.reduceToNat, Int.reduceEq, KE, KF, Nat.reduceLeDiff, KG, KH, KI, or_true, true_or, or_false, false_or]) | ((with_reducible (first | refine Ok.br ?_ ?_ | refine Ok.gd ?_ ?_ | refine Ok.ld ?_ ?_)) <;> (intro g; (try simp only [Zz] at g); (first | (exfalso; omega) | skip)))))
                        refine Turn.next (j0 - (j + 1)) (by omega) ⟨rfl, j + 1, swp e2 j (j - 1), rfl, by omega, by omega, rfl, rfl, rfl, by rw [swp_size]; exact hsz2, ?_⟩
                        rw [← hsc'.out]
                        conv => rhs; rw [shiftUp, if_pos hj0, hng'.out, decide_eq_true hp, if_neg (by simp)]
                      · (repeat' (first | (simp -implicitDefEqProofs (maxSteps := 1000000) (disch := first | assumption | omega | (simp only [KE, JO, JP, KF]; omega)) only [*, lenV, fl_len, fl_at, fl_set, fl_set2, swp_eq, hc.run, eq_self, Array.size_setIfInBounds, pr_eta, ty3, ty4, ty22, ty24, ty25, slot53, plan53_5, plan53_11, plan53_16, plan53_17, plan53_22, plan53_23, Za, Zb, Zc, Zd, Ze, Zf, Zg, Zh, Zi, Zj, and_true, true_and, Ja, Jb, Jc, cond_true, cond_false, Jd, Je, Jf, Jg, Jh, Ji, Jj, St.put, Jk, Jl, Jm, Jn, Jo, Jp, Jq, Jr, Js, Jt, decide_true, decide_false, Nat.reduceEqDiff, Ju, Jv, Jw, Jx, Jy, rd, TI.kind, Nat.reduceLT, Nat.reduceAdd, and_self, Jz, J0, J1, J2, J3, J4, beq_self_eq_true, J5, J6, J7, J8, J9, JA, JB, Op.operands, JC, JD, JE, JF, JG, JH, JI, JJ, JK, JL, Nat.reduceBEq, JM, JN, JO, JP, JQ, JR, JS, JT, JU, JV, JW, wr, JX, JY, Nat.reduceSub, Nat.reduceMul, JZ, Ka, Kb, Kc, Kd, Ke, Kf, Kg, Kh, Ki, Kj, Kk, Kl, Km, Kn, Ko, Kp, Kq, Kr, Ks, Kt, Ku, Kv, Kw, Kx, Ky, Kz, K0, K1, K2, K3, K4, K5, K6, K7, K8, K9, KA, KC, KD, reduceCtorEq, Int.reduceLT, Int.reduceLE, Int.reduceAdd, Int.reduceSub, Int.reduceNeg, Int.reduceToNat, Int.reduceEq, KE, KF, Nat.reduceLeDiff, KG, KH, KI, or_true, true_or, or_false, false_or]) | ((with_reducible (first | refine Ok.br ?_ ?_ | refine Ok.gd ?_ ?_ | refine Ok.ld ?_ ?_)) <;> (intro g; (try simp only [Zz] at g); (first | (exfalso; omega) | skip)))))
                        exact Turn.exit ⟨rfl, rfl, rfl, by rw [← hsc'.out, shiftUp, if_pos hj0, hng'.out, decide_eq_false hp, if_pos (by simp)]⟩
                    · have hj0' : ¬ (j : Int) < (j0 : Int) := by omega
                      (repeat' (first | (simp -implicitDefEqProofs (maxSteps := 1000000) (disch := first | assumption | omega | (simp only [KE, JO, JP, KF]; omega)) only [*, lenV, fl_len, fl_at, fl_set, fl_set2, swp_eq, hc.run, eq_self, Array.size_setIfInBounds, pr_eta, ty3, ty4, ty22, ty24, ty25, slot53, plan53_5, plan53_11, plan53_16, plan53_17, plan53_22, plan53_23, Za, Zb, Zc, Zd, Ze, Zf, Zg, Zh, Zi, Zj, and_true, true_and, Ja, Jb, Jc, cond_true, cond_false, Jd, Je, Jf, Jg, Jh, Ji, Jj, St.put, Jk, Jl, Jm, Jn, Jo, Jp, Jq, Jr, Js, Jt, decide_true, decide_false, Nat.reduceEqDiff, Ju, Jv, Jw, Jx, Jy, rd, TI.kind, Nat.reduceLT, Nat.reduceAdd, and_self, Jz, J0, J1, J2, J3, J4, beq_self_eq_true, J5, J6, J7, J8, J9, JA, JB, Op.operands, JC, JD, JE, JF, JG, JH, JI, JJ, JK, JL, Nat.reduceBEq, JM, JN, JO, JP, JQ, JR, JS, JT, JU, JV, JW, wr, JX, JY, Nat.reduceSub, Nat.reduceMul, JZ, Ka, Kb, Kc, Kd, Ke, Kf, Kg, Kh, Ki, Kj, Kk, Kl, Km, Kn, Ko, Kp, Kq, Kr, Ks, Kt, Ku, Kv, Kw, Kx, Ky, Kz, K0, K1, K2, K3, K4, K5, K6, K7, K8, K9, KA, KC, KD, reduceCtorEq, Int.reduceLT, Int.reduceLE, Int.reduceAdd, Int.reduceSub, Int.reduceNeg, Int.reduceToNat, Int.reduceEq, KE, KF, Nat.reduceLeDiff, KG, KH, KI, or_true, true_or, or_false, false_or]) | ((with_reducible (first | refine Ok.br ?_ ?_ | refine Ok.gd ?_ ?_ | refine Ok.ld ?_ ?_)) <;> (intro g; (try simp only [Zz] at g); (first | (exfalso; omega) | skip)))))
                      exact Turn.exit ⟨rfl, rfl, rfl, by rw [← hsc'.out, shiftUp, if_neg hj0]⟩
                  · intro x ⟨e3, l3, H3⟩ hW2 ⟨hx, q2, q3⟩
                    dsimp only at hW2 q2 q3
                    subst l3 hx H3
                    rw [hW2.spread]
                    simp only [spread_t, spread_f, spread_n, Nat.zero_add, Nat.reduceAdd]
                    clear hW2
                    have hs4 : (shiftUp lt j0 (I + 1) d3).size = d.size := by rw [shiftUp_size lt _ _ _ _ (Nat.le_refl _)]; exact hs3
                    generalize shiftUp lt j0 (I + 1) d3 = d4 at hs4 hre'
                    (repeat' (first | (simp -implicitDefEqProofs (maxSteps := 1000000) (disch := first | assumption | omega | (simp only [KE, JO, JP, KF]; omega)) only [*, lenV, fl_len, fl_at, fl_set, fl_set2, swp_eq, hc.run, eq_self, Array.size_setIfInBounds, pr_eta, ty3, ty4, ty22, ty24, ty25, slot53, plan53_5, plan53_11, plan53_16, plan53_17, plan53_22, plan53_23, Za, Zb, Zc, Zd, Ze, Zf, Zg, Zh, Zi, Zj, and_true, true_and, Ja, Jb, Jc, cond_true, cond_false, Jd, Je, Jf, Jg, Jh, Ji, Jj, St.put, Jk, Jl, Jm, Jn, Jo, Jp, Jq, Jr, Js, Jt, decide_true, decide_false, Nat.reduceEqDiff, Ju, Jv, Jw, Jx, Jy, rd, TI.kind, Nat.reduceLT, Nat.reduceAdd, and_self, Jz, J0, J1, J2, J3, J4, beq_self_eq_true, J5, J6, J7, J8, J9, JA, JB, Op.operands, JC, JD, JE, JF, JG, JH, JI, JJ, JK, JL, Nat.reduceBEq, JM, JN, JO, JP, JQ, JR, JS, JT, JU, JV, JW, wr, JX, JY, Nat.reduceSub, Nat.reduceMul, JZ, Ka, Kb, Kc, Kd, Ke, Kf, Kg, Kh, Ki, Kj, Kk, Kl, Km, Kn, Ko, Kp, Kq, Kr, Ks, Kt, Ku, Kv, Kw, Kx, Ky, Kz, K0, K1, K2, K3, K4, K5, K6, K7, K8, K9, KA, KC, KD, reduceCtorEq, Int.reduceLT, Int.reduceLE, Int.reduceAdd, Int.reduceSub, Int.reduceNeg, Int.reduceToNat, Int.reduceEq, KE, KF, Nat.reduceLeDiff, KG, KH, KI, or_true, true_or, or_false, false_or]) | ((with_reducible (first | refine Ok.br ?_ ?_ | refine Ok.gd ?_ ?_ | refine Ok.ld ?_ ?_)) <;> (intro g; (try simp only [Zz] at g); (first | (exfalso; omega) | skip)))))
                    exact Turn.next s (by omega) ⟨rfl, k + 1, I, d4, by omega, by omega, by omega, by omega, rfl, rfl, rfl, rfl, hs4, by rw [show 5 - (k + 1) = s by omega]; exact hre'.out⟩
                · have hu' : ¬ 2 ≤ (j0 : Int) - (I : Int) := by omega
                  (repeat' (first | (simp -implicitDefEqProofs (maxSteps := 1000000) (disch := first | assumption | omega | (simp only [KE, JO, JP, KF]; omega)) only [*, lenV, fl_len, fl_at, fl_set, fl_set2, swp_eq, hc.run, eq_self, Array.size_setIfInBounds, pr_eta, ty3, ty4, ty22, ty24, ty25, slot53, plan53_5, plan53_11, plan53_16, plan53_17, plan53_22, plan53_23, Za, Zb, Zc, Zd, Ze, Zf, Zg, Zh, Zi, Zj, and_true, true_and, Ja, Jb, Jc, cond_true, cond_false, Jd, Je, Jf, Jg, Jh, Ji, Jj, St.put, Jk, Jl, Jm, Jn, Jo, Jp, Jq, Jr, Js, Jt, decide_true, decide_false, Nat.reduceEqDiff, Ju, Jv, Jw, Jx, Jy, rd, TI.kind, Nat.reduceLT, Nat.reduceAdd, and_self, Jz, J0, J1, J2, J3, J4, beq_self_eq_true, J5, J6, J7, J8, J9, JA, JB, Op.operands, JC, JD, JE, JF, JG, JH, JI, JJ, JK, JL, Nat.reduceBEq, JM, JN, JO, JP, JQ, JR, JS, JT, JU, JV, JW, wr, JX, JY, Nat.reduceSub, Nat.reduceMul, JZ, Ka, Kb, Kc, Kd, Ke, Kf, Kg, Kh, Ki, Kj, Kk, Kl, Km, Kn, Ko, Kp, Kq, Kr, Ks, Kt, Ku, Kv, Kw, Kx, Ky, Kz, K0, K1, K2, K3, K4, K5, K6, K7, K8, K9, KA, KC, KD, reduceCtorEq, Int.reduceLT, Int.reduceLE, Int.reduceAdd, Int.reduceSub, Int.reduceNeg, Int.reduceToNat, Int.reduceEq, KE, KF, Nat.reduceLeDiff, KG, KH, KI, or_true, true_or, or_false, false_or]) | ((with_reducible (first | refine Ok.br ?_ ?_ | refine Ok.gd ?_ ?_ | refine Ok.ld ?_ ?_)) <;> (intro g; (try simp only [Zz] at g); (first | (exfalso; omega) | skip)))))
                  have hfu : fixUp lt j0 I d3 = d3 := if_neg hu
                  rw [hfu] at hre'
                  exact Turn.next s (by omega) ⟨rfl, k + 1, I, d3, by omega, by omega, by omega, by omega, rfl, rfl, rfl, rfl, hs3, by rw [show 5 - (k + 1) = s by omega]; exact hre'.out⟩
            · have hd' : ¬ 2 ≤ (I : Int) - (i0 : Int) := by omega
              have hfd : fixDown lt i0 I (swp e I (I - 1)) = swp e I (I - 1) := if_neg hd
              rw [hfd] at hre'
              have hs3' : (swp e I (I - 1)).size = d.size := by rw [swp_size]; exact hsz
              generalize hd3 : swp e I (I - 1) = d3 at hre' hs3'
              have hs3 := Hid.mk hs3'
              have hd3' := Hid.mk hd3
              clear hd3 hs3'
              by_cases hu : 2 ≤ j0 - I
              · have hu' : 2 ≤ (j0 : Int) - (I : Int) := by omega
                (repeat' (first | (simp -implicitDefEqProofs (maxSteps := 1000000) (disch := first | assumption | omega | (simp only [KE, JO, JP, KF]; omega)) only [*, lenV, fl_len, fl_at, fl_set, fl_set2, swp_eq, hc.run, eq_self, Array.size_setIfInBounds, pr_eta, ty3, ty4, ty22, ty24, ty25, slot53, plan53_5, plan53_11, plan53_16, plan53_17, plan53_22, plan53_23, Za, Zb, Zc, Zd, Ze, Zf, Zg, Zh, Zi, Zj, and_true, true_and, Ja, Jb, Jc, cond_true, cond_false, Jd, Je, Jf, Jg, Jh, Ji, Jj, St.put, Jk, Jl, Jm, Jn, Jo, Jp, Jq, Jr, Js, Jt, decide_true, decide_false, Nat.reduceEqDiff, Ju, Jv, Jw, Jx, Jy, rd, TI.kind, Nat.reduceLT, Nat.reduceAdd, and_self, Jz, J0, J1, J2, J3, J4, beq_self_eq_true, J5, J6, J7, J8, J9, JA, JB, Op.operands, JC, JD, JE, JF, JG, JH, JI, JJ, JK, JL, Nat.reduceBEq, JM, JN, JO, JP, JQ, JR, JS, JT, JU, JV, JW, wr, JX, JY, Nat.reduceSub, Nat.reduceMul, JZ, Ka, Kb, Kc, Kd, Ke, Kf, Kg, Kh, Ki, Kj, Kk, Kl, Km, Kn, Ko, Kp, Kq, Kr, Ks, Kt, Ku, Kv, Kw, Kx, Ky, Kz, K0, K1, K2, K3, K4, K5, K6, K7, K8, K9, KA, KC, KD, reduceCtorEq, Int.reduceLT, Int.reduceLE, Int.reduceAdd, Int.reduceSub, Int.reduceNeg, Int.reduceToNat, Int.reduceEq, KE, KF, Nat.reduceLeDiff, KG, KH, KI, or_true, true_or, or_false, false_or]) | ((with_reducible (first | refine Ok.br ?_ ?_ | refine Ok.gd ?_ ?_ | refine Ok.ld ?_ ?_)) <;> (intro g; (try simp only [Zz] at g); (first | (exfalso; omega) | skip)))))
                rw [hd3'.out]
                have hfu : fixUp lt j0 I d3 = shiftUp lt j0 (I + 1) d3 := if_pos hu
                rw [hfu] at hre'
                refine Ok.loop [false, false, false, false, false, false, false, false, false, false, false, false, true, false, false, false, false, false, false, false, false, false, false, false, false, false, false, false, false, false, false, false, false, false, false, false, false, false, false, false, false, false, false, false, false, false, false, false, false, false, false, false, false, false, false, false, false, false, false, false, false, false, false, false, false, false, false, false, false, false, false, false, false, false, false, false, false, false, false, false, false, false, false, false, false, false, false, false, false, false, false, false, false, false, false, false, false, false, false, false, false, false, false, false, false, false, false, true, true, true, true, true, true, true, true, true, true, true, true, true, true, true, true, true, true, true, true, true, true, true, true, true, true, true, true, true, true, true, true, true, true] (fun m s2 => ∃ (j : Nat) (e2 : Array RP), m = j0 - j ∧ I < j ∧ j ≤ j0 ∧ tv s2.e 12 = .v (.int .i64 j) ∧ s2.l = [] ∧ s2.h = H.set b (.cells g true (fl e2)) ∧ e2.size = d.size ∧ shiftUp lt j0 j e2 = shiftUp lt j0 (I + 1) d3)
                  (fun x s2 => x = .exit 6 ∧ s2.l = [] ∧ s2.h = H.set b (.cells g true (fl (shiftUp lt j0 (I + 1) d3)))) (j0 - (I + 1)) ⟨I + 1, d3, rfl, Nat.lt_succ_self _, by omega, rfl, rfl, rfl, hs3.out, rfl⟩ ?_ ?_
                · intro m2 ⟨e3, l3, H3⟩ hW2 ⟨j, e2, hm2, hj, hj2, q9, q2, q3, hsz2, hsc⟩
                  dsimp only at hW2 q9 q2 q3
                  subst l3 H3
                  rw [hW2.spread]
                  simp only [spread_t, spread_f, spread_n, Nat.zero_add, Nat.reduceAdd, q9]
                  clear hW2
                  have hsc' := Hid.mk hsc
                  clear hsc
                  by_cases hj0 : j < j0
                  · have hj0' : (j : Int) < (j0 : Int) := by omega
                    have e1 : (j : Int) - 1 = ((j - 1 : Nat) : Int) := by omega
                    have g1 : 0 ≤ (j : Int) ∧ (j : Int) < (n : Int) := by omega
                    have g2 : 0 ≤ ((j - 1 : Nat) : Int) ∧ ((j - 1 : Nat) : Int) < (n : Int) := by omega
                    have g3 : j < e2.size := by omega
                    have g4 : j - 1 < e2.size := by omega
                    by_cases hp : hc.c e2[j]! e2[j - 1]! < 0
                    · (repeat' (first | (simp -implicitDefEqProofs (maxSteps := 1000000) (disch := first | assumption | omega | (simp only [KE, JO, JP, KF]; omega)) only [*, lenV, fl_len, fl_at, fl_set, fl_set2, swp_eq, hc.run, eq_self, Array.size_setIfInBounds, pr_eta, ty3, ty4, ty22, ty24, ty25, slot53, plan53_5, plan53_11, plan53_16, plan53_17, plan53_22, plan53_23, Za, Zb, Zc, Zd, Ze, Zf, Zg, Zh, Zi, Zj, and_true, true_and, Ja, Jb, Jc, cond_true, cond_false, Jd, Je, Jf, Jg, Jh, Ji, Jj, St.put, Jk, Jl, Jm, Jn, Jo, Jp, Jq, Jr, Js, Jt, decide_true, decide_false, Nat.reduceEqDiff, Ju, Jv, Jw, Jx, Jy, rd, TI.kind, Nat.reduceLT, Nat.reduceAdd, and_self, Jz, J0, J1, J2, J3, J4, beq_self_eq_true, J5, J6, J7, J8, J9, JA, JB, Op.operands, JC, JD, JE, JF, JG, JH, JI, JJ, JK, JL, Nat.reduceBEq, JM, JN, JO, JP, JQ, JR, JS, JT, JU, JV, JW, wr, JX, JY, Nat.reduceSub, Nat.reduceMul, JZ, Ka, Kb, Kc, Kd, Ke, Kf, Kg, Kh, Ki, Kj, Kk, Kl, Km, Kn, Ko, Kp, Kq, Kr, Ks, Kt, Ku, Kv, Kw, Kx, Ky, Kz, K0, K1, K2, K3, K4, K5, K6, K7, K8, K9, KA, KC, KD, reduceCtorEq, Int.reduceLT, Int.reduceLE, Int.reduceAdd, Int.reduceSub, Int.reduceNeg, Int.reduceToNat, Int.reduceEq, KE, KF, Nat.reduceLeDiff, KG, KH, KI, or_true, true_or, or_false, false_or]) | ((with_reducible (first | refine Ok.br ?_ ?_ | refine Ok.gd ?_ ?_ | refine Ok.ld ?_ ?_)) <;> (intro g; (try simp only [Zz] at g); (first | (exfalso; omega) | skip)))))
                      refine Turn.next (j0 - (j + 1)) (by omega) ⟨rfl, j + 1, swp e2 j (j - 1), rfl, by omega, by omega, rfl, rfl, rfl, by rw [swp_size]; exact hsz2, ?_⟩
                      rw [← hsc'.out]
                      conv => rhs; rw [shiftUp, if_pos hj0, hng'.out, decide_eq_true hp, if_neg (by simp)]
                    · (repeat' (first | (simp -implicitDefEqProofs (maxSteps := 1000000) (disch := first | assumption | omega | (simp only [KE, JO, JP, KF]; omega)) only [*, lenV, fl_len, fl_at, fl_set, fl_set2, swp_eq, hc.run, eq_self, Array.size_setIfInBounds, pr_eta, ty3, ty4, ty22, ty24, ty25, slot53, plan53_5, plan53_11, plan53_16, plan53_17, plan53_22, plan53_23, Za, Zb, Zc, Zd, Ze, Zf, Zg, Zh, Zi, Zj, and_true, true_and, Ja, Jb, Jc, cond_true, cond_false, Jd, Je, Jf, Jg, Jh, Ji, Jj, St.put, Jk, Jl, Jm, Jn, Jo, Jp, Jq, Jr, Js, Jt, decide_true, decide_false, Nat.reduceEqDiff, Ju, Jv, Jw, Jx, Jy, rd, TI.kind, Nat.reduceLT, Nat.reduceAdd, and_self, Jz, J0, J1, J2, J3, J4, beq_self_eq_true, J5, J6, J7, J8, J9, JA, JB, Op.operands, JC, JD, JE, JF, JG, JH, JI, JJ, JK, JL, Nat.reduceBEq, JM, JN, JO, JP, JQ, JR, JS, JT, JU, JV, JW, wr, JX, JY, Nat.reduceSub, Nat.reduceMul, JZ, Ka, Kb, Kc, Kd, Ke, Kf, Kg, Kh, Ki, Kj, Kk, Kl, Km, Kn, Ko, Kp, Kq, Kr, Ks, Kt, Ku, Kv, Kw, Kx, Ky, Kz, K0, K1, K2, K3, K4, K5, K6, K7, K8, K9, KA, KC, KD, reduceCtorEq, Int.reduceLT, Int.reduceLE, Int.reduceAdd, Int.reduceSub, Int.reduceNeg, Int.reduceToNat, Int.reduceEq, KE, KF, Nat.reduceLeDiff, KG, KH, KI, or_true, true_or, or_false, false_or]) | ((with_reducible (first | refine Ok.br ?_ ?_ | refine Ok.gd ?_ ?_ | refine Ok.ld ?_ ?_)) <;> (intro g; (try simp only [Zz] at g); (first | (exfalso; omega) | skip)))))
                      exact Turn.exit ⟨rfl, rfl, rfl, by rw [← hsc'.out, shiftUp, if_pos hj0, hng'.out, decide_eq_false hp, if_pos (by simp)]⟩
                  · have hj0' : ¬ (j : Int) < (j0 : Int) := by omega
                    (repeat' (first | (simp -implicitDefEqProofs (maxSteps := 1000000) (disch := first | assumption | omega | (simp only [KE, JO, JP, KF]; omega)) only [*, lenV, fl_len, fl_at, fl_set, fl_set2, swp_eq, hc.run, eq_self, Array.size_setIfInBounds, pr_eta, ty3, ty4, ty22, ty24, ty25, slot53, plan53_5, plan53_11, plan53_16, plan53_17, plan53_22, plan53_23, Za, Zb, Zc, Zd, Ze, Zf, Zg, Zh, Zi, Zj, and_true, true_and, Ja, Jb, Jc, cond_true, cond_false, Jd, Je, Jf, Jg, Jh, Ji, Jj, St.put, Jk, Jl, Jm, Jn, Jo, Jp, Jq, Jr, Js, Jt, decide_true, decide_false, Nat.reduceEqDiff, Ju, Jv, Jw, Jx, Jy, rd, TI.kind, Nat.reduceLT, Nat.reduceAdd, and_self, Jz, J0, J1, J2, J3, J4, beq_self_eq_true, J5, J6, J7, J8, J9, JA, JB, Op.operands, JC, JD, JE, JF, JG, JH, JI, JJ, JK, JL, Nat.reduceBEq, JM, JN, JO, JP, JQ, JR, JS, JT, JU, JV, JW, wr, JX, JY, Nat.reduceSub, Nat.reduceMul, JZ, Ka, Kb, Kc, Kd, Ke, Kf, Kg, Kh, Ki, Kj, Kk, Kl, Km, Kn, Ko, Kp, Kq, Kr, Ks, Kt, Ku, Kv, Kw, Kx, Ky, Kz, K0, K1, K2, K3, K4, K5, K6, K7, K8, K9, KA, KC, KD, reduceCtorEq, Int.reduceLT, Int.reduceLE, Int.reduceAdd, Int.reduceSub, Int.reduceNeg, Int.reduceToNat, Int.reduceEq, KE, KF, Nat.reduceLeDiff, KG, KH, KI, or_true, true_or, or_false, false_or]) | ((with_reducible (first | refine Ok.br ?_ ?_ | refine Ok.gd ?_ ?_ | refine Ok.ld ?_ ?_)) <;> (intro g; (try simp only [Zz] at g); (first | (exfalso; omega) | skip)))))
                    exact Turn.exit ⟨rfl, rfl, rfl, by rw [← hsc'.out, shiftUp, if_neg hj0]⟩
                · intro x ⟨e3, l3, H3⟩ hW2 ⟨hx, q2, q3⟩
                  dsimp only at hW2 q2 q3
                  subst l3 hx H3
                  rw [hW2.spread]
                  simp only [spread_t, spread_f, spread_n, Nat.zero_add, Nat.reduceAdd]
                  clear hW2
                  have hs4 : (shiftUp lt j0 (I + 1) d3).size = d.size := by rw [shiftUp_size lt _ _ _ _ (Nat.le_refl _)]; exact hs3.out
                  generalize shiftUp lt j0 (I + 1) d3 = d4 at hs4 hre'
                  (repeat' (first | (simp -implicitDefEqProofs (maxSteps := 1000000) (disch := first | assumption | omega | (simp only [KE, JO, JP, KF]; omega)) only [*, lenV, fl_len, fl_at, fl_set, fl_set2, swp_eq, hc.run, eq_self, Array.size_setIfInBounds, pr_eta, ty3, ty4, ty22, ty24, ty25, slot53, plan53_5, plan53_11, plan53_16, plan53_17, plan53_22, plan53_23, Za, Zb, Zc, Zd, Ze, Zf, Zg, Zh, Zi, Zj, and_true, true_and, Ja, Jb, Jc, cond_true, cond_false, Jd, Je, Jf, Jg, Jh, Ji, Jj, St.put, Jk, Jl, Jm, Jn, Jo, Jp, Jq, Jr, Js, Jt, decide_true, decide_false, Nat.reduceEqDiff, Ju, Jv, Jw, Jx, Jy, rd, TI.kind, Nat.reduceLT, Nat.reduceAdd, and_self, Jz, J0, J1, J2, J3, J4, beq_self_eq_true, J5, J6, J7, J8, J9, JA, JB, Op.operands, JC, JD, JE, JF, JG, JH, JI, JJ, JK, JL, Nat.reduceBEq, JM, JN, JO, JP, JQ, JR, JS, JT, JU, JV, JW, wr, JX, JY, Nat.reduceSub, Nat.reduceMul, JZ, Ka, Kb, Kc, Kd, Ke, Kf, Kg, Kh, Ki, Kj, Kk, Kl, Km, Kn, Ko, Kp, Kq, Kr, Ks, Kt, Ku, Kv, Kw, Kx, Ky, Kz, K0, K1, K2, K3, K4, K5, K6, K7, K8, K9, KA, KC, KD, reduceCtorEq, Int.reduceLT, Int.reduceLE, Int.reduceAdd, Int.reduceSub, Int.reduceNeg, Int.reduceToNat, Int.reduceEq, KE, KF, Nat.reduceLeDiff, KG, KH, KI, or_true, true_or, or_false, false_or]) | ((with_reducible (first | refine Ok.br ?_ ?_ | refine Ok.gd ?_ ?_ | refine Ok.ld ?_ ?_)) <;> (intro g; (try simp only [Zz] at g); (first | (exfalso; omega) | skip)))))
                  exact Turn.next s (by omega) ⟨rfl, k + 1, I, d4, by omega, by omega, by omega, by omega, rfl, rfl, rfl, rfl, hs4, by rw [show 5 - (k + 1) = s by omega]; exact hre'.out⟩
              · omega
    · have hk5' : ¬ (k : Int) < 5 := by omega
      (repeat' (first | (simp -implicitDefEqProofs (maxSteps := 1000000) (disch := first | assumption | omega | (simp only [KE, JO, JP, KF]; omega)) only [*, lenV, ty3, ty4, ty22, ty24, ty25, slot53, plan53_5, plan53_11, plan53_16, plan53_17, plan53_22, plan53_23, Za, Zb, Zc, Zd, Ze, Zf, Zg, Zh, Zi, Zj, and_true, true_and, Ja, Jb, Jc, cond_true, cond_false, Jd, Je, Jf, Jg, Jh, Ji, Jj, St.put, Jk, Jl, Jm, Jn, Jo, Jp, Jq, Jr, Js, Jt, decide_true, decide_false, Nat.reduceEqDiff, Ju, Jv, Jw, Jx, Jy, rd, TI.kind, Nat.reduceLT, Nat.reduceAdd, and_self, Jz, J0, J1, J2, J3, J4, beq_self_eq_true, J5, J6, J7, J8, J9, JA, JB, Op.operands, JC, JD, JE, JF, JG, JH, JI, JJ, JK, JL, Nat.reduceBEq, JM, JN, JO, JP, JQ, JR, JS, JT, JU, JV, JW, wr, JX, JY, Nat.reduceSub, Nat.reduceMul, JZ, Ka, Kb, Kc, Kd, Ke, Kf, Kg, Kh, Ki, Kj, Kk, Kl, Km, Kn, Ko, Kp, Kq, Kr, Ks, Kt, Ku, Kv, Kw, Kx, Ky, Kz, K0, K1, K2, K3, K4, K5, K6, K7, K8, K9, KA, KC, KD, reduceCtorEq, Int.reduceLT, Int.reduceLE, Int.reduceAdd, Int.reduceSub, Int.reduceNeg, Int.reduceToNat, Int.reduceEq, KE, KF, Nat.reduceLeDiff, KG, KH, KI, or_true, true_or, or_false, false_or]) | ((with_reducible (first | refine Ok.br ?_ ?_ | refine Ok.gd ?_ ?_ | refine Ok.ld ?_ ?_)) <;> (intro g; (try simp only [Zz] at g); (first | (exfalso; omega) | skip)))))
      have hr := hre'.out
      rw [show 5 - k = 0 by omega] at hr
      subst hr
      exact Turn.exit ⟨rfl, rfl, rfl, .inl ⟨rfl, rfl⟩⟩
  · intro x ⟨e', l', H'⟩ hW ⟨k2, k3, hx⟩
    dsimp only at hW k2 k3 hx
    subst l' H'
    rw [hW.spread]
    clear hW
    rcases hx with ⟨rfl, hx⟩ | ⟨rfl, hx⟩
    · simp only [spread_t, spread_f, spread_n, Nat.zero_add, Nat.reduceAdd]
      (repeat' (first | (simp -implicitDefEqProofs (maxSteps := 1000000) (disch := first | assumption | omega | (simp only [KE, JO, JP, KF]; omega)) only [*, ty3, ty4, ty22, ty24, ty25, slot53, plan53_5, plan53_11, plan53_16, plan53_17, plan53_22, plan53_23, Za, Zb, Zc, Zd, Ze, Zf, Zg, Zh, Zi, Zj, and_true, true_and, Ja, Jb, Jc, cond_true, cond_false, Jd, Je, Jf, Jg, Jh, Ji, Jj, St.put, Jk, Jl, Jm, Jn, Jo, Jp, Jq, Jr, Js, Jt, decide_true, decide_false, Nat.reduceEqDiff, Ju, Jv, Jw, Jx, Jy, rd, TI.kind, Nat.reduceLT, Nat.reduceAdd, and_self, Jz, J0, J1, J2, J3, J4, beq_self_eq_true, J5, J6, J7, J8, J9, JA, JB, Op.operands, JC, JD, JE, JF, JG, JH, JI, JJ, JK, JL, Nat.reduceBEq, JM, JN, JO, JP, JQ, JR, JS, JT, JU, JV, JW, wr, JX, JY, Nat.reduceSub, Nat.reduceMul, JZ, Ka, Kb, Kc, Kd, Ke, Kf, Kg, Kh, Ki, Kj, Kk, Kl, Km, Kn, Ko, Kp, Kq, Kr, Ks, Kt, Ku, Kv, Kw, Kx, Ky, Kz, K0, K1, K2, K3, K4, K5, K6, K7, K8, K9, KA, KC, KD, reduceCtorEq, Int.reduceLT, Int.reduceLE, Int.reduceAdd, Int.reduceSub, Int.reduceNeg, Int.reduceToNat, Int.reduceEq, KE, KF, Nat.reduceLeDiff, KG, KH, KI, or_true, true_or, or_false, false_or]) | ((with_reducible (first | refine Ok.br ?_ ?_ | refine Ok.gd ?_ ?_ | refine Ok.ld ?_ ?_)) <;> (intro g; (try simp only [Zz] at g); (first | (exfalso; omega) | skip)))))
      exact hQ'.out _ (by rw [hx])
    · simp only [spread_t, spread_f, spread_n, Nat.zero_add, Nat.reduceAdd, hx]
      (repeat' (first | (simp -implicitDefEqProofs (maxSteps := 1000000) (disch := first | assumption | omega | (simp only [KE, JO, JP, KF]; omega)) only [*, ty3, ty4, ty22, ty24, ty25, slot53, plan53_5, plan53_11, plan53_16, plan53_17, plan53_22, plan53_23, Za, Zb, Zc, Zd, Ze, Zf, Zg, Zh, Zi, Zj, and_true, true_and, Ja, Jb, Jc, cond_true, cond_false, Jd, Je, Jf, Jg, Jh, Ji, Jj, St.put, Jk, Jl, Jm, Jn, Jo, Jp, Jq, Jr, Js, Jt, decide_true, decide_false, Nat.reduceEqDiff, Ju, Jv, Jw, Jx, Jy, rd, TI.kind, Nat.reduceLT, Nat.reduceAdd, and_self, Jz, J0, J1, J2, J3, J4, beq_self_eq_true, J5, J6, J7, J8, J9, JA, JB, Op.operands, JC, JD, JE, JF, JG, JH, JI, JJ, JK, JL, Nat.reduceBEq, JM, JN, JO, JP, JQ, JR, JS, JT, JU, JV, JW, wr, JX, JY, Nat.reduceSub, Nat.reduceMul, JZ, Ka, Kb, Kc, Kd, Ke, Kf, Kg, Kh, Ki, Kj, Kk, Kl, Km, Kn, Ko, Kp, Kq, Kr, Ks, Kt, Ku, Kv, Kw, Kx, Ky, Kz, K0, K1, K2, K3, K4, K5, K6, K7, K8, K9, KA, KC, KD, reduceCtorEq, Int.reduceLT, Int.reduceLE, Int.reduceAdd, Int.reduceSub, Int.reduceNeg, Int.reduceToNat, Int.reduceEq, KE, KF, Nat.reduceLeDiff, KG, KH, KI, or_true, true_or, or_false, false_or]) | ((with_reducible (first | refine Ok.br ?_ ?_ | refine Ok.gd ?_ ?_ | refine Ok.ld ?_ ?_)) <;> (intro g; (try simp only [Zz] at g); (first | (exfalso; omega) | skip)))))
      exact hQ'.out _ rfl
end Go.Ev
