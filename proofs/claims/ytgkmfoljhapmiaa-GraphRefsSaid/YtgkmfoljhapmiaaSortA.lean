/-
Sorting pairs of numbers: the row in memory; insertion sort.
-/
import Derived.Test.YtgkmfoljhapmiaaBun
import Derived.Test.YtgkmfoljhapmiaaWp2
import Derived.Test.YtgkmfoljhapmiaaFns
import Derived.Test.YtgkmfoljhapmiaaTys
import Derived.Sort.AssemblyPlain
set_option linter.unusedSimpArgs false
set_option linter.unusedVariables false
set_option maxRecDepth 100000
namespace Go.Ev
open Int renaming le_refl → Ja, toNat_natCast → Kz
open Go.Ev renaming wantedT → Jb, exPure → Jd, opd → Je, getT → Jf, constT → Jg, ofValue → Jh, cellsV → Ji, newVar → Jj, setT → Jk, posT → Jl, fieldAddrV → Ju, fieldOff → Jv, load → Jw, store → Jx, lcells → Jy, binOp → Jz, intOp → J0, leadsT → J5, again → J6, rdV → J7, vsame → J8, vsames → J9, makeSliceV → JF, buildV → JG, fillV → JH, splice → JI, results → JU, resV → JV, isCell → JW, nilCheckV → JY, allV → Ke, builtinV → Kf, lenV → Kg, indexAddrV → Kh, unOp → Ki, minmaxV → Kj, minmax → Kk, sliceV → Kl, bound → Km, asInt → Kn, idx → Ko, idxLe → Kp, appendV → Kq, copyV → Kr, clearV → Ks, convV → Kt, putBlk → Ku, sliceCells → Kv, newBlk → Kw, buildSliceV → Kx, shift → Ky
open Bool renaming not_not → Jc, not_true → J1, not_false → J2, true_beq → J3, false_beq → J4, and_true → JA, true_and → JB, or_false → K4, or_true → K5, true_or → K6, false_or → K7, and_false → K8, false_and → K9
open Option renaming bind_some → Jm, isSome_none → K0, isNone_none → K1, isSome_some → K2, isNone_some → K3
open List renaming getD_cons_zero → Jn, getD_cons_succ → Jo, set_cons_zero → Jp, set_cons_succ → Jq, getElem?_cons_zero → Jr, getElem?_cons_succ → Js, getElem?_nil → Jt, elem_cons → JC, elem_nil → JD, toList_toArray → JE, zip → JJ, map_cons → JK, map_nil → JL, all_cons → JM, all_nil → JN, length_cons → JO, length_nil → JP, take → JQ, drop → JR, cons_append → JS, nil_append → JT, set → JX, append_nil → Kd, append_assoc → KD, length_append → KE, length_set → KF, replicate_zero → KG, flatten_nil → KH, set_set → KI
open Nat renaming mul_one → JZ, zero_add → Ka, add_zero → Kb, le_refl → Kc, add_sub_cancel_left → KA, sub_self → KC
open Go.Proofs Go.Sort

abbrev RP := Int × Int
def elt (x : RP) : V := .agg [.int .i64 x.1, .int .i64 x.2]
/-- A row's cells. -/
def flL : List RP → List V
  | [] => []
  | x :: l => .int .i64 x.1 :: .int .i64 x.2 :: flL l
def fl (d : Array RP) : List V := flL d.toList

theorem flL_len : ∀ l : List RP, (flL l).length = l.length * 2
  | [] => rfl
  | x :: l => by simp only [flL, List.length_cons, flL_len l]; omega
theorem fl_len (d : Array RP) : (fl d).length = d.size * 2 := by unfold fl; rw [flL_len]; simp
theorem flL_at : ∀ (l : List RP) (i : Nat) (x : RP), l[i]? = some x → ((flL l).drop (i * 2)).take 2 = [.int .i64 x.1, .int .i64 x.2]
  | [], i, x, h => by simp at h
  | y :: l, 0, x, h => by simp at h; subst h; rfl
  | y :: l, i + 1, x, h => by
    have e : (i + 1) * 2 = i * 2 + 1 + 1 := by omega
    rw [e]
    simp only [flL, List.drop_succ_cons]
    exact flL_at l i x (by simpa using h)
theorem fl_at {d : Array RP} {i : Nat} (h : i < d.size) : ((fl d).drop (i * 2)).take 2 = [.int .i64 d[i]!.1, .int .i64 d[i]!.2] := by
  refine flL_at _ _ _ ?_
  rw [Array.getElem?_toList, getElem!_pos d i h]
  simp [h]
theorem flL_set : ∀ (l : List RP) (i : Nat) (a b : Int), i < l.length → (flL l).take (i * 2) ++ (.int .i64 a :: .int .i64 b :: (flL l).drop (i * 2 + 2)) = flL (l.set i (a, b))
  | [], i, a, b, h => by simp at h
  | y :: l, 0, a, b, h => rfl
  | y :: l, i + 1, a, b, h => by
    have e : (i + 1) * 2 = i * 2 + 1 + 1 := by omega
    have e2 : (i + 1) * 2 + 2 = (i * 2 + 2) + 1 + 1 := by omega
    rw [e2, e]
    simp only [flL, List.take_succ_cons, List.drop_succ_cons, List.cons_append, List.set_cons_succ]
    rw [flL_set l i a b (by simpa using h)]
theorem fl_set {d : Array RP} {i : Nat} (a b : Int) (h : i < d.size) : (fl d).take (i * 2) ++ (.int .i64 a :: .int .i64 b :: (fl d).drop (i * 2 + 2)) = fl (d.setIfInBounds i (a, b)) := by
  unfold fl
  rw [flL_set _ _ _ _ (by simpa using h), Array.toList_setIfInBounds]
theorem fl_set2 {d : Array RP} {i k : Nat} {y : RP} (a b : Int) (h : i < d.size) : (fl (d.setIfInBounds k y)).take (i * 2) ++ (.int .i64 a :: .int .i64 b :: (fl (d.setIfInBounds k y)).drop (i * 2 + 2)) = fl ((d.setIfInBounds k y).setIfInBounds i (a, b)) :=
  fl_set a b (by simpa using h)
theorem pr_eta (x : RP) : (x.1, x.2) = x := rfl
theorem swp_eq (d : Array RP) (i j : Nat) : (d.setIfInBounds i d[j]!).setIfInBounds j d[i]! = swp d i j := rfl
theorem swp_size (d : Array RP) (i j : Nat) : (swp d i j).size = d.size := by simp [swp]

/-- What holds a row: block b at generation g of a heap H. -/
def hs (H : Heap) (b g : Nat) (d : Array RP) : Heap := H.set b (.cells g true (fl d))

/-- A comparator of pairs. -/
structure Cmp (fv : V) (lt : RP → RP → Bool) where
  c : RP → RP → Int
  run : ∀ (x y : RP) (H : Heap), D X fv [.agg [.int .i64 x.1, .int .i64 x.2], .agg [.int .i64 y.1, .int .i64 y.2]] H = some (.int .i64 (c x y), H)
  neg : ∀ x y, lt x y = decide (c x y < 0)

variable {fv : V} {lt : RP → RP → Bool}

theorem insertion_at (hc : Cmp fv lt) {H : Heap} {b g n cap z : Nat} {d : Array RP} (hb : b < H.length) (hn : n ≤ d.size) (hl : d.size ≤ 1000000000) {i0 j0 : Nat} (h1 : i0 ≤ j0) (h2 : j0 ≤ n) :
    D X (.fn 48 []) [.sl (.at b g 0) n cap z, .int .i64 i0, .int .i64 j0, fv] (hs H b g d) = some (.tup [], hs H b g (insertionSort lt d i0 j0)) := by
  refine Ok.eq ?_
  refine Ok.aim fun Q hQ => ?_
  have hQ' := Hid.mk hQ
  clear hQ
  unfold hs at hQ' ⊢
  (refine Ok.body body48 pin48 ?_; simp only [c48, Try.f48, Option.getD_some, nslot48, List.append_nil, List.map, List.replicate, List.length_cons, List.length_nil, Nat.reduceAdd, Nat.reduceSub, List.cons_append, List.nil_append])
  (repeat' (first | (simp -implicitDefEqProofs (maxSteps := 1000000) (disch := first | assumption | omega | (simp only [KE, JO, JP, KF]; omega)) only [*, lenV, ty3, ty22, ty24, ty25, slot48, plan48_4, plan48_6, Za, Zb, Zc, Zd, Ze, Zf, Zg, Zh, Zi, Zj, and_true, true_and, Ja, Jb, Jc, cond_true, cond_false, Jd, Je, Jf, Jg, Jh, Ji, Jj, St.put, Jk, Jl, Jm, Jn, Jo, Jp, Jq, Jr, Js, Jt, decide_true, decide_false, Nat.reduceEqDiff, Ju, Jv, Jw, Jx, Jy, rd, TI.kind, Nat.reduceLT, Nat.reduceAdd, and_self, Jz, J0, J1, J2, J3, J4, beq_self_eq_true, J5, J6, J7, J8, J9, JA, JB, Op.operands, JC, JD, JE, JF, JG, JH, JI, JJ, JK, JL, Nat.reduceBEq, JM, JN, JO, JP, JQ, JR, JS, JT, JU, JV, JW, wr, JX, JY, Nat.reduceSub, Nat.reduceMul, JZ, Ka, Kb, Kc, Kd, Ke, Kf, Kg, Kh, Ki, Kj, Kk, Kl, Km, Kn, Ko, Kp, Kq, Kr, Ks, Kt, Ku, Kv, Kw, Kx, Ky, Kz, K0, K1, K2, K3, K4, K5, K6, K7, K8, K9, KA, KC, KD, reduceCtorEq, Int.reduceLT, Int.reduceLE, Int.reduceAdd, Int.reduceSub, Int.reduceNeg, Int.reduceToNat, Int.reduceEq, KE, KF, Nat.reduceLeDiff, KG, KH, KI, or_true, true_or, or_false, false_or]) | ((with_reducible (first | refine Ok.br ?_ ?_ | refine Ok.gd ?_ ?_ | refine Ok.ld ?_ ?_)) <;> (intro g; (try simp only [Zz] at g); (first | (exfalso; omega) | skip)))))
  refine Ok.loop [false, false, false, false, false, false, false, false, true, true, false, false, true, true, true, true, true, true, true, true, true, true, true, true, true, true, true, true, true, true, true, true, true, true, true, true, true, true, true, true, true, true, true, true, true, true, true, true, true, true, true, true, true] (fun m s2 => ∃ (i : Nat) (e : Array RP), m = j0 + 1 - i ∧ i0 < i ∧ tv s2.e 8 = .v (.int .i64 i) ∧ s2.l = [] ∧ s2.h = H.set b (.cells g true (fl e)) ∧ e.size = d.size ∧ insOuter lt i0 j0 i e = insertionSort lt d i0 j0)
    (fun x s2 => x = .exit 0 ∧ s2.l = [] ∧ s2.h = H.set b (.cells g true (fl (insertionSort lt d i0 j0)))) (j0 + 1 - (i0 + 1)) ⟨i0 + 1, d, rfl, by omega, rfl, rfl, rfl, rfl, rfl⟩ ?_ ?_
  · intro m ⟨e', l', H'⟩ hW ⟨i, e, hm, hi, h8, h2', h3, hsz, hre⟩
    dsimp only at hW h8 h2' h3
    subst l' H'
    rw [hW.spread]
    simp only [spread_t, spread_f, spread_n, Nat.zero_add, Nat.reduceAdd, h8]
    have hre' := Hid.mk hre
    have hsz' := Hid.mk hsz
    clear hre
    by_cases hlt : i < j0
    · have hlt' : (i : Int) < (j0 : Int) := by omega
      (repeat' (first | (simp -implicitDefEqProofs (maxSteps := 1000000) (disch := first | assumption | omega | (simp only [KE, JO, JP, KF]; omega)) only [*, lenV, ty3, ty22, ty24, ty25, slot48, plan48_4, plan48_6, Za, Zb, Zc, Zd, Ze, Zf, Zg, Zh, Zi, Zj, and_true, true_and, Ja, Jb, Jc, cond_true, cond_false, Jd, Je, Jf, Jg, Jh, Ji, Jj, St.put, Jk, Jl, Jm, Jn, Jo, Jp, Jq, Jr, Js, Jt, decide_true, decide_false, Nat.reduceEqDiff, Ju, Jv, Jw, Jx, Jy, rd, TI.kind, Nat.reduceLT, Nat.reduceAdd, and_self, Jz, J0, J1, J2, J3, J4, beq_self_eq_true, J5, J6, J7, J8, J9, JA, JB, Op.operands, JC, JD, JE, JF, JG, JH, JI, JJ, JK, JL, Nat.reduceBEq, JM, JN, JO, JP, JQ, JR, JS, JT, JU, JV, JW, wr, JX, JY, Nat.reduceSub, Nat.reduceMul, JZ, Ka, Kb, Kc, Kd, Ke, Kf, Kg, Kh, Ki, Kj, Kk, Kl, Km, Kn, Ko, Kp, Kq, Kr, Ks, Kt, Ku, Kv, Kw, Kx, Ky, Kz, K0, K1, K2, K3, K4, K5, K6, K7, K8, K9, KA, KC, KD, reduceCtorEq, Int.reduceLT, Int.reduceLE, Int.reduceAdd, Int.reduceSub, Int.reduceNeg, Int.reduceToNat, Int.reduceEq, KE, KF, Nat.reduceLeDiff, KG, KH, KI, or_true, true_or, or_false, false_or]) | ((with_reducible (first | refine Ok.br ?_ ?_ | refine Ok.gd ?_ ?_ | refine Ok.ld ?_ ?_)) <;> (intro g; (try simp only [Zz] at g); (first | (exfalso; omega) | skip)))))
      refine Ok.loop [false, false, false, false, false, false, false, false, false, true, false, false, false, false, false, false, false, false, true, true, true, true, true, true, true, true, true, true, true, true, true, true, true, true, true, true, true, true, true, true, true, true, true, true, true, true, true, true, true, true, true, true, true] (fun m s2 => ∃ (j : Nat) (e2 : Array RP), m = j ∧ i0 ≤ j ∧ j ≤ i ∧ tv s2.e 9 = .v (.int .i64 j) ∧ s2.l = [] ∧ s2.h = H.set b (.cells g true (fl e2)) ∧ e2.size = d.size ∧ insInner lt i0 j e2 = insInner lt i0 i e)
        (fun x s2 => x = .exit 2 ∧ s2.l = [] ∧ s2.h = H.set b (.cells g true (fl (insInner lt i0 i e))) ∧ (insInner lt i0 i e).size = d.size) i ⟨i, e, rfl, by omega, by omega, rfl, rfl, rfl, hsz, rfl⟩ ?_ ?_
      · intro m2 ⟨e3, l3, H3⟩ hW2 ⟨j, e2, hm2, hj1, hj2, h9, k2, k3, hsz2, hre2⟩
        dsimp only at hW2 h9 k2 k3
        subst l3 H3
        rw [hW2.spread]
        simp only [spread_t, spread_f, spread_n, Nat.zero_add, Nat.reduceAdd, h9]
        have hre2' := Hid.mk hre2
        clear hre2
        by_cases hgt : i0 < j
        · obtain ⟨j, rfl⟩ : ∃ j', j = j' + 1 := ⟨j - 1, by omega⟩
          have hgt' : (i0 : Int) < ((j + 1 : Nat) : Int) := by omega
          have e1 : ((j + 1 : Nat) : Int) - 1 = (j : Int) := by omega
          have hin1 : 0 ≤ ((j + 1 : Nat) : Int) ∧ ((j + 1 : Nat) : Int) < (n : Int) := by omega
          have hin2 : 0 ≤ (j : Int) ∧ (j : Int) < (n : Int) := by omega
          have hj3 : j + 1 < e2.size := by omega
          have hj4 : j < e2.size := by omega
          have hng := hc.neg e2[j + 1]! e2[j]!
          have hng' := Hid.mk hng
          clear hng
          by_cases hcx : hc.c e2[j + 1]! e2[j]! < 0
          · (repeat' (first | (simp -implicitDefEqProofs (maxSteps := 1000000) (disch := first | assumption | omega | (simp only [KE, JO, JP, KF]; omega)) only [*, lenV, fl_len, fl_at, fl_set, fl_set2, swp_eq, hc.run, eq_self, Array.size_setIfInBounds, pr_eta, ty3, ty22, ty24, ty25, slot48, plan48_4, plan48_6, Za, Zb, Zc, Zd, Ze, Zf, Zg, Zh, Zi, Zj, and_true, true_and, Ja, Jb, Jc, cond_true, cond_false, Jd, Je, Jf, Jg, Jh, Ji, Jj, St.put, Jk, Jl, Jm, Jn, Jo, Jp, Jq, Jr, Js, Jt, decide_true, decide_false, Nat.reduceEqDiff, Ju, Jv, Jw, Jx, Jy, rd, TI.kind, Nat.reduceLT, Nat.reduceAdd, and_self, Jz, J0, J1, J2, J3, J4, beq_self_eq_true, J5, J6, J7, J8, J9, JA, JB, Op.operands, JC, JD, JE, JF, JG, JH, JI, JJ, JK, JL, Nat.reduceBEq, JM, JN, JO, JP, JQ, JR, JS, JT, JU, JV, JW, wr, JX, JY, Nat.reduceSub, Nat.reduceMul, JZ, Ka, Kb, Kc, Kd, Ke, Kf, Kg, Kh, Ki, Kj, Kk, Kl, Km, Kn, Ko, Kp, Kq, Kr, Ks, Kt, Ku, Kv, Kw, Kx, Ky, Kz, K0, K1, K2, K3, K4, K5, K6, K7, K8, K9, KA, KC, KD, reduceCtorEq, Int.reduceLT, Int.reduceLE, Int.reduceAdd, Int.reduceSub, Int.reduceNeg, Int.reduceToNat, Int.reduceEq, KE, KF, Nat.reduceLeDiff, KG, KH, KI, or_true, true_or, or_false, false_or]) | ((with_reducible (first | refine Ok.br ?_ ?_ | refine Ok.gd ?_ ?_ | refine Ok.ld ?_ ?_)) <;> (intro g; (try simp only [Zz] at g); (first | (exfalso; omega) | skip)))))
            refine Turn.next j (by omega) ⟨rfl, j, swp e2 (j + 1) j, rfl, by omega, by omega, rfl, rfl, rfl, by rw [swp_size]; exact hsz2, ?_⟩
            rw [← hre2'.out, insInner, hng'.out, decide_eq_true hcx, if_pos (by simp; omega)]
          · (repeat' (first | (simp -implicitDefEqProofs (maxSteps := 1000000) (disch := first | assumption | omega | (simp only [KE, JO, JP, KF]; omega)) only [*, lenV, fl_len, fl_at, fl_set, fl_set2, swp_eq, hc.run, eq_self, Array.size_setIfInBounds, pr_eta, ty3, ty22, ty24, ty25, slot48, plan48_4, plan48_6, Za, Zb, Zc, Zd, Ze, Zf, Zg, Zh, Zi, Zj, and_true, true_and, Ja, Jb, Jc, cond_true, cond_false, Jd, Je, Jf, Jg, Jh, Ji, Jj, St.put, Jk, Jl, Jm, Jn, Jo, Jp, Jq, Jr, Js, Jt, decide_true, decide_false, Nat.reduceEqDiff, Ju, Jv, Jw, Jx, Jy, rd, TI.kind, Nat.reduceLT, Nat.reduceAdd, and_self, Jz, J0, J1, J2, J3, J4, beq_self_eq_true, J5, J6, J7, J8, J9, JA, JB, Op.operands, JC, JD, JE, JF, JG, JH, JI, JJ, JK, JL, Nat.reduceBEq, JM, JN, JO, JP, JQ, JR, JS, JT, JU, JV, JW, wr, JX, JY, Nat.reduceSub, Nat.reduceMul, JZ, Ka, Kb, Kc, Kd, Ke, Kf, Kg, Kh, Ki, Kj, Kk, Kl, Km, Kn, Ko, Kp, Kq, Kr, Ks, Kt, Ku, Kv, Kw, Kx, Ky, Kz, K0, K1, K2, K3, K4, K5, K6, K7, K8, K9, KA, KC, KD, reduceCtorEq, Int.reduceLT, Int.reduceLE, Int.reduceAdd, Int.reduceSub, Int.reduceNeg, Int.reduceToNat, Int.reduceEq, KE, KF, Nat.reduceLeDiff, KG, KH, KI, or_true, true_or, or_false, false_or]) | ((with_reducible (first | refine Ok.br ?_ ?_ | refine Ok.gd ?_ ?_ | refine Ok.ld ?_ ?_)) <;> (intro g; (try simp only [Zz] at g); (first | (exfalso; omega) | skip)))))
            have : insInner lt i0 (j + 1) e2 = e2 := by rw [insInner, hng'.out, decide_eq_false hcx, if_neg (by simp)]
            rw [this] at hre2'
            exact Turn.exit ⟨rfl, rfl, rfl, by rw [← hre2'.out], by rw [← hre2'.out]; exact hsz2⟩
        · have hgt' : ¬ (i0 : Int) < (j : Int) := by omega
          (repeat' (first | (simp -implicitDefEqProofs (maxSteps := 1000000) (disch := first | assumption | omega | (simp only [KE, JO, JP, KF]; omega)) only [*, lenV, ty3, ty22, ty24, ty25, slot48, plan48_4, plan48_6, Za, Zb, Zc, Zd, Ze, Zf, Zg, Zh, Zi, Zj, and_true, true_and, Ja, Jb, Jc, cond_true, cond_false, Jd, Je, Jf, Jg, Jh, Ji, Jj, St.put, Jk, Jl, Jm, Jn, Jo, Jp, Jq, Jr, Js, Jt, decide_true, decide_false, Nat.reduceEqDiff, Ju, Jv, Jw, Jx, Jy, rd, TI.kind, Nat.reduceLT, Nat.reduceAdd, and_self, Jz, J0, J1, J2, J3, J4, beq_self_eq_true, J5, J6, J7, J8, J9, JA, JB, Op.operands, JC, JD, JE, JF, JG, JH, JI, JJ, JK, JL, Nat.reduceBEq, JM, JN, JO, JP, JQ, JR, JS, JT, JU, JV, JW, wr, JX, JY, Nat.reduceSub, Nat.reduceMul, JZ, Ka, Kb, Kc, Kd, Ke, Kf, Kg, Kh, Ki, Kj, Kk, Kl, Km, Kn, Ko, Kp, Kq, Kr, Ks, Kt, Ku, Kv, Kw, Kx, Ky, Kz, K0, K1, K2, K3, K4, K5, K6, K7, K8, K9, KA, KC, KD, reduceCtorEq, Int.reduceLT, Int.reduceLE, Int.reduceAdd, Int.reduceSub, Int.reduceNeg, Int.reduceToNat, Int.reduceEq, KE, KF, Nat.reduceLeDiff, KG, KH, KI, or_true, true_or, or_false, false_or]) | ((with_reducible (first | refine Ok.br ?_ ?_ | refine Ok.gd ?_ ?_ | refine Ok.ld ?_ ?_)) <;> (intro g; (try simp only [Zz] at g); (first | (exfalso; omega) | skip)))))
          have : insInner lt i0 j e2 = e2 := by
            cases j with
            | zero => rfl
            | succ j => rw [insInner, if_neg (by simp; omega)]
          rw [this] at hre2'
          exact Turn.exit ⟨rfl, rfl, rfl, by rw [← hre2'.out], by rw [← hre2'.out]; exact hsz2⟩
      · intro x ⟨e3, l3, H3⟩ hW2 ⟨hx, k2, k3, k4⟩
        dsimp only at hW2 k2 k3
        subst l3 hx H3
        rw [hW2.spread]
        simp only [spread_t, spread_f, spread_n, Nat.zero_add, Nat.reduceAdd]
        clear hW2
        (repeat' (first | (simp -implicitDefEqProofs (maxSteps := 1000000) (disch := first | assumption | omega | (simp only [KE, JO, JP, KF]; omega)) only [*, ty3, ty22, ty24, ty25, slot48, plan48_4, plan48_6, Za, Zb, Zc, Zd, Ze, Zf, Zg, Zh, Zi, Zj, and_true, true_and, Ja, Jb, Jc, cond_true, cond_false, Jd, Je, Jf, Jg, Jh, Ji, Jj, St.put, Jk, Jl, Jm, Jn, Jo, Jp, Jq, Jr, Js, Jt, decide_true, decide_false, Nat.reduceEqDiff, Ju, Jv, Jw, Jx, Jy, rd, TI.kind, Nat.reduceLT, Nat.reduceAdd, and_self, Jz, J0, J1, J2, J3, J4, beq_self_eq_true, J5, J6, J7, J8, J9, JA, JB, Op.operands, JC, JD, JE, JF, JG, JH, JI, JJ, JK, JL, Nat.reduceBEq, JM, JN, JO, JP, JQ, JR, JS, JT, JU, JV, JW, wr, JX, JY, Nat.reduceSub, Nat.reduceMul, JZ, Ka, Kb, Kc, Kd, Ke, Kf, Kg, Kh, Ki, Kj, Kk, Kl, Km, Kn, Ko, Kp, Kq, Kr, Ks, Kt, Ku, Kv, Kw, Kx, Ky, Kz, K0, K1, K2, K3, K4, K5, K6, K7, K8, K9, KA, KC, KD, reduceCtorEq, Int.reduceLT, Int.reduceLE, Int.reduceAdd, Int.reduceSub, Int.reduceNeg, Int.reduceToNat, Int.reduceEq, KE, KF, Nat.reduceLeDiff, KG, KH, KI, or_true, true_or, or_false, false_or]) | ((with_reducible (first | refine Ok.br ?_ ?_ | refine Ok.gd ?_ ?_ | refine Ok.ld ?_ ?_)) <;> (intro g; (try simp only [Zz] at g); (first | (exfalso; omega) | skip)))))
        refine Turn.next (j0 + 1 - (i + 1)) (by omega) ⟨rfl, i + 1, insInner lt i0 i e, rfl, by omega, rfl, rfl, rfl, k4, ?_⟩
        rw [← hre'.out]
        conv => rhs; rw [insOuter, if_pos hlt]
    · have hlt' : ¬ (i : Int) < (j0 : Int) := by omega
      (repeat' (first | (simp -implicitDefEqProofs (maxSteps := 1000000) (disch := first | assumption | omega | (simp only [KE, JO, JP, KF]; omega)) only [*, lenV, ty3, ty22, ty24, ty25, slot48, plan48_4, plan48_6, Za, Zb, Zc, Zd, Ze, Zf, Zg, Zh, Zi, Zj, and_true, true_and, Ja, Jb, Jc, cond_true, cond_false, Jd, Je, Jf, Jg, Jh, Ji, Jj, St.put, Jk, Jl, Jm, Jn, Jo, Jp, Jq, Jr, Js, Jt, decide_true, decide_false, Nat.reduceEqDiff, Ju, Jv, Jw, Jx, Jy, rd, TI.kind, Nat.reduceLT, Nat.reduceAdd, and_self, Jz, J0, J1, J2, J3, J4, beq_self_eq_true, J5, J6, J7, J8, J9, JA, JB, Op.operands, JC, JD, JE, JF, JG, JH, JI, JJ, JK, JL, Nat.reduceBEq, JM, JN, JO, JP, JQ, JR, JS, JT, JU, JV, JW, wr, JX, JY, Nat.reduceSub, Nat.reduceMul, JZ, Ka, Kb, Kc, Kd, Ke, Kf, Kg, Kh, Ki, Kj, Kk, Kl, Km, Kn, Ko, Kp, Kq, Kr, Ks, Kt, Ku, Kv, Kw, Kx, Ky, Kz, K0, K1, K2, K3, K4, K5, K6, K7, K8, K9, KA, KC, KD, reduceCtorEq, Int.reduceLT, Int.reduceLE, Int.reduceAdd, Int.reduceSub, Int.reduceNeg, Int.reduceToNat, Int.reduceEq, KE, KF, Nat.reduceLeDiff, KG, KH, KI, or_true, true_or, or_false, false_or]) | ((with_reducible (first | refine Ok.br ?_ ?_ | refine Ok.gd ?_ ?_ | refine Ok.ld ?_ ?_)) <;> (intro g; (try simp only [Zz] at g); (first | (exfalso; omega) | skip)))))
      refine Turn.exit ⟨rfl, rfl, rfl, ?_⟩
      rw [← hre'.out, insOuter, if_neg hlt]
  · intro x ⟨e', l', H'⟩ hW ⟨hx, h2', h3⟩
    dsimp only at hW h2' h3
    subst l' hx H'
    rw [hW.spread]
    clear hW
    simp only [spread_t, spread_f, spread_n, Nat.zero_add, Nat.reduceAdd]
    (repeat' (first | (simp -implicitDefEqProofs (maxSteps := 1000000) (disch := first | assumption | omega | (simp only [KE, JO, JP, KF]; omega)) only [*, ty3, ty22, ty24, ty25, slot48, plan48_4, plan48_6, Za, Zb, Zc, Zd, Ze, Zf, Zg, Zh, Zi, Zj, and_true, true_and, Ja, Jb, Jc, cond_true, cond_false, Jd, Je, Jf, Jg, Jh, Ji, Jj, St.put, Jk, Jl, Jm, Jn, Jo, Jp, Jq, Jr, Js, Jt, decide_true, decide_false, Nat.reduceEqDiff, Ju, Jv, Jw, Jx, Jy, rd, TI.kind, Nat.reduceLT, Nat.reduceAdd, and_self, Jz, J0, J1, J2, J3, J4, beq_self_eq_true, J5, J6, J7, J8, J9, JA, JB, Op.operands, JC, JD, JE, JF, JG, JH, JI, JJ, JK, JL, Nat.reduceBEq, JM, JN, JO, JP, JQ, JR, JS, JT, JU, JV, JW, wr, JX, JY, Nat.reduceSub, Nat.reduceMul, JZ, Ka, Kb, Kc, Kd, Ke, Kf, Kg, Kh, Ki, Kj, Kk, Kl, Km, Kn, Ko, Kp, Kq, Kr, Ks, Kt, Ku, Kv, Kw, Kx, Ky, Kz, K0, K1, K2, K3, K4, K5, K6, K7, K8, K9, KA, KC, KD, reduceCtorEq, Int.reduceLT, Int.reduceLE, Int.reduceAdd, Int.reduceSub, Int.reduceNeg, Int.reduceToNat, Int.reduceEq, KE, KF, Nat.reduceLeDiff, KG, KH, KI, or_true, true_or, or_false, false_or]) | ((with_reducible (first | refine Ok.br ?_ ?_ | refine Ok.gd ?_ ?_ | refine Ok.ld ?_ ?_)) <;> (intro g; (try simp only [Zz] at g); (first | (exfalso; omega) | skip)))))
    exact hQ'.out _ rfl
end Go.Ev
