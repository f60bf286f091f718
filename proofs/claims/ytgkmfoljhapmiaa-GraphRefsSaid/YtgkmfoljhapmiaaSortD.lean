/-
Sorting pairs of numbers: the pivot; a row turned about.
-/
import Derived.Test.YtgkmfoljhapmiaaBun
import Derived.Test.YtgkmfoljhapmiaaSortP
set_option linter.unusedSimpArgs false
set_option linter.unusedVariables false
set_option maxRecDepth 100000
namespace Go.Ev
open Int renaming le_refl → Ja, toNat_natCast → Kz
open Go.Ev renaming wantedT → Jb, exPure → Jd, opd → Je, getT → Jf, constT → Jg, ofValue → Jh, cellsV → Ji, newVar → Jj, setT → Jk, posT → Jl, fieldAddrV → Ju, fieldOff → Jv, load → Jw, store → Jx, lcells → Jy, binOp → Jz, intOp → J0, leadsT → J5, again → J6, rdV → J7, vsame → J8, vsames → J9, makeSliceV → JF, buildV → JG, fillV → JH, splice → JI, results → JU, resV → JV, isCell → JW, nilCheckV → JY, allV → Ke, builtinV → Kf, lenV → Kg, indexAddrV → Kh, unOp → Ki, minmaxV → Kj, minmax → Kk, sliceV → Kl, bound → Km, asInt → Kn, idx → Ko, idxLe → Kp, appendV → Kq, copyV → Kr, clearV → Ks, convV → Kt, putBlk → Ku, sliceCells → Kv, newBlk → Kw, buildSliceV → Kx, shift → Ky
open Bool renaming not_not → Jc, not_true → J1, not_false → J2, true_beq → J3, false_beq → J4, and_true → JA, true_and → JB, or_false → K4, or_true → K5, true_or → K6, false_or → K7, and_false → K8, false_and → K9
open Option renaming bind_some → Jm, isSome_none → K0, isNone_none → K1, isSome_some → K2, isNone_some → K3
open List renaming getD_cons_zero → Jn, getD_cons_succ → Jo, set_cons_zero → Jp, set_cons_succ → Jq, getElem?_cons_zero → Jr, getElem?_cons_succ → Js, getElem?_nil → Jt, elem_cons → JC, elem_nil → JD, toList_toArray → JE, zip → JJ, map_cons → JK, map_nil → JL, all_cons → JM, all_nil → JN, length_cons → JO, length_nil → JP, take → JQ, drop → JR, cons_append → JS, nil_append → JT, set → JX, append_nil → Kd, append_assoc → KD, length_append → KE, length_set → KF, replicate_zero → KG, flatten_nil → KH, set_set → KI
open Nat renaming mul_one → JZ, zero_add → Ka, add_zero → Kb, le_refl → Kc, add_sub_cancel_left → KA, sub_self → KC
open Go.Proofs Go.Sort
variable {fv : V} {lt : RP → RP → Bool}

theorem set_same {G : Heap} {q : Nat} {c : List V} (h : hcells G q 0 = some (true, c)) : G.set q (.cells 0 true c) = G := by
  unfold hcells at h
  cases hx : G[q]? with
  | none => rw [hx] at h; cases h
  | some x =>
    rw [hx] at h
    cases x with
    | cells g' k c' =>
      obtain ⟨rfl, h⟩ := grd_some' h
      cases h
      obtain ⟨h1, h2⟩ := List.getElem?_eq_some_iff.1 hx
      rw [← h2]; exact List.set_getElem_self h1
    | map ex es c => cases h
    | loop r => cases h

theorem order2_lt {d : Array RP} {i j s n : Nat} (hi : i < n) (hj : j < n) : (order2 lt d i j s).1 < n ∧ (order2 lt d i j s).2.1 < n ∧ (order2 lt d i j s).2.2 ≤ s + 1 := by
  unfold order2; split
  · exact ⟨hj, hi, Nat.le_refl _⟩
  · exact ⟨hi, hj, Nat.le_succ _⟩

theorem order2_at (hc : Cmp fv lt) {G : Heap} {b g n cap z : Nat} {d : Array RP} (hG : hcells G b g = some (true, fl d)) (hn : n ≤ d.size) {q s : Nat} (hq : hcells G q 0 = some (true, [.int .i64 s])) (hs : s ≤ 1000) {i j : Nat} (hi : i < n) (hj : j < n) :
    D X (.fn 68 []) [.sl (.at b g 0) n cap z, .int .i64 i, .int .i64 j, .ptr q 0 0, fv] G =
      some (.tup [.int .i64 (order2 lt d i j s).1, .int .i64 (order2 lt d i j s).2.1], G.set q (.cells 0 true [.int .i64 (order2 lt d i j s).2.2])) := by
  refine Ok.eq ?_
  have g1 : 0 ≤ (i : Int) ∧ (i : Int) < (n : Int) := by omega
  have g2 : 0 ≤ (j : Int) ∧ (j : Int) < (n : Int) := by omega
  have g3 : i < d.size := by omega
  have g4 : j < d.size := by omega
  have hqs := set_same hq
  have hng : lt d[j]! d[i]! = decide (hc.c d[j]! d[i]! < 0) := hc.neg _ _
  have hng' := Hid.mk hng
  clear hng
  have hqs' := Hid.mk hqs
  clear hqs
  by_cases hp : hc.c d[j]! d[i]! < 0
  · have ho : order2 lt d i j s = (j, i, s + 1) := by unfold order2; rw [hng'.out, decide_eq_true hp, if_pos rfl]
    rw [ho]
    have ho' := Hid.mk ho
    clear ho
    have e1 : (s : Int) + 1 = ((s + 1 : Nat) : Int) := by omega
    (refine Ok.body body68 pin68 ?_; simp only [c68, Try.f68, Option.getD_some, nslot68, List.append_nil, List.map, List.replicate, List.length_cons, List.length_nil, Nat.reduceAdd, Nat.reduceSub, List.cons_append, List.nil_append])
    (repeat' (first | (simp -implicitDefEqProofs (maxSteps := 1000000) (disch := first | assumption | omega | (simp only [KE, JO, JP, KF]; omega)) only [*, lenV, fl_len, fl_at, fl_set, fl_set2, swp_eq, hc.run, eq_self, Array.size_setIfInBounds, pr_eta, ty3, ty22, ty24, ty25, slot68, plan68_1, Za, Zb, Zc, Zd, Ze, Zf, Zg, Zh, Zi, Zj, and_true, true_and, Ja, Jb, Jc, cond_true, cond_false, Jd, Je, Jf, Jg, Jh, Ji, Jj, St.put, Jk, Jl, Jm, Jn, Jo, Jp, Jq, Jr, Js, Jt, decide_true, decide_false, Nat.reduceEqDiff, Ju, Jv, Jw, Jx, Jy, rd, TI.kind, Nat.reduceLT, Nat.reduceAdd, and_self, Jz, J0, J1, J2, J3, J4, beq_self_eq_true, J5, J6, J7, J8, J9, JA, JB, Op.operands, JC, JD, JE, JF, JG, JH, JI, JJ, JK, JL, Nat.reduceBEq, JM, JN, JO, JP, JQ, JR, JS, JT, JU, JV, JW, wr, JX, JY, Nat.reduceSub, Nat.reduceMul, JZ, Ka, Kb, Kc, Kd, Ke, Kf, Kg, Kh, Ki, Kj, Kk, Kl, Km, Kn, Ko, Kp, Kq, Kr, Ks, Kt, Ku, Kv, Kw, Kx, Ky, Kz, K0, K1, K2, K3, K4, K5, K6, K7, K8, K9, KA, KC, KD, reduceCtorEq, Int.reduceLT, Int.reduceLE, Int.reduceAdd, Int.reduceSub, Int.reduceNeg, Int.reduceToNat, Int.reduceEq, KE, KF, Nat.reduceLeDiff, KG, KH, KI, or_true, true_or, or_false, false_or]) | ((with_reducible (first | refine Ok.br ?_ ?_ | refine Ok.gd ?_ ?_ | refine Ok.ld ?_ ?_)) <;> (intro g; (try simp only [Zz] at g); (first | (exfalso; omega) | skip)))))
  · have ho : order2 lt d i j s = (i, j, s) := by unfold order2; rw [hng'.out, decide_eq_false hp, if_neg (by simp)]
    rw [ho, hqs'.out]
    have ho' := Hid.mk ho
    clear ho
    (refine Ok.body body68 pin68 ?_; simp only [c68, Try.f68, Option.getD_some, nslot68, List.append_nil, List.map, List.replicate, List.length_cons, List.length_nil, Nat.reduceAdd, Nat.reduceSub, List.cons_append, List.nil_append])
    (repeat' (first | (simp -implicitDefEqProofs (maxSteps := 1000000) (disch := first | assumption | omega | (simp only [KE, JO, JP, KF]; omega)) only [*, lenV, fl_len, fl_at, fl_set, fl_set2, swp_eq, hc.run, eq_self, Array.size_setIfInBounds, pr_eta, ty3, ty22, ty24, ty25, slot68, plan68_1, Za, Zb, Zc, Zd, Ze, Zf, Zg, Zh, Zi, Zj, and_true, true_and, Ja, Jb, Jc, cond_true, cond_false, Jd, Je, Jf, Jg, Jh, Ji, Jj, St.put, Jk, Jl, Jm, Jn, Jo, Jp, Jq, Jr, Js, Jt, decide_true, decide_false, Nat.reduceEqDiff, Ju, Jv, Jw, Jx, Jy, rd, TI.kind, Nat.reduceLT, Nat.reduceAdd, and_self, Jz, J0, J1, J2, J3, J4, beq_self_eq_true, J5, J6, J7, J8, J9, JA, JB, Op.operands, JC, JD, JE, JF, JG, JH, JI, JJ, JK, JL, Nat.reduceBEq, JM, JN, JO, JP, JQ, JR, JS, JT, JU, JV, JW, wr, JX, JY, Nat.reduceSub, Nat.reduceMul, JZ, Ka, Kb, Kc, Kd, Ke, Kf, Kg, Kh, Ki, Kj, Kk, Kl, Km, Kn, Ko, Kp, Kq, Kr, Ks, Kt, Ku, Kv, Kw, Kx, Ky, Kz, K0, K1, K2, K3, K4, K5, K6, K7, K8, K9, KA, KC, KD, reduceCtorEq, Int.reduceLT, Int.reduceLE, Int.reduceAdd, Int.reduceSub, Int.reduceNeg, Int.reduceToNat, Int.reduceEq, KE, KF, Nat.reduceLeDiff, KG, KH, KI, or_true, true_or, or_false, false_or]) | ((with_reducible (first | refine Ok.br ?_ ?_ | refine Ok.gd ?_ ?_ | refine Ok.ld ?_ ?_)) <;> (intro g; (try simp only [Zz] at g); (first | (exfalso; omega) | skip)))))

theorem median_lt {d : Array RP} {i j k s n : Nat} (hi : i < n) (hj : j < n) (hk : k < n) : (median lt d i j k s).1 < n ∧ (median lt d i j k s).2 ≤ s + 3 := by
  unfold median
  have h1 := order2_lt (lt := lt) (d := d) (s := s) hi hj
  have h2 := order2_lt (lt := lt) (d := d) (s := (order2 lt d i j s).2.2) h1.2.1 hk
  have h3 := order2_lt (lt := lt) (d := d) (s := (order2 lt d (order2 lt d i j s).2.1 k (order2 lt d i j s).2.2).2.2) h1.1 h2.1
  dsimp only
  exact ⟨h3.2.1, by omega⟩

theorem median_at (hc : Cmp fv lt) {G : Heap} {b g n cap z : Nat} {d : Array RP} (hG : hcells G b g = some (true, fl d)) (hn : n ≤ d.size) {q s : Nat} (hq : hcells G q 0 = some (true, [.int .i64 s])) (hs : s ≤ 900) (hqb : q ≠ b) {i j k : Nat} (hi : i < n) (hj : j < n) (hk : k < n) :
    D X (.fn 66 []) [.sl (.at b g 0) n cap z, .int .i64 i, .int .i64 j, .int .i64 k, .ptr q 0 0, fv] G =
      some (.int .i64 (median lt d i j k s).1, G.set q (.cells 0 true [.int .i64 (median lt d i j k s).2])) := by
  refine Ok.eq ?_
  unfold median
  dsimp only
  have hql := hcells_lt hq
  have h1 := order2_lt (lt := lt) (d := d) (s := s) hi hj
  have c1 := order2_at hc (cap := cap) (z := z) hG hn hq (by omega) hi hj
  have hm : ∀ t : Nat, hcells (G.set q (.cells 0 true [.int .i64 t])) b g = some (true, fl d) := fun t => by rw [hcells_set_ne (Ne.symm hqb)]; exact hG
  have hm2 : ∀ t : Nat, hcells (G.set q (.cells 0 true [.int .i64 t])) q 0 = some (true, [.int .i64 t]) := fun t => hcells_set_eq hql
  generalize order2 lt d i j s = r1 at h1 c1 ⊢
  have h2 := order2_lt (lt := lt) (d := d) (s := r1.2.2) h1.2.1 hk
  have c2 := order2_at hc (cap := cap) (z := z) (hm r1.2.2) hn (hm2 _) (by omega) h1.2.1 hk
  generalize order2 lt d r1.2.1 k r1.2.2 = r2 at h2 c2 ⊢
  rw [List.set_set] at c2
  have c3 := order2_at hc (cap := cap) (z := z) (hm r2.2.2) hn (hm2 _) (by omega) h1.1 h2.1
  generalize order2 lt d r1.1 r2.1 r2.2.2 = r3 at c3 ⊢
  rw [List.set_set] at c3
  clear hG hq hm hm2 h1 h2 hi hj hk hql hqb hs hn
  (refine Ok.body body66 pin66 ?_; simp only [c66, Try.f66, Option.getD_some, nslot66, List.append_nil, List.map, List.replicate, List.length_cons, List.length_nil, Nat.reduceAdd, Nat.reduceSub, List.cons_append, List.nil_append])
  (repeat' (first | (simp -implicitDefEqProofs (maxSteps := 1000000) (disch := first | assumption | omega | (simp only [KE, JO, JP, KF]; omega)) only [*, lenV, ty3, ty22, ty24, ty25, ty58, ty109, slot66, Za, Zb, Zc, Zd, Ze, Zf, Zg, Zh, Zi, Zj, and_true, true_and, Ja, Jb, Jc, cond_true, cond_false, Jd, Je, Jf, Jg, Jh, Ji, Jj, St.put, Jk, Jl, Jm, Jn, Jo, Jp, Jq, Jr, Js, Jt, decide_true, decide_false, Nat.reduceEqDiff, Ju, Jv, Jw, Jx, Jy, rd, TI.kind, Nat.reduceLT, Nat.reduceAdd, and_self, Jz, J0, J1, J2, J3, J4, beq_self_eq_true, J5, J6, J7, J8, J9, JA, JB, Op.operands, JC, JD, JE, JF, JG, JH, JI, JJ, JK, JL, Nat.reduceBEq, JM, JN, JO, JP, JQ, JR, JS, JT, JU, JV, JW, wr, JX, JY, Nat.reduceSub, Nat.reduceMul, JZ, Ka, Kb, Kc, Kd, Ke, Kf, Kg, Kh, Ki, Kj, Kk, Kl, Km, Kn, Ko, Kp, Kq, Kr, Ks, Kt, Ku, Kv, Kw, Kx, Ky, Kz, K0, K1, K2, K3, K4, K5, K6, K7, K8, K9, KA, KC, KD, reduceCtorEq, Int.reduceLT, Int.reduceLE, Int.reduceAdd, Int.reduceSub, Int.reduceNeg, Int.reduceToNat, Int.reduceEq, KE, KF, Nat.reduceLeDiff, KG, KH, KI, or_true, true_or, or_false, false_or]) | ((with_reducible (first | refine Ok.br ?_ ?_ | refine Ok.gd ?_ ?_ | refine Ok.ld ?_ ?_)) <;> (intro g; (try simp only [Zz] at g); (first | (exfalso; omega) | skip)))))

theorem medAdj_at (hc : Cmp fv lt) {G : Heap} {b g n cap z : Nat} {d : Array RP} (hG : hcells G b g = some (true, fl d)) (hn : n ≤ d.size) {q s : Nat} (hq : hcells G q 0 = some (true, [.int .i64 s])) (hs : s ≤ 900) (hqb : q ≠ b) (hl : d.size ≤ 1000000000) {i : Nat} (h0 : 0 < i) (hi : i + 1 < n) :
    D X (.fn 65 []) [.sl (.at b g 0) n cap z, .int .i64 i, .ptr q 0 0, fv] G =
      some (.int .i64 (medianAdjacent lt d i s).1, G.set q (.cells 0 true [.int .i64 (medianAdjacent lt d i s).2])) := by
  refine Ok.eq ?_
  unfold medianAdjacent
  have c := median_at hc (cap := cap) (z := z) hG hn hq hs hqb (i := i - 1) (j := i) (k := i + 1) (by omega) (by omega) hi
  generalize median lt d (i - 1) i (i + 1) s = r at c ⊢
  have e1 : ((i - 1 : Nat) : Int) = (i : Int) - 1 := by omega
  have e2 : ((i + 1 : Nat) : Int) = (i : Int) + 1 := by omega
  rw [e1, e2] at c
  clear hG hq e1 e2
  (refine Ok.body body65 pin65 ?_; simp only [c65, Try.f65, Option.getD_some, nslot65, List.append_nil, List.map, List.replicate, List.length_cons, List.length_nil, Nat.reduceAdd, Nat.reduceSub, List.cons_append, List.nil_append])
  (repeat' (first | (simp -implicitDefEqProofs (maxSteps := 1000000) (disch := first | assumption | omega | (simp only [KE, JO, JP, KF]; omega)) only [*, lenV, ty3, ty22, ty24, ty25, ty58, ty109, slot65, Za, Zb, Zc, Zd, Ze, Zf, Zg, Zh, Zi, Zj, and_true, true_and, Ja, Jb, Jc, cond_true, cond_false, Jd, Je, Jf, Jg, Jh, Ji, Jj, St.put, Jk, Jl, Jm, Jn, Jo, Jp, Jq, Jr, Js, Jt, decide_true, decide_false, Nat.reduceEqDiff, Ju, Jv, Jw, Jx, Jy, rd, TI.kind, Nat.reduceLT, Nat.reduceAdd, and_self, Jz, J0, J1, J2, J3, J4, beq_self_eq_true, J5, J6, J7, J8, J9, JA, JB, Op.operands, JC, JD, JE, JF, JG, JH, JI, JJ, JK, JL, Nat.reduceBEq, JM, JN, JO, JP, JQ, JR, JS, JT, JU, JV, JW, wr, JX, JY, Nat.reduceSub, Nat.reduceMul, JZ, Ka, Kb, Kc, Kd, Ke, Kf, Kg, Kh, Ki, Kj, Kk, Kl, Km, Kn, Ko, Kp, Kq, Kr, Ks, Kt, Ku, Kv, Kw, Kx, Ky, Kz, K0, K1, K2, K3, K4, K5, K6, K7, K8, K9, KA, KC, KD, reduceCtorEq, Int.reduceLT, Int.reduceLE, Int.reduceAdd, Int.reduceSub, Int.reduceNeg, Int.reduceToNat, Int.reduceEq, KE, KF, Nat.reduceLeDiff, KG, KH, KI, or_true, true_or, or_false, false_or]) | ((with_reducible (first | refine Ok.br ?_ ?_ | refine Ok.gd ?_ ?_ | refine Ok.ld ?_ ?_)) <;> (intro g; (try simp only [Zz] at g); (first | (exfalso; omega) | skip)))))

def hintI : Hint → Int
  | .unknown => 0
  | .increasing => 1
  | .decreasing => 2

set_option maxHeartbeats 2000000 in
theorem pivot_at (hc : Cmp fv lt) {H : Heap} {b g n cap z : Nat} {d : Array RP} (hb : b < H.length) (hn : n ≤ d.size) (hl : d.size ≤ 1000000000) {i0 j0 : Nat} (h1 : i0 < j0) (h2 : j0 ≤ n) :
    Ev.Ok (D X (.fn 51 []) [.sl (.at b g 0) n cap z, .int .i64 i0, .int .i64 j0, fv] (hs H b g d)) fun y => ∃ t : Nat, y = (.tup [.int .i64 (choosePivot lt d i0 j0).1, .int .i64 (hintI (choosePivot lt d i0 j0).2)], hs (H ++ [Blk.cells 0 true [.int .i64 t]]) b g d) := by
  refine Ok.aim fun Q hQ => ?_
  have hQ' := Hid.mk hQ
  clear hQ
  unfold hs at hQ' ⊢
  have hset : ∀ t : Nat, (H ++ [Blk.cells 0 true [.int .i64 (t : Int)]]).set b (.cells g true (fl d)) = H.set b (.cells g true (fl d)) ++ [Blk.cells 0 true [.int .i64 (t : Int)]] := fun t => heap_set_lt hb
  simp only [hset] at hQ'
  clear hset
  have hm : ∀ t : Nat, hcells (H.set b (.cells g true (fl d)) ++ [Blk.cells 0 true [.int .i64 (t : Int)]]) b g = some (true, fl d) := fun t => by rw [hcells_app (by simpa using hb), hcells_set_eq hb]
  have hm2 : ∀ t : Nat, hcells (H.set b (.cells g true (fl d)) ++ [Blk.cells 0 true [.int .i64 (t : Int)]]) H.length 0 = some (true, [.int .i64 (t : Int)]) := fun t => by rw [hcells_ge (by simp)]; simp only [List.length_set, Nat.sub_self]; exact grd_t rfl _
  have hst : ∀ t u : Nat, (H.set b (.cells g true (fl d)) ++ [Blk.cells 0 true [.int .i64 (t : Int)]]).set H.length (.cells 0 true [.int .i64 (u : Int)]) = H.set b (.cells g true (fl d)) ++ [Blk.cells 0 true [.int .i64 (u : Int)]] := fun t u => by
    rw [heap_set_ge (by simp)]; simp only [List.length_set, Nat.sub_self, List.set_cons_zero]
  have hqb : H.length ≠ b := by omega
  obtain ⟨l, hll⟩ : ∃ l, j0 - i0 = l := ⟨_, rfl⟩
  have e1 : (j0 : Int) - (i0 : Int) = (l : Int) := by omega
  have e2 : (l : Int).tdiv 4 = ((l / 4 : Nat) : Int) := by rw [Int.tdiv_eq_ediv_of_nonneg (by omega)]; omega
  obtain ⟨i, hi⟩ : ∃ i, i0 + l / 4 * 1 = i := ⟨_, rfl⟩
  obtain ⟨j, hj⟩ : ∃ i, i0 + l / 4 * 2 = i := ⟨_, rfl⟩
  obtain ⟨k, hk⟩ : ∃ i, i0 + l / 4 * 3 = i := ⟨_, rfl⟩
  have e3 : (i0 : Int) + ((l / 4 : Nat) : Int) * 1 = (i : Int) := by omega
  have e4 : (i0 : Int) + ((l / 4 : Nat) : Int) * 2 = (j : Int) := by omega
  have e5 : (i0 : Int) + ((l / 4 : Nat) : Int) * 3 = (k : Int) := by omega
  have hcp : choosePivot lt d i0 j0 = (let r : Nat × Nat := if l ≥ 8 then (if l ≥ 50 then (let ri := medianAdjacent lt d i 0; let rj := medianAdjacent lt d j ri.2; let rk := medianAdjacent lt d k rj.2; median lt d ri.1 rj.1 rk.1 rk.2) else median lt d i j k 0) else (j, 0); (r.1, if r.2 = 0 then .increasing else if r.2 = 12 then .decreasing else .unknown)) := by
    unfold choosePivot
    simp only [hll, hi, hj, hk]
  have hi1 : i < n ∧ j < n ∧ k < n := by omega
  have e6 : (0 : Nat) ≤ l / 4 := by omega
  have hfin : ∀ (r : Nat × Nat), choosePivot lt d i0 j0 = (r.1, if r.2 = 0 then .increasing else if r.2 = 12 then .decreasing else .unknown) → r.2 ≤ 12 →
      Q (.tup [.int .i64 r.1, .int .i64 (if r.2 = 0 then 1 else if r.2 = 12 then 2 else 0)], H.set b (.cells g true (fl d)) ++ [Blk.cells 0 true [.int .i64 (r.2 : Int)]]) := by
    intro r hr hr2
    refine hQ'.out _ ⟨r.2, ?_⟩
    rw [hr]
    congr 3
    split
    · rfl
    · split <;> rfl
  have hfin' := Hid.mk hfin
  have hcp' := Hid.mk hcp
  have hst' := Hid.mk hst
  have hq0 : ((0 : Nat) : Int) = 0 := rfl
  clear hfin hcp hQ'
  by_cases h8 : 8 ≤ l
  · have h8' : (8 : Int) ≤ (l : Int) := by omega
    by_cases h50 : 50 ≤ l
    · have h50' : (50 : Int) ≤ (l : Int) := by omega
      have c1 := medAdj_at hc (cap := cap) (z := z) (hm 0) hn (hm2 0) (by omega) hqb hl (i := i) (by omega) (by omega)
      have b1 := median_lt (lt := lt) (d := d) (i := i - 1) (j := i) (k := i + 1) (s := 0) (n := n) (by omega) (by omega) (by omega)
      have d1 : medianAdjacent lt d i 0 = median lt d (i - 1) i (i + 1) 0 := rfl
      rw [← d1] at b1
      clear d1
      rw [hst] at c1
      have hr := hcp'.out
      simp only [if_pos (show l ≥ 8 from h8), if_pos (show l ≥ 50 from h50)] at hr
      generalize medianAdjacent lt d i 0 = r1 at c1 b1 hr
      have c2 := medAdj_at hc (cap := cap) (z := z) (hm r1.2) hn (hm2 _) (by omega) hqb hl (i := j) (by omega) (by omega)
      have b2 := median_lt (lt := lt) (d := d) (i := j - 1) (j := j) (k := j + 1) (s := r1.2) (n := n) (by omega) (by omega) (by omega)
      have d1 : medianAdjacent lt d j r1.2 = median lt d (j - 1) j (j + 1) r1.2 := rfl
      rw [← d1] at b2
      clear d1
      rw [hst] at c2
      generalize medianAdjacent lt d j r1.2 = r2 at c2 b2 hr
      have c3 := medAdj_at hc (cap := cap) (z := z) (hm r2.2) hn (hm2 _) (by omega) hqb hl (i := k) (by omega) (by omega)
      have b3 := median_lt (lt := lt) (d := d) (i := k - 1) (j := k) (k := k + 1) (s := r2.2) (n := n) (by omega) (by omega) (by omega)
      have d1 : medianAdjacent lt d k r2.2 = median lt d (k - 1) k (k + 1) r2.2 := rfl
      rw [← d1] at b3
      clear d1
      rw [hst] at c3
      generalize medianAdjacent lt d k r2.2 = r3 at c3 b3 hr
      have c4 := median_at hc (cap := cap) (z := z) (hm r3.2) hn (hm2 _) (by omega) hqb (i := r1.1) (j := r2.1) (k := r3.1) b1.1 b2.1 b3.1
      have b4 := median_lt (lt := lt) (d := d) (s := r3.2) b1.1 b2.1 b3.1
      rw [hst] at c4
      generalize median lt d r1.1 r2.1 r3.1 r3.2 = r4 at c4 b4 hr
      have hr' := Hid.mk hr
      have b4' : r4.2 ≤ 12 := by omega
      clear hr hm hm2 hst hi1 b1 b2 b3 b4 hll hi hj hk
      rw [hq0] at c1
      by_cases z0 : r4.2 = 0
      · have z0' : (r4.2 : Int) = 0 := by omega
        (refine Ok.body body51 pin51 ?_; simp only [c51, Try.f51, Option.getD_some, nslot51, List.append_nil, List.map, List.replicate, List.length_cons, List.length_nil, Nat.reduceAdd, Nat.reduceSub, List.cons_append, List.nil_append])
        (repeat' (first | (simp -implicitDefEqProofs (maxSteps := 1000000) (disch := first | assumption | omega | (simp only [KE, JO, JP, KF]; omega)) only [*, lenV, ty3, ty22, ty24, ty25, ty58, ty109, slot51, Za, Zb, Zc, Zd, Ze, Zf, Zg, Zh, Zi, Zj, and_true, true_and, Ja, Jb, Jc, cond_true, cond_false, Jd, Je, Jf, Jg, Jh, Ji, Jj, St.put, Jk, Jl, Jm, Jn, Jo, Jp, Jq, Jr, Js, Jt, decide_true, decide_false, Nat.reduceEqDiff, Ju, Jv, Jw, Jx, Jy, rd, TI.kind, Nat.reduceLT, Nat.reduceAdd, and_self, Jz, J0, J1, J2, J3, J4, beq_self_eq_true, J5, J6, J7, J8, J9, JA, JB, Op.operands, JC, JD, JE, JF, JG, JH, JI, JJ, JK, JL, Nat.reduceBEq, JM, JN, JO, JP, JQ, JR, JS, JT, JU, JV, JW, wr, JX, JY, Nat.reduceSub, Nat.reduceMul, JZ, Ka, Kb, Kc, Kd, Ke, Kf, Kg, Kh, Ki, Kj, Kk, Kl, Km, Kn, Ko, Kp, Kq, Kr, Ks, Kt, Ku, Kv, Kw, Kx, Ky, Kz, K0, K1, K2, K3, K4, K5, K6, K7, K8, K9, KA, KC, KD, reduceCtorEq, Int.reduceLT, Int.reduceLE, Int.reduceAdd, Int.reduceSub, Int.reduceNeg, Int.reduceToNat, Int.reduceEq, KE, KF, Nat.reduceLeDiff, KG, KH, KI, or_true, true_or, or_false, false_or]) | ((with_reducible (first | refine Ok.br ?_ ?_ | refine Ok.gd ?_ ?_ | refine Ok.ld ?_ ?_)) <;> (intro g; (try simp only [Zz] at g); (first | (exfalso; omega) | skip)))))
        have := hfin'.out r4 hr'.out b4'
        rw [if_pos z0, z0'] at this
        exact this
      · have z0' : ¬ (r4.2 : Int) = 0 := by omega
        by_cases z1 : r4.2 = 12
        · have z1' : (r4.2 : Int) = 12 := by omega
          clear z0'
          (refine Ok.body body51 pin51 ?_; simp only [c51, Try.f51, Option.getD_some, nslot51, List.append_nil, List.map, List.replicate, List.length_cons, List.length_nil, Nat.reduceAdd, Nat.reduceSub, List.cons_append, List.nil_append])
          (repeat' (first | (simp -implicitDefEqProofs (maxSteps := 1000000) (disch := first | assumption | omega | (simp only [KE, JO, JP, KF]; omega)) only [*, lenV, ty3, ty22, ty24, ty25, ty58, ty109, slot51, Za, Zb, Zc, Zd, Ze, Zf, Zg, Zh, Zi, Zj, and_true, true_and, Ja, Jb, Jc, cond_true, cond_false, Jd, Je, Jf, Jg, Jh, Ji, Jj, St.put, Jk, Jl, Jm, Jn, Jo, Jp, Jq, Jr, Js, Jt, decide_true, decide_false, Nat.reduceEqDiff, Ju, Jv, Jw, Jx, Jy, rd, TI.kind, Nat.reduceLT, Nat.reduceAdd, and_self, Jz, J0, J1, J2, J3, J4, beq_self_eq_true, J5, J6, J7, J8, J9, JA, JB, Op.operands, JC, JD, JE, JF, JG, JH, JI, JJ, JK, JL, Nat.reduceBEq, JM, JN, JO, JP, JQ, JR, JS, JT, JU, JV, JW, wr, JX, JY, Nat.reduceSub, Nat.reduceMul, JZ, Ka, Kb, Kc, Kd, Ke, Kf, Kg, Kh, Ki, Kj, Kk, Kl, Km, Kn, Ko, Kp, Kq, Kr, Ks, Kt, Ku, Kv, Kw, Kx, Ky, Kz, K0, K1, K2, K3, K4, K5, K6, K7, K8, K9, KA, KC, KD, reduceCtorEq, Int.reduceLT, Int.reduceLE, Int.reduceAdd, Int.reduceSub, Int.reduceNeg, Int.reduceToNat, Int.reduceEq, KE, KF, Nat.reduceLeDiff, KG, KH, KI, or_true, true_or, or_false, false_or]) | ((with_reducible (first | refine Ok.br ?_ ?_ | refine Ok.gd ?_ ?_ | refine Ok.ld ?_ ?_)) <;> (intro g; (try simp only [Zz] at g); (first | (exfalso; omega) | skip)))))
          have := hfin'.out r4 hr'.out b4'
          rw [if_neg z0, if_pos z1, z1'] at this
          exact this
        · have z1' : ¬ (r4.2 : Int) = 12 := by omega
          (refine Ok.body body51 pin51 ?_; simp only [c51, Try.f51, Option.getD_some, nslot51, List.append_nil, List.map, List.replicate, List.length_cons, List.length_nil, Nat.reduceAdd, Nat.reduceSub, List.cons_append, List.nil_append])
          (repeat' (first | (simp -implicitDefEqProofs (maxSteps := 1000000) (disch := first | assumption | omega | (simp only [KE, JO, JP, KF]; omega)) only [*, lenV, ty3, ty22, ty24, ty25, ty58, ty109, slot51, Za, Zb, Zc, Zd, Ze, Zf, Zg, Zh, Zi, Zj, and_true, true_and, Ja, Jb, Jc, cond_true, cond_false, Jd, Je, Jf, Jg, Jh, Ji, Jj, St.put, Jk, Jl, Jm, Jn, Jo, Jp, Jq, Jr, Js, Jt, decide_true, decide_false, Nat.reduceEqDiff, Ju, Jv, Jw, Jx, Jy, rd, TI.kind, Nat.reduceLT, Nat.reduceAdd, and_self, Jz, J0, J1, J2, J3, J4, beq_self_eq_true, J5, J6, J7, J8, J9, JA, JB, Op.operands, JC, JD, JE, JF, JG, JH, JI, JJ, JK, JL, Nat.reduceBEq, JM, JN, JO, JP, JQ, JR, JS, JT, JU, JV, JW, wr, JX, JY, Nat.reduceSub, Nat.reduceMul, JZ, Ka, Kb, Kc, Kd, Ke, Kf, Kg, Kh, Ki, Kj, Kk, Kl, Km, Kn, Ko, Kp, Kq, Kr, Ks, Kt, Ku, Kv, Kw, Kx, Ky, Kz, K0, K1, K2, K3, K4, K5, K6, K7, K8, K9, KA, KC, KD, reduceCtorEq, Int.reduceLT, Int.reduceLE, Int.reduceAdd, Int.reduceSub, Int.reduceNeg, Int.reduceToNat, Int.reduceEq, KE, KF, Nat.reduceLeDiff, KG, KH, KI, or_true, true_or, or_false, false_or]) | ((with_reducible (first | refine Ok.br ?_ ?_ | refine Ok.gd ?_ ?_ | refine Ok.ld ?_ ?_)) <;> (intro g; (try simp only [Zz] at g); (first | (exfalso; omega) | skip)))))
          have := hfin'.out r4 hr'.out b4'
          rw [if_neg z0, if_neg z1] at this
          exact this
    · have h50' : ¬ (50 : Int) ≤ (l : Int) := by omega
      have c4 := median_at hc (cap := cap) (z := z) (hm 0) hn (hm2 0) (by omega) hqb (i := i) (j := j) (k := k) hi1.1 hi1.2.1 hi1.2.2
      have b4 := median_lt (lt := lt) (d := d) (s := 0) hi1.1 hi1.2.1 hi1.2.2
      rw [hst] at c4
      have hr := hcp'.out
      simp only [if_pos (show l ≥ 8 from h8), if_neg (show ¬ l ≥ 50 from h50)] at hr
      generalize median lt d i j k 0 = r4 at c4 b4 hr
      have hr' := Hid.mk hr
      have b4' : r4.2 ≤ 12 := by omega
      have z1 : ¬ r4.2 = 12 := by omega
      clear hr hm hm2 hst hi1 b4 hll hi hj hk
      rw [hq0] at c4
      have z1' : ¬ (r4.2 : Int) = 12 := by omega
      by_cases z0 : r4.2 = 0
      · have z0' : (r4.2 : Int) = 0 := by omega
        (refine Ok.body body51 pin51 ?_; simp only [c51, Try.f51, Option.getD_some, nslot51, List.append_nil, List.map, List.replicate, List.length_cons, List.length_nil, Nat.reduceAdd, Nat.reduceSub, List.cons_append, List.nil_append])
        (repeat' (first | (simp -implicitDefEqProofs (maxSteps := 1000000) (disch := first | assumption | omega | (simp only [KE, JO, JP, KF]; omega)) only [*, lenV, ty3, ty22, ty24, ty25, ty58, ty109, slot51, Za, Zb, Zc, Zd, Ze, Zf, Zg, Zh, Zi, Zj, and_true, true_and, Ja, Jb, Jc, cond_true, cond_false, Jd, Je, Jf, Jg, Jh, Ji, Jj, St.put, Jk, Jl, Jm, Jn, Jo, Jp, Jq, Jr, Js, Jt, decide_true, decide_false, Nat.reduceEqDiff, Ju, Jv, Jw, Jx, Jy, rd, TI.kind, Nat.reduceLT, Nat.reduceAdd, and_self, Jz, J0, J1, J2, J3, J4, beq_self_eq_true, J5, J6, J7, J8, J9, JA, JB, Op.operands, JC, JD, JE, JF, JG, JH, JI, JJ, JK, JL, Nat.reduceBEq, JM, JN, JO, JP, JQ, JR, JS, JT, JU, JV, JW, wr, JX, JY, Nat.reduceSub, Nat.reduceMul, JZ, Ka, Kb, Kc, Kd, Ke, Kf, Kg, Kh, Ki, Kj, Kk, Kl, Km, Kn, Ko, Kp, Kq, Kr, Ks, Kt, Ku, Kv, Kw, Kx, Ky, Kz, K0, K1, K2, K3, K4, K5, K6, K7, K8, K9, KA, KC, KD, reduceCtorEq, Int.reduceLT, Int.reduceLE, Int.reduceAdd, Int.reduceSub, Int.reduceNeg, Int.reduceToNat, Int.reduceEq, KE, KF, Nat.reduceLeDiff, KG, KH, KI, or_true, true_or, or_false, false_or]) | ((with_reducible (first | refine Ok.br ?_ ?_ | refine Ok.gd ?_ ?_ | refine Ok.ld ?_ ?_)) <;> (intro g; (try simp only [Zz] at g); (first | (exfalso; omega) | skip)))))
        have := hfin'.out r4 hr'.out b4'
        rw [if_pos z0, z0'] at this
        exact this
      · have z0' : ¬ (r4.2 : Int) = 0 := by omega
        (refine Ok.body body51 pin51 ?_; simp only [c51, Try.f51, Option.getD_some, nslot51, List.append_nil, List.map, List.replicate, List.length_cons, List.length_nil, Nat.reduceAdd, Nat.reduceSub, List.cons_append, List.nil_append])
        (repeat' (first | (simp -implicitDefEqProofs (maxSteps := 1000000) (disch := first | assumption | omega | (simp only [KE, JO, JP, KF]; omega)) only [*, lenV, ty3, ty22, ty24, ty25, ty58, ty109, slot51, Za, Zb, Zc, Zd, Ze, Zf, Zg, Zh, Zi, Zj, and_true, true_and, Ja, Jb, Jc, cond_true, cond_false, Jd, Je, Jf, Jg, Jh, Ji, Jj, St.put, Jk, Jl, Jm, Jn, Jo, Jp, Jq, Jr, Js, Jt, decide_true, decide_false, Nat.reduceEqDiff, Ju, Jv, Jw, Jx, Jy, rd, TI.kind, Nat.reduceLT, Nat.reduceAdd, and_self, Jz, J0, J1, J2, J3, J4, beq_self_eq_true, J5, J6, J7, J8, J9, JA, JB, Op.operands, JC, JD, JE, JF, JG, JH, JI, JJ, JK, JL, Nat.reduceBEq, JM, JN, JO, JP, JQ, JR, JS, JT, JU, JV, JW, wr, JX, JY, Nat.reduceSub, Nat.reduceMul, JZ, Ka, Kb, Kc, Kd, Ke, Kf, Kg, Kh, Ki, Kj, Kk, Kl, Km, Kn, Ko, Kp, Kq, Kr, Ks, Kt, Ku, Kv, Kw, Kx, Ky, Kz, K0, K1, K2, K3, K4, K5, K6, K7, K8, K9, KA, KC, KD, reduceCtorEq, Int.reduceLT, Int.reduceLE, Int.reduceAdd, Int.reduceSub, Int.reduceNeg, Int.reduceToNat, Int.reduceEq, KE, KF, Nat.reduceLeDiff, KG, KH, KI, or_true, true_or, or_false, false_or]) | ((with_reducible (first | refine Ok.br ?_ ?_ | refine Ok.gd ?_ ?_ | refine Ok.ld ?_ ?_)) <;> (intro g; (try simp only [Zz] at g); (first | (exfalso; omega) | skip)))))
        have := hfin'.out r4 hr'.out b4'
        rw [if_neg z0, if_neg z1] at this
        exact this
  · have h8' : ¬ (8 : Int) ≤ (l : Int) := by omega
    have hr := hcp'.out
    simp only [if_neg (show ¬ l ≥ 8 from h8)] at hr
    have hr' := Hid.mk hr
    clear hr hm hm2 hst hi1 hll hi hj hk
    (refine Ok.body body51 pin51 ?_; simp only [c51, Try.f51, Option.getD_some, nslot51, List.append_nil, List.map, List.replicate, List.length_cons, List.length_nil, Nat.reduceAdd, Nat.reduceSub, List.cons_append, List.nil_append])
    (repeat' (first | (simp -implicitDefEqProofs (maxSteps := 1000000) (disch := first | assumption | omega | (simp only [KE, JO, JP, KF]; omega)) only [*, lenV, ty3, ty22, ty24, ty25, ty58, ty109, slot51, Za, Zb, Zc, Zd, Ze, Zf, Zg, Zh, Zi, Zj, and_true, true_and, Ja, Jb, Jc, cond_true, cond_false, Jd, Je, Jf, Jg, Jh, Ji, Jj, St.put, Jk, Jl, Jm, Jn, Jo, Jp, Jq, Jr, Js, Jt, decide_true, decide_false, Nat.reduceEqDiff, Ju, Jv, Jw, Jx, Jy, rd, TI.kind, Nat.reduceLT, Nat.reduceAdd, and_self, Jz, J0, J1, J2, J3, J4, beq_self_eq_true, J5, J6, J7, J8, J9, JA, JB, Op.operands, JC, JD, JE, JF, JG, JH, JI, JJ, JK, JL, Nat.reduceBEq, JM, JN, JO, JP, JQ, JR, JS, JT, JU, JV, JW, wr, JX, JY, Nat.reduceSub, Nat.reduceMul, JZ, Ka, Kb, Kc, Kd, Ke, Kf, Kg, Kh, Ki, Kj, Kk, Kl, Km, Kn, Ko, Kp, Kq, Kr, Ks, Kt, Ku, Kv, Kw, Kx, Ky, Kz, K0, K1, K2, K3, K4, K5, K6, K7, K8, K9, KA, KC, KD, reduceCtorEq, Int.reduceLT, Int.reduceLE, Int.reduceAdd, Int.reduceSub, Int.reduceNeg, Int.reduceToNat, Int.reduceEq, KE, KF, Nat.reduceLeDiff, KG, KH, KI, or_true, true_or, or_false, false_or]) | ((with_reducible (first | refine Ok.br ?_ ?_ | refine Ok.gd ?_ ?_ | refine Ok.ld ?_ ?_)) <;> (intro g; (try simp only [Zz] at g); (first | (exfalso; omega) | skip)))))
    exact hfin'.out (j, 0) hr'.out (by omega)

theorem reverse_at {H : Heap} {b g n cap z : Nat} {d : Array RP} (hb : b < H.length) (hn : n ≤ d.size) (hl : d.size ≤ 1000000000) {i0 j0 : Nat} (h1 : i0 < j0) (h2 : j0 ≤ n) :
    D X (.fn 52 []) [.sl (.at b g 0) n cap z, .int .i64 i0, .int .i64 j0, fv] (hs H b g d) = some (.tup [], hs H b g (reverseRange d i0 j0)) := by
  refine Ok.eq ?_
  refine Ok.aim fun Q hQ => ?_
  have hQ' := Hid.mk hQ
  clear hQ
  unfold hs at hQ' ⊢
  unfold reverseRange at hQ'
  have e1 : (j0 : Int) - 1 = ((j0 - 1 : Nat) : Int) := by omega
  (refine Ok.body body52 pin52 ?_; simp only [c52, Try.f52, Option.getD_some, nslot52, List.append_nil, List.map, List.replicate, List.length_cons, List.length_nil, Nat.reduceAdd, Nat.reduceSub, List.cons_append, List.nil_append])
  (repeat' (first | (simp -implicitDefEqProofs (maxSteps := 1000000) (disch := first | assumption | omega | (simp only [KE, JO, JP, KF]; omega)) only [*, lenV, ty3, ty22, ty24, ty25, slot52, plan52_3, Za, Zb, Zc, Zd, Ze, Zf, Zg, Zh, Zi, Zj, and_true, true_and, Ja, Jb, Jc, cond_true, cond_false, Jd, Je, Jf, Jg, Jh, Ji, Jj, St.put, Jk, Jl, Jm, Jn, Jo, Jp, Jq, Jr, Js, Jt, decide_true, decide_false, Nat.reduceEqDiff, Ju, Jv, Jw, Jx, Jy, rd, TI.kind, Nat.reduceLT, Nat.reduceAdd, and_self, Jz, J0, J1, J2, J3, J4, beq_self_eq_true, J5, J6, J7, J8, J9, JA, JB, Op.operands, JC, JD, JE, JF, JG, JH, JI, JJ, JK, JL, Nat.reduceBEq, JM, JN, JO, JP, JQ, JR, JS, JT, JU, JV, JW, wr, JX, JY, Nat.reduceSub, Nat.reduceMul, JZ, Ka, Kb, Kc, Kd, Ke, Kf, Kg, Kh, Ki, Kj, Kk, Kl, Km, Kn, Ko, Kp, Kq, Kr, Ks, Kt, Ku, Kv, Kw, Kx, Ky, Kz, K0, K1, K2, K3, K4, K5, K6, K7, K8, K9, KA, KC, KD, reduceCtorEq, Int.reduceLT, Int.reduceLE, Int.reduceAdd, Int.reduceSub, Int.reduceNeg, Int.reduceToNat, Int.reduceEq, KE, KF, Nat.reduceLeDiff, KG, KH, KI, or_true, true_or, or_false, false_or]) | ((with_reducible (first | refine Ok.br ?_ ?_ | refine Ok.gd ?_ ?_ | refine Ok.ld ?_ ?_)) <;> (intro g; (try simp only [Zz] at g); (first | (exfalso; omega) | skip)))))
  refine Ok.loop [false, false, false, false, false, false, false, false, true, true, false, false, false, true, true, true, true, true, true, true, true, true, true, true, true, true, true, true, true, true, true, true, true, true] (fun m s2 => ∃ (i j : Nat) (e : Array RP), m = j - i ∧ j < n ∧ tv s2.e 8 = .v (.int .i64 i) ∧ tv s2.e 9 = .v (.int .i64 j) ∧ s2.l = [] ∧ s2.h = H.set b (.cells g true (fl e)) ∧ e.size = d.size ∧ reverseLoop i j e = reverseLoop i0 (j0 - 1) d)
    (fun x s2 => x = .exit 0 ∧ s2.l = [] ∧ s2.h = H.set b (.cells g true (fl (reverseLoop i0 (j0 - 1) d)))) (j0 - 1 - i0) ⟨i0, j0 - 1, d, rfl, by omega, rfl, rfl, rfl, rfl, rfl, rfl⟩ ?_ ?_
  · intro m ⟨e', l', H'⟩ hW ⟨i, j, e, hm, hj, h11, h12, k2, k3, hsz, hre⟩
    dsimp only at hW h11 h12 k2 k3
    subst l' H'
    rw [hW.spread]
    simp only [spread_t, spread_f, spread_n, Nat.zero_add, Nat.reduceAdd, h11, h12]
    clear hW
    have hre' := Hid.mk hre
    clear hre e1
    by_cases hlt : i < j
    · have hlt' : (i : Int) < (j : Int) := by omega
      have e5 : (j : Int) - 1 = ((j - 1 : Nat) : Int) := by omega
      have g3 : 0 ≤ (i : Int) ∧ (i : Int) < (n : Int) := by omega
      have g4 : 0 ≤ (j : Int) ∧ (j : Int) < (n : Int) := by omega
      have g5 : i < e.size := by omega
      have g6 : j < e.size := by omega
      (repeat' (first | (simp -implicitDefEqProofs (maxSteps := 1000000) (disch := first | assumption | omega | (simp only [KE, JO, JP, KF]; omega)) only [*, lenV, fl_len, fl_at, fl_set, fl_set2, swp_eq, eq_self, Array.size_setIfInBounds, pr_eta, ty3, ty22, ty24, ty25, slot52, plan52_3, Za, Zb, Zc, Zd, Ze, Zf, Zg, Zh, Zi, Zj, and_true, true_and, Ja, Jb, Jc, cond_true, cond_false, Jd, Je, Jf, Jg, Jh, Ji, Jj, St.put, Jk, Jl, Jm, Jn, Jo, Jp, Jq, Jr, Js, Jt, decide_true, decide_false, Nat.reduceEqDiff, Ju, Jv, Jw, Jx, Jy, rd, TI.kind, Nat.reduceLT, Nat.reduceAdd, and_self, Jz, J0, J1, J2, J3, J4, beq_self_eq_true, J5, J6, J7, J8, J9, JA, JB, Op.operands, JC, JD, JE, JF, JG, JH, JI, JJ, JK, JL, Nat.reduceBEq, JM, JN, JO, JP, JQ, JR, JS, JT, JU, JV, JW, wr, JX, JY, Nat.reduceSub, Nat.reduceMul, JZ, Ka, Kb, Kc, Kd, Ke, Kf, Kg, Kh, Ki, Kj, Kk, Kl, Km, Kn, Ko, Kp, Kq, Kr, Ks, Kt, Ku, Kv, Kw, Kx, Ky, Kz, K0, K1, K2, K3, K4, K5, K6, K7, K8, K9, KA, KC, KD, reduceCtorEq, Int.reduceLT, Int.reduceLE, Int.reduceAdd, Int.reduceSub, Int.reduceNeg, Int.reduceToNat, Int.reduceEq, KE, KF, Nat.reduceLeDiff, KG, KH, KI, or_true, true_or, or_false, false_or]) | ((with_reducible (first | refine Ok.br ?_ ?_ | refine Ok.gd ?_ ?_ | refine Ok.ld ?_ ?_)) <;> (intro g; (try simp only [Zz] at g); (first | (exfalso; omega) | skip)))))
      refine Turn.next (j - 1 - (i + 1)) (by omega) ⟨rfl, i + 1, j - 1, swp e i j, rfl, by omega, rfl, rfl, rfl, rfl, by rw [swp_size]; exact hsz, ?_⟩
      rw [← hre'.out]
      conv => rhs; rw [reverseLoop, if_pos hlt]
    · have hlt' : ¬ (i : Int) < (j : Int) := by omega
      (repeat' (first | (simp -implicitDefEqProofs (maxSteps := 1000000) (disch := first | assumption | omega | (simp only [KE, JO, JP, KF]; omega)) only [*, lenV, ty3, ty22, ty24, ty25, slot52, plan52_3, Za, Zb, Zc, Zd, Ze, Zf, Zg, Zh, Zi, Zj, and_true, true_and, Ja, Jb, Jc, cond_true, cond_false, Jd, Je, Jf, Jg, Jh, Ji, Jj, St.put, Jk, Jl, Jm, Jn, Jo, Jp, Jq, Jr, Js, Jt, decide_true, decide_false, Nat.reduceEqDiff, Ju, Jv, Jw, Jx, Jy, rd, TI.kind, Nat.reduceLT, Nat.reduceAdd, and_self, Jz, J0, J1, J2, J3, J4, beq_self_eq_true, J5, J6, J7, J8, J9, JA, JB, Op.operands, JC, JD, JE, JF, JG, JH, JI, JJ, JK, JL, Nat.reduceBEq, JM, JN, JO, JP, JQ, JR, JS, JT, JU, JV, JW, wr, JX, JY, Nat.reduceSub, Nat.reduceMul, JZ, Ka, Kb, Kc, Kd, Ke, Kf, Kg, Kh, Ki, Kj, Kk, Kl, Km, Kn, Ko, Kp, Kq, Kr, Ks, Kt, Ku, Kv, Kw, Kx, Ky, Kz, K0, K1, K2, K3, K4, K5, K6, K7, K8, K9, KA, KC, KD, reduceCtorEq, Int.reduceLT, Int.reduceLE, Int.reduceAdd, Int.reduceSub, Int.reduceNeg, Int.reduceToNat, Int.reduceEq, KE, KF, Nat.reduceLeDiff, KG, KH, KI, or_true, true_or, or_false, false_or]) | ((with_reducible (first | refine Ok.br ?_ ?_ | refine Ok.gd ?_ ?_ | refine Ok.ld ?_ ?_)) <;> (intro g; (try simp only [Zz] at g); (first | (exfalso; omega) | skip)))))
      exact Turn.exit ⟨rfl, rfl, rfl, by rw [← hre'.out, reverseLoop, if_neg hlt]⟩
  · intro x ⟨e', l', H'⟩ hW ⟨hx, k2, k3⟩
    dsimp only at hW k2 k3
    subst l' hx H'
    rw [hW.spread]
    clear hW
    simp only [spread_t, spread_f, spread_n, Nat.zero_add, Nat.reduceAdd]
    (repeat' (first | (simp -implicitDefEqProofs (maxSteps := 1000000) (disch := first | assumption | omega | (simp only [KE, JO, JP, KF]; omega)) only [*, ty3, ty22, ty24, ty25, slot52, plan52_3, Za, Zb, Zc, Zd, Ze, Zf, Zg, Zh, Zi, Zj, and_true, true_and, Ja, Jb, Jc, cond_true, cond_false, Jd, Je, Jf, Jg, Jh, Ji, Jj, St.put, Jk, Jl, Jm, Jn, Jo, Jp, Jq, Jr, Js, Jt, decide_true, decide_false, Nat.reduceEqDiff, Ju, Jv, Jw, Jx, Jy, rd, TI.kind, Nat.reduceLT, Nat.reduceAdd, and_self, Jz, J0, J1, J2, J3, J4, beq_self_eq_true, J5, J6, J7, J8, J9, JA, JB, Op.operands, JC, JD, JE, JF, JG, JH, JI, JJ, JK, JL, Nat.reduceBEq, JM, JN, JO, JP, JQ, JR, JS, JT, JU, JV, JW, wr, JX, JY, Nat.reduceSub, Nat.reduceMul, JZ, Ka, Kb, Kc, Kd, Ke, Kf, Kg, Kh, Ki, Kj, Kk, Kl, Km, Kn, Ko, Kp, Kq, Kr, Ks, Kt, Ku, Kv, Kw, Kx, Ky, Kz, K0, K1, K2, K3, K4, K5, K6, K7, K8, K9, KA, KC, KD, reduceCtorEq, Int.reduceLT, Int.reduceLE, Int.reduceAdd, Int.reduceSub, Int.reduceNeg, Int.reduceToNat, Int.reduceEq, KE, KF, Nat.reduceLeDiff, KG, KH, KI, or_true, true_or, or_false, false_or]) | ((with_reducible (first | refine Ok.br ?_ ?_ | refine Ok.gd ?_ ?_ | refine Ok.ld ?_ ?_)) <;> (intro g; (try simp only [Zz] at g); (first | (exfalso; omega) | skip)))))
    exact hQ'.out _ rfl
end Go.Ev
