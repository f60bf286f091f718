/-
Two rows of pairs, one behind the other.
-/
import Derived.Test.YtgkmfoljhapmiaaBun
import Derived.Test.YtgkmfoljhapmiaaGrB
set_option linter.unusedSimpArgs false
set_option linter.unusedVariables false
set_option maxRecDepth 100000
namespace Go.Ev
open Int renaming le_refl → Ja, toNat_natCast → Kz
open Go.Ev renaming wantedT → Jb, exPure → Jd, opd → Je, getT → Jf, constT → Jg, ofValue → Jh, cellsV → Ji, newVar → Jj, setT → Jk, posT → Jl, fieldAddrV → Ju, fieldOff → Jv, load → Jw, store → Jx, lcells → Jy, binOp → Jz, intOp → J0, leadsT → J5, again → J6, rdV → J7, vsame → J8, vsames → J9, makeSliceV → JF, buildV → JG, fillV → JH, splice → JI, results → JU, resV → JV, isCell → JW, nilCheckV → JY, allV → Ke, builtinV → Kf, lenV → Kg, indexAddrV → Kh, unOp → Ki, minmaxV → Kj, minmax → Kk, sliceV → Kl, bound → Km, asInt → Kn, idx → Ko, idxLe → Kp, appendV → Kq, copyV → Kr, clearV → Ks, convV → Kt, putBlk → Ku, sliceCells → Kv, newBlk → Kw, buildSliceV → Kx, shift → Ky
open Bool renaming not_not → Jc, not_true → J1, not_false → J2, true_beq → J3, false_beq → J4, and_true → JA, true_and → JB, or_false → K4, or_true → K5, true_or → K6, false_or → K7, and_false → K8, false_and → K9
open Option renaming bind_some → Jm, isSome_none → K0, isNone_none → K1, isSome_some → K2, isNone_some → K3
open List renaming getD_cons_zero → Jn, getD_cons_succ → Jo, set_cons_zero → Jp, set_cons_succ → Jq, getElem?_cons_zero → Jr, getElem?_cons_succ → Js, getElem?_nil → Jt, elem_cons → JC, elem_nil → JD, toList_toArray → JE, zip → JJ, map_cons → JK, map_nil → JL, all_cons → JM, all_nil → JN, length_cons → JO, length_nil → JP, take → JQ, drop → JR, cons_append → JS, nil_append → JT, set → JX, append_nil → Kd, append_assoc → KD, length_append → KE, length_set → KF, replicate_zero → KG, flatten_nil → KH, set_set → KI
open Nat renaming mul_one → JZ, zero_add → Ka, add_zero → Kb, le_refl → Kc, add_sub_cancel_left → KA, sub_self → KC
open Go.Proofs Go.Sort

theorem flL_ext : ∀ (l : List RP) (c : List V), c.length = l.length * 2 → (∀ (i : Nat) (x : RP), l[i]? = some x → (c.drop (i * 2)).take 2 = [.int .i64 x.1, .int .i64 x.2]) → c = flL l
  | [], c, h, _ => by simpa [flL] using h
  | y :: l, c, h, k => by
    have h0 := k 0 y rfl
    match c, h with
    | [], h => simp at h
    | [a], h => simp at h; omega
    | a :: b :: c, h =>
      simp at h0
      rw [h0.1, h0.2, flL]
      congr 2
      refine flL_ext l c (by simp at h; omega) fun i x hx => ?_
      have := k (i + 1) x hx
      rw [show (i + 1) * 2 = i * 2 + 1 + 1 by omega] at this
      simpa using this

/-- The cells of a row that is not empty. -/
theorem RowAt.full {h : Heap} {v : V} {l : List RP} (hr : RowAt h v l) (hl : ¬ l.length = 0) : ∃ b g o cap z rw full, v = .sl (.at b g o) l.length cap z ∧ hcells h b g = some (rw, full) ∧ (full.drop o).take (l.length * 2) = flL l ∧ o + l.length * 2 ≤ full.length := by
  obtain ⟨a, cap, z, rfl, h1, h1', h2⟩ := hr
  rcases h2 with rfl | ⟨b, g, o, rw, full, rfl, hb, hfull, ho⟩
  · exact absurd rfl hl
  · refine ⟨b, g, o, cap, z, rw, full, rfl, hb, ?_, ho⟩
    refine flL_ext l _ (by rw [List.length_take, List.length_drop]; omega) fun i x hx => ?_
    have hi := (List.getElem?_eq_some_iff.1 hx).1
    rw [List.drop_take, List.take_take, List.drop_drop, Nat.min_eq_left (by omega)]
    exact hfull i x hx
theorem RowAt.none {h : Heap} {v : V} (hr : RowAt h v []) : ∃ a cap z, v = .sl a 0 cap z := by
  obtain ⟨a, cap, z, rfl, _⟩ := hr
  exact ⟨a, cap, z, rfl⟩

theorem zeros_fl (n : Nat) : ∃ d : Array RP, d.size = n ∧ reps n [V.int .i64 0, V.int .i64 0] = fl d := by
  refine ⟨(List.replicate n (0, 0)).toArray, by simp, ?_⟩
  unfold reps fl
  simp only
  induction n with
  | zero => rfl
  | succ n ih => rw [List.replicate_succ, List.replicate_succ, flL, List.flatten_cons, ih]; rfl

theorem grow_0 (h : Heap) : D X (.fn 42 []) [.sl .nil 0 0 0, .int .i64 0] h = some (.sl .nil 0 0 0, h) := by
  refine Ok.eq ?_
  (refine Ok.body body42 pin42 ?_; simp only [c42, Try.f42, Option.getD_some, nslot42, List.append_nil, List.map, List.replicate, List.length_cons, List.length_nil, Nat.reduceAdd, Nat.reduceSub, List.cons_append, List.nil_append])
  (repeat' (first | (simp -implicitDefEqProofs (maxSteps := 1000000) (disch := first | assumption | omega | (simp only [KE, JO, JP, KF]; omega)) only [*, lenV, capV, ty3, ty22, ty24, ty25, slot42, Za, Zb, Zc, Zd, Ze, Zf, Zg, Zh, Zi, Zj, and_true, true_and, Ja, Jb, Jc, cond_true, cond_false, Jd, Je, Jf, Jg, Jh, Ji, Jj, St.put, Jk, Jl, Jm, Jn, Jo, Jp, Jq, Jr, Js, Jt, decide_true, decide_false, Nat.reduceEqDiff, Ju, Jv, Jw, Jx, Jy, rd, TI.kind, Nat.reduceLT, Nat.reduceAdd, and_self, Jz, J0, J1, J2, J3, J4, beq_self_eq_true, J5, J6, J7, J8, J9, JA, JB, Op.operands, JC, JD, JE, JF, JG, JH, JI, JJ, JK, JL, Nat.reduceBEq, JM, JN, JO, JP, JQ, JR, JS, JT, JU, JV, JW, wr, JX, JY, Nat.reduceSub, Nat.reduceMul, JZ, Ka, Kb, Kc, Kd, Ke, Kf, Kg, Kh, Ki, Kj, Kk, Kl, Km, Kn, Ko, Kp, Kq, Kr, Ks, Kt, Ku, Kv, Kw, Kx, Ky, Kz, K0, K1, K2, K3, K4, K5, K6, K7, K8, K9, KA, KC, KD, reduceCtorEq, Int.reduceLT, Int.reduceLE, Int.reduceAdd, Int.reduceSub, Int.reduceNeg, Int.reduceToNat, Int.reduceEq, KE, KF, Nat.reduceLeDiff, KG, KH, KI, or_true, true_or, or_false, false_or]) | ((with_reducible (first | refine Ok.br ?_ ?_ | refine Ok.gd ?_ ?_ | refine Ok.ld ?_ ?_)) <;> (intro g; (try simp only [Zz] at g); (first | (exfalso; omega) | skip)))))

theorem grow_n {n : Nat} (h0 : 0 < n) (h1 : n ≤ 1000) (h : Heap) : D X (.fn 42 []) [.sl .nil 0 0 0, .int .i64 n] h = some (.sl (.at h.length 0 0) 0 n 2, h ++ [.cells 0 true (reps n [V.int .i64 0, V.int .i64 0])]) := by
  refine Ok.eq ?_
  have h0' : 0 < (n : Int) := by omega
  have h2 : (n : Int) * 16 ≤ 35184372088832 ∧ (n : Int) ≤ 35184372088832 := by omega
  (refine Ok.body body42 pin42 ?_; simp only [c42, Try.f42, Option.getD_some, nslot42, List.append_nil, List.map, List.replicate, List.length_cons, List.length_nil, Nat.reduceAdd, Nat.reduceSub, List.cons_append, List.nil_append])
  (repeat' (first | (simp -implicitDefEqProofs (maxSteps := 1000000) (disch := first | assumption | omega | (simp only [KE, JO, JP, KF]; omega)) only [*, lenV, capV, appendZ, newBlk, Int.sub_zero, Int.toNat_natCast, ty3, ty22, ty24, ty25, slot42, Za, Zb, Zc, Zd, Ze, Zf, Zg, Zh, Zi, Zj, and_true, true_and, Ja, Jb, Jc, cond_true, cond_false, Jd, Je, Jf, Jg, Jh, Ji, Jj, St.put, Jk, Jl, Jm, Jn, Jo, Jp, Jq, Jr, Js, Jt, decide_true, decide_false, Nat.reduceEqDiff, Ju, Jv, Jw, Jx, Jy, rd, TI.kind, Nat.reduceLT, Nat.reduceAdd, and_self, Jz, J0, J1, J2, J3, J4, beq_self_eq_true, J5, J6, J7, J8, J9, JA, JB, Op.operands, JC, JD, JE, JF, JG, JH, JI, JJ, JK, JL, Nat.reduceBEq, JM, JN, JO, JP, JQ, JR, JS, JT, JU, JV, JW, wr, JX, JY, Nat.reduceSub, Nat.reduceMul, JZ, Ka, Kb, Kc, Kd, Ke, Kf, Kg, Kh, Ki, Kj, Kk, Kl, Km, Kn, Ko, Kp, Kq, Kr, Ks, Kt, Ku, Kv, Kw, Kx, Ky, Kz, K0, K1, K2, K3, K4, K5, K6, K7, K8, K9, KA, KC, KD, reduceCtorEq, Int.reduceLT, Int.reduceLE, Int.reduceAdd, Int.reduceSub, Int.reduceNeg, Int.reduceToNat, Int.reduceEq, KE, KF, Nat.reduceLeDiff, KG, KH, KI, or_true, true_or, or_false, false_or]) | ((with_reducible (first | refine Ok.br ?_ ?_ | refine Ok.gd ?_ ?_ | refine Ok.ld ?_ ?_)) <;> (intro g; (try simp only [Zz] at g); (first | (exfalso; omega) | skip)))))

set_option maxHeartbeats 2000000 in
theorem concat_at {G : Heap} {B : Nat} {rw : Bool} {v0 v1 : V} {L M : List RP} (hB : hcells G B 0 = some (rw, [v0, v1])) (r0 : RowAt G v0 L) (r1 : RowAt G v1 M) (h0 : L.length ≤ 100) (h1 : M.length ≤ 100) :
    Ev.Ok (D X (.fn 27 []) [.sl (.at B 0 0) 2 2 0] G) fun y => ∃ w g, y = (w, g) ∧ Ext G g ∧ Gro G g w (L ++ M) := by
  refine Ok.aim fun Q hQ => ?_
  have hQ' := Hid.mk hQ
  clear hQ
  have hBl := hcells_lt hB
  have hz : ((0 : Nat) : Int) = 0 := rfl
  by_cases hL0 : L.length = 0
  · obtain rfl : L = [] := List.length_eq_zero_iff.1 hL0
    obtain ⟨a0, c0, z0, rfl⟩ := r0.none
    simp only [List.nil_append] at hQ'
    clear r0
    by_cases hM0 : M.length = 0
    · obtain rfl : M = [] := List.length_eq_zero_iff.1 hM0
      obtain ⟨a1, c1, z1, rfl⟩ := r1.none
      clear r1
      have hg := grow_0 G
      cases a0 <;> cases a1
      all_goals
        (refine Ok.body body27 pin27 ?_; simp only [c27, Try.f27, Option.getD_some, nslot27, List.append_nil, List.map, List.replicate, List.length_cons, List.length_nil, Nat.reduceAdd, Nat.reduceSub, List.cons_append, List.nil_append])
        (repeat' (first | (simp -implicitDefEqProofs (maxSteps := 1000000) (disch := first | assumption | omega | (simp only [KE, JO, JP, KF]; omega)) only [*, lenV, List.length_nil, ty3, ty22, ty24, ty25, ty50, slot27, Za, Zb, Zc, Zd, Ze, Zf, Zg, Zh, Zi, Zj, and_true, true_and, Ja, Jb, Jc, cond_true, cond_false, Jd, Je, Jf, Jg, Jh, Ji, Jj, St.put, Jk, Jl, Jm, Jn, Jo, Jp, Jq, Jr, Js, Jt, decide_true, decide_false, Nat.reduceEqDiff, Ju, Jv, Jw, Jx, Jy, rd, TI.kind, Nat.reduceLT, Nat.reduceAdd, and_self, Jz, J0, J1, J2, J3, J4, beq_self_eq_true, J5, J6, J7, J8, J9, JA, JB, Op.operands, JC, JD, JE, JF, JG, JH, JI, JJ, JK, JL, Nat.reduceBEq, JM, JN, JO, JP, JQ, JR, JS, JT, JU, JV, JW, wr, JX, JY, Nat.reduceSub, Nat.reduceMul, JZ, Ka, Kb, Kc, Kd, Ke, Kf, Kg, Kh, Ki, Kj, Kk, Kl, Km, Kn, Ko, Kp, Kq, Kr, Ks, Kt, Ku, Kv, Kw, Kx, Ky, Kz, K0, K1, K2, K3, K4, K5, K6, K7, K8, K9, KA, KC, KD, reduceCtorEq, Int.reduceLT, Int.reduceLE, Int.reduceAdd, Int.reduceSub, Int.reduceNeg, Int.reduceToNat, Int.reduceEq, KE, KF, Nat.reduceLeDiff, KG, KH, KI, or_true, true_or, or_false, false_or]) | ((with_reducible (first | refine Ok.br ?_ ?_ | refine Ok.gd ?_ ?_ | refine Ok.ld ?_ ?_)) <;> (intro g; (try simp only [Zz] at g); (first | (exfalso; omega) | skip)))))
        repeat (refine Ok.unroll ?_; (repeat' (first | (simp -implicitDefEqProofs (maxSteps := 1000000) (disch := first | assumption | omega | (simp only [KE, JO, JP, KF]; omega)) only [*, lenV, List.length_nil, Int.zero_add, Int.add_zero, ty3, ty22, ty24, ty25, ty50, slot27, Za, Zb, Zc, Zd, Ze, Zf, Zg, Zh, Zi, Zj, and_true, true_and, Ja, Jb, Jc, cond_true, cond_false, Jd, Je, Jf, Jg, Jh, Ji, Jj, St.put, Jk, Jl, Jm, Jn, Jo, Jp, Jq, Jr, Js, Jt, decide_true, decide_false, Nat.reduceEqDiff, Ju, Jv, Jw, Jx, Jy, rd, TI.kind, Nat.reduceLT, Nat.reduceAdd, and_self, Jz, J0, J1, J2, J3, J4, beq_self_eq_true, J5, J6, J7, J8, J9, JA, JB, Op.operands, JC, JD, JE, JF, JG, JH, JI, JJ, JK, JL, Nat.reduceBEq, JM, JN, JO, JP, JQ, JR, JS, JT, JU, JV, JW, wr, JX, JY, Nat.reduceSub, Nat.reduceMul, JZ, Ka, Kb, Kc, Kd, Ke, Kf, Kg, Kh, Ki, Kj, Kk, Kl, Km, Kn, Ko, Kp, Kq, Kr, Ks, Kt, Ku, Kv, Kw, Kx, Ky, Kz, K0, K1, K2, K3, K4, K5, K6, K7, K8, K9, KA, KC, KD, reduceCtorEq, Int.reduceLT, Int.reduceLE, Int.reduceAdd, Int.reduceSub, Int.reduceNeg, Int.reduceToNat, Int.reduceEq, KE, KF, Nat.reduceLeDiff, KG, KH, KI, or_true, true_or, or_false, false_or]) | ((with_reducible (first | refine Ok.br ?_ ?_ | refine Ok.gd ?_ ?_ | refine Ok.ld ?_ ?_)) <;> (intro g; (try simp only [Zz] at g); (first | (exfalso; omega) | skip))))))
        exact hQ'.out _ ⟨_, _, rfl, .refl _, .inl ⟨rfl, rfl⟩⟩
    · obtain ⟨b1, g1, o1, c1, z1, rw1, full1, rfl, hb1, hc1, ho1⟩ := r1.full hM0
      have hbl1 := hcells_lt hb1
      have hg := grow_n (n := M.length) (by omega) (by omega) G
      obtain ⟨d, hd1, hd2⟩ := zeros_fl M.length
      rw [hd2] at hg
      clear hd2 r1
      have hdr : List.drop (M.length * 2) (fl d) = [] := List.drop_eq_nil_of_le (by rw [fl_len]; omega)
      cases a0
      all_goals
        (refine Ok.body body27 pin27 ?_; simp only [c27, Try.f27, Option.getD_some, nslot27, List.append_nil, List.map, List.replicate, List.length_cons, List.length_nil, Nat.reduceAdd, Nat.reduceSub, List.cons_append, List.nil_append])
        (repeat' (first | (simp -implicitDefEqProofs (maxSteps := 1000000) (disch := first | assumption | omega | (simp only [KE, JO, JP, KF]; omega)) only [*, lenV, List.length_nil, ty3, ty22, ty24, ty25, ty50, slot27, Za, Zb, Zc, Zd, Ze, Zf, Zg, Zh, Zi, Zj, and_true, true_and, Ja, Jb, Jc, cond_true, cond_false, Jd, Je, Jf, Jg, Jh, Ji, Jj, St.put, Jk, Jl, Jm, Jn, Jo, Jp, Jq, Jr, Js, Jt, decide_true, decide_false, Nat.reduceEqDiff, Ju, Jv, Jw, Jx, Jy, rd, TI.kind, Nat.reduceLT, Nat.reduceAdd, and_self, Jz, J0, J1, J2, J3, J4, beq_self_eq_true, J5, J6, J7, J8, J9, JA, JB, Op.operands, JC, JD, JE, JF, JG, JH, JI, JJ, JK, JL, Nat.reduceBEq, JM, JN, JO, JP, JQ, JR, JS, JT, JU, JV, JW, wr, JX, JY, Nat.reduceSub, Nat.reduceMul, JZ, Ka, Kb, Kc, Kd, Ke, Kf, Kg, Kh, Ki, Kj, Kk, Kl, Km, Kn, Ko, Kp, Kq, Kr, Ks, Kt, Ku, Kv, Kw, Kx, Ky, Kz, K0, K1, K2, K3, K4, K5, K6, K7, K8, K9, KA, KC, KD, reduceCtorEq, Int.reduceLT, Int.reduceLE, Int.reduceAdd, Int.reduceSub, Int.reduceNeg, Int.reduceToNat, Int.reduceEq, KE, KF, Nat.reduceLeDiff, KG, KH, KI, or_true, true_or, or_false, false_or]) | ((with_reducible (first | refine Ok.br ?_ ?_ | refine Ok.gd ?_ ?_ | refine Ok.ld ?_ ?_)) <;> (intro g; (try simp only [Zz] at g); (first | (exfalso; omega) | skip)))))
        repeat (refine Ok.unroll ?_; (repeat' (first | (simp -implicitDefEqProofs (maxSteps := 1000000) (disch := first | assumption | omega | (simp only [KE, JO, JP, KF]; omega)) only [*, lenV, List.length_nil, Int.zero_add, Int.add_zero, flL_len, fl_len, ty3, ty22, ty24, ty25, ty50, slot27, Za, Zb, Zc, Zd, Ze, Zf, Zg, Zh, Zi, Zj, and_true, true_and, Ja, Jb, Jc, cond_true, cond_false, Jd, Je, Jf, Jg, Jh, Ji, Jj, St.put, Jk, Jl, Jm, Jn, Jo, Jp, Jq, Jr, Js, Jt, decide_true, decide_false, Nat.reduceEqDiff, Ju, Jv, Jw, Jx, Jy, rd, TI.kind, Nat.reduceLT, Nat.reduceAdd, and_self, Jz, J0, J1, J2, J3, J4, beq_self_eq_true, J5, J6, J7, J8, J9, JA, JB, Op.operands, JC, JD, JE, JF, JG, JH, JI, JJ, JK, JL, Nat.reduceBEq, JM, JN, JO, JP, JQ, JR, JS, JT, JU, JV, JW, wr, JX, JY, Nat.reduceSub, Nat.reduceMul, JZ, Ka, Kb, Kc, Kd, Ke, Kf, Kg, Kh, Ki, Kj, Kk, Kl, Km, Kn, Ko, Kp, Kq, Kr, Ks, Kt, Ku, Kv, Kw, Kx, Ky, Kz, K0, K1, K2, K3, K4, K5, K6, K7, K8, K9, KA, KC, KD, reduceCtorEq, Int.reduceLT, Int.reduceLE, Int.reduceAdd, Int.reduceSub, Int.reduceNeg, Int.reduceToNat, Int.reduceEq, KE, KF, Nat.reduceLeDiff, KG, KH, KI, or_true, true_or, or_false, false_or]) | ((with_reducible (first | refine Ok.br ?_ ?_ | refine Ok.gd ?_ ?_ | refine Ok.ld ?_ ?_)) <;> (intro g; (try simp only [Zz] at g); (first | (exfalso; omega) | skip))))))
        exact hQ'.out _ ⟨_, _, rfl, ⟨_, rfl⟩, .inr ⟨_, _, rfl, Nat.le_refl _, hcells_new⟩⟩
  · obtain ⟨b0, g0, o0, c0, z0, rw0, full0, rfl, hb0, hc0, ho0⟩ := r0.full hL0
    have hbl0 := hcells_lt hb0
    clear r0
    by_cases hM0 : M.length = 0
    · obtain rfl : M = [] := List.length_eq_zero_iff.1 hM0
      obtain ⟨a1, c1, z1, rfl⟩ := r1.none
      clear r1
      simp only [List.append_nil] at hQ'
      have hg := grow_n (n := L.length) (by omega) (by omega) G
      obtain ⟨d, hd1, hd2⟩ := zeros_fl L.length
      rw [hd2] at hg
      clear hd2
      have hdr : List.drop (L.length * 2) (fl d) = [] := List.drop_eq_nil_of_le (by rw [fl_len]; omega)
      cases a1
      all_goals
        (refine Ok.body body27 pin27 ?_; simp only [c27, Try.f27, Option.getD_some, nslot27, List.append_nil, List.map, List.replicate, List.length_cons, List.length_nil, Nat.reduceAdd, Nat.reduceSub, List.cons_append, List.nil_append])
        (repeat' (first | (simp -implicitDefEqProofs (maxSteps := 1000000) (disch := first | assumption | omega | (simp only [KE, JO, JP, KF]; omega)) only [*, lenV, List.length_nil, ty3, ty22, ty24, ty25, ty50, slot27, Za, Zb, Zc, Zd, Ze, Zf, Zg, Zh, Zi, Zj, and_true, true_and, Ja, Jb, Jc, cond_true, cond_false, Jd, Je, Jf, Jg, Jh, Ji, Jj, St.put, Jk, Jl, Jm, Jn, Jo, Jp, Jq, Jr, Js, Jt, decide_true, decide_false, Nat.reduceEqDiff, Ju, Jv, Jw, Jx, Jy, rd, TI.kind, Nat.reduceLT, Nat.reduceAdd, and_self, Jz, J0, J1, J2, J3, J4, beq_self_eq_true, J5, J6, J7, J8, J9, JA, JB, Op.operands, JC, JD, JE, JF, JG, JH, JI, JJ, JK, JL, Nat.reduceBEq, JM, JN, JO, JP, JQ, JR, JS, JT, JU, JV, JW, wr, JX, JY, Nat.reduceSub, Nat.reduceMul, JZ, Ka, Kb, Kc, Kd, Ke, Kf, Kg, Kh, Ki, Kj, Kk, Kl, Km, Kn, Ko, Kp, Kq, Kr, Ks, Kt, Ku, Kv, Kw, Kx, Ky, Kz, K0, K1, K2, K3, K4, K5, K6, K7, K8, K9, KA, KC, KD, reduceCtorEq, Int.reduceLT, Int.reduceLE, Int.reduceAdd, Int.reduceSub, Int.reduceNeg, Int.reduceToNat, Int.reduceEq, KE, KF, Nat.reduceLeDiff, KG, KH, KI, or_true, true_or, or_false, false_or]) | ((with_reducible (first | refine Ok.br ?_ ?_ | refine Ok.gd ?_ ?_ | refine Ok.ld ?_ ?_)) <;> (intro g; (try simp only [Zz] at g); (first | (exfalso; omega) | skip)))))
        repeat (refine Ok.unroll ?_; (repeat' (first | (simp -implicitDefEqProofs (maxSteps := 1000000) (disch := first | assumption | omega | (simp only [KE, JO, JP, KF]; omega)) only [*, lenV, List.length_nil, Int.zero_add, Int.add_zero, flL_len, fl_len, ty3, ty22, ty24, ty25, ty50, slot27, Za, Zb, Zc, Zd, Ze, Zf, Zg, Zh, Zi, Zj, and_true, true_and, Ja, Jb, Jc, cond_true, cond_false, Jd, Je, Jf, Jg, Jh, Ji, Jj, St.put, Jk, Jl, Jm, Jn, Jo, Jp, Jq, Jr, Js, Jt, decide_true, decide_false, Nat.reduceEqDiff, Ju, Jv, Jw, Jx, Jy, rd, TI.kind, Nat.reduceLT, Nat.reduceAdd, and_self, Jz, J0, J1, J2, J3, J4, beq_self_eq_true, J5, J6, J7, J8, J9, JA, JB, Op.operands, JC, JD, JE, JF, JG, JH, JI, JJ, JK, JL, Nat.reduceBEq, JM, JN, JO, JP, JQ, JR, JS, JT, JU, JV, JW, wr, JX, JY, Nat.reduceSub, Nat.reduceMul, JZ, Ka, Kb, Kc, Kd, Ke, Kf, Kg, Kh, Ki, Kj, Kk, Kl, Km, Kn, Ko, Kp, Kq, Kr, Ks, Kt, Ku, Kv, Kw, Kx, Ky, Kz, K0, K1, K2, K3, K4, K5, K6, K7, K8, K9, KA, KC, KD, reduceCtorEq, Int.reduceLT, Int.reduceLE, Int.reduceAdd, Int.reduceSub, Int.reduceNeg, Int.reduceToNat, Int.reduceEq, KE, KF, Nat.reduceLeDiff, KG, KH, KI, or_true, true_or, or_false, false_or]) | ((with_reducible (first | refine Ok.br ?_ ?_ | refine Ok.gd ?_ ?_ | refine Ok.ld ?_ ?_)) <;> (intro g; (try simp only [Zz] at g); (first | (exfalso; omega) | skip))))))
        exact hQ'.out _ ⟨_, _, rfl, ⟨_, rfl⟩, .inr ⟨_, _, rfl, Nat.le_refl _, hcells_new⟩⟩
    · obtain ⟨b1, g1, o1, c1, z1, rw1, full1, rfl, hb1, hc1, ho1⟩ := r1.full hM0
      have hbl1 := hcells_lt hb1
      obtain ⟨n, hnn⟩ : ∃ n, L.length + M.length = n := ⟨_, rfl⟩
      have hg := grow_n (n := n) (by omega) (by omega) G
      obtain ⟨d, hd1, hd2⟩ := zeros_fl n
      rw [hd2] at hg
      clear hd2 r1
      have e1 : (L.length : Int) + (M.length : Int) = (n : Int) := by omega
      have hln : L.length ≤ n := by omega
      have hln2 : L.length + M.length ≤ n := by omega
      have hdl : (List.drop (L.length * 2) (fl d)).length = M.length * 2 := by rw [List.length_drop, fl_len]; omega
      have hct : List.take (L.length * 2) (flL L ++ List.drop (L.length * 2) (fl d)) = flL L := List.take_left' (flL_len L)
      have hct2 : List.drop (L.length * 2 + M.length * 2) (flL L ++ List.drop (L.length * 2) (fl d)) = [] := List.drop_eq_nil_of_le (by rw [List.length_append, hdl, flL_len]; omega)
      (refine Ok.body body27 pin27 ?_; simp only [c27, Try.f27, Option.getD_some, nslot27, List.append_nil, List.map, List.replicate, List.length_cons, List.length_nil, Nat.reduceAdd, Nat.reduceSub, List.cons_append, List.nil_append])
      (repeat' (first | (simp -implicitDefEqProofs (maxSteps := 1000000) (disch := first | assumption | omega | (simp only [KE, JO, JP, KF]; omega)) only [*, lenV, List.length_nil, ty3, ty22, ty24, ty25, ty50, slot27, Za, Zb, Zc, Zd, Ze, Zf, Zg, Zh, Zi, Zj, and_true, true_and, Ja, Jb, Jc, cond_true, cond_false, Jd, Je, Jf, Jg, Jh, Ji, Jj, St.put, Jk, Jl, Jm, Jn, Jo, Jp, Jq, Jr, Js, Jt, decide_true, decide_false, Nat.reduceEqDiff, Ju, Jv, Jw, Jx, Jy, rd, TI.kind, Nat.reduceLT, Nat.reduceAdd, and_self, Jz, J0, J1, J2, J3, J4, beq_self_eq_true, J5, J6, J7, J8, J9, JA, JB, Op.operands, JC, JD, JE, JF, JG, JH, JI, JJ, JK, JL, Nat.reduceBEq, JM, JN, JO, JP, JQ, JR, JS, JT, JU, JV, JW, wr, JX, JY, Nat.reduceSub, Nat.reduceMul, JZ, Ka, Kb, Kc, Kd, Ke, Kf, Kg, Kh, Ki, Kj, Kk, Kl, Km, Kn, Ko, Kp, Kq, Kr, Ks, Kt, Ku, Kv, Kw, Kx, Ky, Kz, K0, K1, K2, K3, K4, K5, K6, K7, K8, K9, KA, KC, KD, reduceCtorEq, Int.reduceLT, Int.reduceLE, Int.reduceAdd, Int.reduceSub, Int.reduceNeg, Int.reduceToNat, Int.reduceEq, KE, KF, Nat.reduceLeDiff, KG, KH, KI, or_true, true_or, or_false, false_or]) | ((with_reducible (first | refine Ok.br ?_ ?_ | refine Ok.gd ?_ ?_ | refine Ok.ld ?_ ?_)) <;> (intro g; (try simp only [Zz] at g); (first | (exfalso; omega) | skip)))))
      repeat (refine Ok.unroll ?_; (repeat' (first | (simp -implicitDefEqProofs (maxSteps := 1000000) (disch := first | assumption | omega | (simp only [KE, JO, JP, KF]; omega)) only [*, lenV, List.length_nil, Int.zero_add, Int.add_zero, flL_len, fl_len, ty3, ty22, ty24, ty25, ty50, slot27, Za, Zb, Zc, Zd, Ze, Zf, Zg, Zh, Zi, Zj, and_true, true_and, Ja, Jb, Jc, cond_true, cond_false, Jd, Je, Jf, Jg, Jh, Ji, Jj, St.put, Jk, Jl, Jm, Jn, Jo, Jp, Jq, Jr, Js, Jt, decide_true, decide_false, Nat.reduceEqDiff, Ju, Jv, Jw, Jx, Jy, rd, TI.kind, Nat.reduceLT, Nat.reduceAdd, and_self, Jz, J0, J1, J2, J3, J4, beq_self_eq_true, J5, J6, J7, J8, J9, JA, JB, Op.operands, JC, JD, JE, JF, JG, JH, JI, JJ, JK, JL, Nat.reduceBEq, JM, JN, JO, JP, JQ, JR, JS, JT, JU, JV, JW, wr, JX, JY, Nat.reduceSub, Nat.reduceMul, JZ, Ka, Kb, Kc, Kd, Ke, Kf, Kg, Kh, Ki, Kj, Kk, Kl, Km, Kn, Ko, Kp, Kq, Kr, Ks, Kt, Ku, Kv, Kw, Kx, Ky, Kz, K0, K1, K2, K3, K4, K5, K6, K7, K8, K9, KA, KC, KD, reduceCtorEq, Int.reduceLT, Int.reduceLE, Int.reduceAdd, Int.reduceSub, Int.reduceNeg, Int.reduceToNat, Int.reduceEq, KE, KF, Nat.reduceLeDiff, KG, KH, KI, or_true, true_or, or_false, false_or]) | ((with_reducible (first | refine Ok.br ?_ ?_ | refine Ok.gd ?_ ?_ | refine Ok.ld ?_ ?_)) <;> (intro g; (try simp only [Zz] at g); (first | (exfalso; omega) | skip))))))
      refine hQ'.out _ ⟨_, _, rfl, ⟨_, rfl⟩, .inr ⟨_, _, ?_, Nat.le_refl _, by rw [flL_app]; exact hcells_new⟩⟩
      rw [List.length_append, hnn]
end Go.Ev
