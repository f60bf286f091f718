/-
Sorting pairs of numbers: breaking patterns.
-/
import Derived.Test.YtgkmfoljhapmiaaBun
import Derived.Test.YtgkmfoljhapmiaaSortE
import Derived.Test.YtgkmfoljhapmiaaLen
set_option linter.unusedSimpArgs false
set_option linter.unusedVariables false
set_option maxRecDepth 100000
namespace Go.Ev
open Int renaming le_refl → Ja, toNat_natCast → Kz
open Go.Ev renaming wantedT → Jb, exPure → Jd, opd → Je, getT → Jf, constT → Jg, ofValue → Jh, cellsV → Ji, newVar → Jj, setT → Jk, posT → Jl, fieldAddrV → Ju, fieldOff → Jv, load → Jw, store → Jx, lcells → Jy, binOp → Jz, intOp → J0, leadsT → J5, again → J6, rdV → J7, vsame → J8, vsames → J9, makeSliceV → JF, buildV → JG, fillV → JH, splice → JI, results → JU, resV → JV, isCell → JW, nilCheckV → JY, allV → Ke, builtinV → Kf, lenV → Kg, indexAddrV → Kh, unOp → Ki, minmaxV → Kj, minmax → Kk, sliceV → Kl, bound → Km, asInt → Kn, idx → Ko, idxLe → Kp, appendV → Kq, copyV → Kr, clearV → Ks, convV → Kt, putBlk → Ku, sliceCells → Kv, newBlk → Kw, buildSliceV → Kx, shift → Ky
open Bool renaming not_not → Jc, not_true → J1, not_false → J2, true_beq → J3, false_beq → J4, and_true → JA, true_and → JB, or_false → K4, or_true → K5, true_or → K6, false_or → K7, and_false → K8, false_and → K9
open Option renaming bind_some → Jm, isSome_none → K0, isNone_none → K1, isSome_some → K2, isNone_some → K3
open List renaming getD_cons_zero → Jn, getD_cons_succ → Jo, set_cons_zero → Jp, set_cons_succ → Jq, getElem?_cons_zero → Jr, getElem?_cons_succ → Js, getElem?_nil → Jt, elem_cons → JC, elem_nil → JD, toList_toArray → JE, zip → JJ, map_cons → JK, map_nil → JL, all_cons → JM, all_nil → JN, length_cons → JO, length_nil → JP, take → JQ, drop → JR, cons_append → JS, nil_append → JT, set → JX, append_nil → Kd, append_assoc → KD, length_append → KE, length_set → KF, replicate_zero → KG, flatten_nil → KH, set_set → KI
open Nat renaming mul_one → JZ, zero_add → Ka, add_zero → Kb, le_refl → Kc, add_sub_cancel_left → KA, sub_self → KC
open Go.Proofs Go.Sort
variable {fv : V} {lt : RP → RP → Bool}

theorem next_at {G : Heap} {q : Nat} {r : Int} (hq : hcells G q 0 = some (true, [.int .u64 r])) :
    Ev.Ok (D X (.fn 64 []) [.ptr q 0 0] G) fun y => ∃ r2 : Int, y = (.int .u64 r2, G.set q (.cells 0 true [.int .u64 r2])) := by
  refine Ok.aim fun Q hQ => ?_
  have hQ' := Hid.mk hQ
  clear hQ
  have hql := hcells_lt hq
  (refine Ok.body body64 pin64 ?_; simp only [c64, Try.f64, Option.getD_some, nslot64, List.append_nil, List.map, List.replicate, List.length_cons, List.length_nil, Nat.reduceAdd, Nat.reduceSub, List.cons_append, List.nil_append])
  (repeat' (first | (simp -implicitDefEqProofs (maxSteps := 1000000) (disch := first | assumption | omega | (simp only [KE, JO, JP, KF]; omega)) only [*, lenV, ty100, ty105, slot64, plan64_1, plan64_2, plan64_3, Za, Zb, Zc, Zd, Ze, Zf, Zg, Zh, Zi, Zj, and_true, true_and, Ja, Jb, Jc, cond_true, cond_false, Jd, Je, Jf, Jg, Jh, Ji, Jj, St.put, Jk, Jl, Jm, Jn, Jo, Jp, Jq, Jr, Js, Jt, decide_true, decide_false, Nat.reduceEqDiff, Ju, Jv, Jw, Jx, Jy, rd, TI.kind, Nat.reduceLT, Nat.reduceAdd, and_self, Jz, J0, J1, J2, J3, J4, beq_self_eq_true, J5, J6, J7, J8, J9, JA, JB, Op.operands, JC, JD, JE, JF, JG, JH, JI, JJ, JK, JL, Nat.reduceBEq, JM, JN, JO, JP, JQ, JR, JS, JT, JU, JV, JW, wr, JX, JY, Nat.reduceSub, Nat.reduceMul, JZ, Ka, Kb, Kc, Kd, Ke, Kf, Kg, Kh, Ki, Kj, Kk, Kl, Km, Kn, Ko, Kp, Kq, Kr, Ks, Kt, Ku, Kv, Kw, Kx, Ky, Kz, K0, K1, K2, K3, K4, K5, K6, K7, K8, K9, KA, KC, KD, reduceCtorEq, Int.reduceLT, Int.reduceLE, Int.reduceAdd, Int.reduceSub, Int.reduceNeg, Int.reduceToNat, Int.reduceEq, KE, KF, Nat.reduceLeDiff, KG, KH, KI, or_true, true_or, or_false, false_or]) | ((with_reducible (first | refine Ok.br ?_ ?_ | refine Ok.gd ?_ ?_ | refine Ok.ld ?_ ?_)) <;> (intro g; (try simp only [Zz] at g); (first | (exfalso; omega) | skip)))))
  exact hQ'.out _ ⟨_, rfl⟩

theorem len_at {n : Nat} (h1 : n ≤ 1000000000) (h : Heap) : Ev.Ok (D X (.fn 44 []) [.int .u64 n] h) fun y => ∃ L : Int, y = (.int .i64 L, h) ∧ LenOk n L := by
  refine Ok.aim fun Q hQ => ?_
  have hQ' := Hid.mk hQ
  clear hQ
  (refine Ok.body body44 pin44 ?_; simp only [c44, Try.f44, Option.getD_some, nslot44, List.append_nil, List.map, List.replicate, List.length_cons, List.length_nil, Nat.reduceAdd, Nat.reduceSub, List.cons_append, List.nil_append])
  (repeat' (first | (simp -implicitDefEqProofs (maxSteps := 1000000) (disch := first | assumption | omega | (simp only [KE, JO, JP, KF]; omega)) only [*, lenV, ty54, ty98, ty100, slot44, Za, Zb, Zc, Zd, Ze, Zf, Zg, Zh, Zi, Zj, and_true, true_and, Ja, Jb, Jc, cond_true, cond_false, Jd, Je, Jf, Jg, Jh, Ji, Jj, St.put, Jk, Jl, Jm, Jn, Jo, Jp, Jq, Jr, Js, Jt, decide_true, decide_false, Nat.reduceEqDiff, Ju, Jv, Jw, Jx, Jy, rd, TI.kind, Nat.reduceLT, Nat.reduceAdd, and_self, Jz, J0, J1, J2, J3, J4, beq_self_eq_true, J5, J6, J7, J8, J9, JA, JB, Op.operands, JC, JD, JE, JF, JG, JH, JI, JJ, JK, JL, Nat.reduceBEq, JM, JN, JO, JP, JQ, JR, JS, JT, JU, JV, JW, wr, JX, JY, Nat.reduceSub, Nat.reduceMul, JZ, Ka, Kb, Kc, Kd, Ke, Kf, Kg, Kh, Ki, Kj, Kk, Kl, Km, Kn, Ko, Kp, Kq, Kr, Ks, Kt, Ku, Kv, Kw, Kx, Ky, Kz, K0, K1, K2, K3, K4, K5, K6, K7, K8, K9, KA, KC, KD, reduceCtorEq, Int.reduceLT, Int.reduceLE, Int.reduceAdd, Int.reduceSub, Int.reduceNeg, Int.reduceToNat, Int.reduceEq, KE, KF, Nat.reduceLeDiff, KG, KH, KI, or_true, true_or, or_false, false_or]) | ((with_reducible (first | refine Ok.br ?_ ?_ | refine Ok.gd ?_ ?_ | refine Ok.ld ?_ ?_)) <;> (intro g; (try simp only [Zz] at g); (first | (exfalso; omega) | skip)))))
  refine Ok.bnd2 (len64_at (by omega) (by omega) h) fun y h2 ⟨L, hy, hL⟩ => ?_
  cases hy
  (repeat' (first | (simp -implicitDefEqProofs (maxSteps := 1000000) (disch := first | assumption | omega | (simp only [KE, JO, JP, KF]; omega)) only [*, lenV, ty54, ty98, ty100, slot44, Za, Zb, Zc, Zd, Ze, Zf, Zg, Zh, Zi, Zj, and_true, true_and, Ja, Jb, Jc, cond_true, cond_false, Jd, Je, Jf, Jg, Jh, Ji, Jj, St.put, Jk, Jl, Jm, Jn, Jo, Jp, Jq, Jr, Js, Jt, decide_true, decide_false, Nat.reduceEqDiff, Ju, Jv, Jw, Jx, Jy, rd, TI.kind, Nat.reduceLT, Nat.reduceAdd, and_self, Jz, J0, J1, J2, J3, J4, beq_self_eq_true, J5, J6, J7, J8, J9, JA, JB, Op.operands, JC, JD, JE, JF, JG, JH, JI, JJ, JK, JL, Nat.reduceBEq, JM, JN, JO, JP, JQ, JR, JS, JT, JU, JV, JW, wr, JX, JY, Nat.reduceSub, Nat.reduceMul, JZ, Ka, Kb, Kc, Kd, Ke, Kf, Kg, Kh, Ki, Kj, Kk, Kl, Km, Kn, Ko, Kp, Kq, Kr, Ks, Kt, Ku, Kv, Kw, Kx, Ky, Kz, K0, K1, K2, K3, K4, K5, K6, K7, K8, K9, KA, KC, KD, reduceCtorEq, Int.reduceLT, Int.reduceLE, Int.reduceAdd, Int.reduceSub, Int.reduceNeg, Int.reduceToNat, Int.reduceEq, KE, KF, Nat.reduceLeDiff, KG, KH, KI, or_true, true_or, or_false, false_or]) | ((with_reducible (first | refine Ok.br ?_ ?_ | refine Ok.gd ?_ ?_ | refine Ok.ld ?_ ?_)) <;> (intro g; (try simp only [Zz] at g); (first | (exfalso; omega) | skip)))))
  exact hQ'.out _ ⟨L, rfl, hL⟩

theorem pow_of_len {n : Nat} {L : Int} (h0 : 0 < n) (h1 : n ≤ 1000000000) (h : LenOk n L) : ∃ M : Nat, n < M ∧ M ≤ 2 * n ∧ IntKind.u64.wrap (1 * 2 ^ min L.toNat IntKind.u64.bits) = (M : Int) ∧ 0 ≤ L := by
  obtain ⟨a1, a2, a3, a4⟩ := h
  obtain ⟨l, rfl⟩ : ∃ l : Nat, L = l := ⟨L.toNat, by omega⟩
  simp only [Int.toNat_natCast] at a3 a4 ⊢
  have a3' : n < 2 ^ l := by exact_mod_cast a3
  have hl0 : l ≠ 0 := by rintro rfl; simp at a3'; omega
  have a4' : 2 ^ (l - 1) ≤ n := by
    rcases a4 with a4 | a4
    · omega
    · exact_mod_cast a4
  have hl : l ≤ 31 := by
    apply Decidable.byContradiction
    intro hc
    have := Nat.pow_le_pow_right (n := 2) (by omega) (show 31 ≤ l - 1 by omega)
    omega
  have e2 : 2 ^ l = 2 * 2 ^ (l - 1) := by
    conv => lhs; rw [show l = (l - 1) + 1 by omega, Nat.pow_succ]
    omega
  refine ⟨2 ^ l, a3', by omega, ?_, by omega⟩
  have e3 : min l IntKind.u64.bits = l := by show min l 64 = l; omega
  rw [e3, Int.one_mul]
  have e4 : (2 : Int) ^ l = ((2 ^ l : Nat) : Int) := by simp
  rw [e4]
  generalize hM : 2 ^ l = M at *
  simp only [IntKind.wrap, IntKind.signed, IntKind.bits]
  simp
  omega

theorem u64_nat {n : Nat} (h : n < 18446744073709551616) : IntKind.u64.wrap (n : Int) = n := by
  simp only [IntKind.wrap, IntKind.signed, IntKind.bits]
  simp
  omega
theorem i64_nat {n : Nat} (h : n < 9223372036854775808) : IntKind.i64.wrap (n : Int) = n := by
  simp only [IntKind.wrap, IntKind.signed, IntKind.bits]
  simp
  omega

theorem nextPow_at {n : Nat} (h0 : 0 < n) (h1 : n ≤ 1000000000) (h : Heap) : Ev.Ok (D X (.fn 63 []) [.int .i64 n] h) fun y => ∃ M : Nat, y = (.int .u64 M, h) ∧ n < M ∧ M ≤ 2 * n := by
  refine Ok.aim fun Q hQ => ?_
  have hQ' := Hid.mk hQ
  clear hQ
  have hw : IntKind.u64.wrap (n : Int) = n := u64_nat (by omega)
  (refine Ok.body body63 pin63 ?_; simp only [c63, Try.f63, Option.getD_some, nslot63, List.append_nil, List.map, List.replicate, List.length_cons, List.length_nil, Nat.reduceAdd, Nat.reduceSub, List.cons_append, List.nil_append])
  (repeat' (first | (simp -implicitDefEqProofs (maxSteps := 1000000) (disch := first | assumption | omega | (simp only [KE, JO, JP, KF]; omega)) only [*, lenV, ty3, ty54, slot63, Za, Zb, Zc, Zd, Ze, Zf, Zg, Zh, Zi, Zj, and_true, true_and, Ja, Jb, Jc, cond_true, cond_false, Jd, Je, Jf, Jg, Jh, Ji, Jj, St.put, Jk, Jl, Jm, Jn, Jo, Jp, Jq, Jr, Js, Jt, decide_true, decide_false, Nat.reduceEqDiff, Ju, Jv, Jw, Jx, Jy, rd, TI.kind, Nat.reduceLT, Nat.reduceAdd, and_self, Jz, J0, J1, J2, J3, J4, beq_self_eq_true, J5, J6, J7, J8, J9, JA, JB, Op.operands, JC, JD, JE, JF, JG, JH, JI, JJ, JK, JL, Nat.reduceBEq, JM, JN, JO, JP, JQ, JR, JS, JT, JU, JV, JW, wr, JX, JY, Nat.reduceSub, Nat.reduceMul, JZ, Ka, Kb, Kc, Kd, Ke, Kf, Kg, Kh, Ki, Kj, Kk, Kl, Km, Kn, Ko, Kp, Kq, Kr, Ks, Kt, Ku, Kv, Kw, Kx, Ky, Kz, K0, K1, K2, K3, K4, K5, K6, K7, K8, K9, KA, KC, KD, reduceCtorEq, Int.reduceLT, Int.reduceLE, Int.reduceAdd, Int.reduceSub, Int.reduceNeg, Int.reduceToNat, Int.reduceEq, KE, KF, Nat.reduceLeDiff, KG, KH, KI, or_true, true_or, or_false, false_or]) | ((with_reducible (first | refine Ok.br ?_ ?_ | refine Ok.gd ?_ ?_ | refine Ok.ld ?_ ?_)) <;> (intro g; (try simp only [Zz] at g); (first | (exfalso; omega) | skip)))))
  refine Ok.bnd2 (len_at h1 h) fun y h2 ⟨L, hy, hL⟩ => ?_
  cases hy
  obtain ⟨M, hM1, hM2, hM3, hM4⟩ := pow_of_len h0 h1 hL
  (repeat' (first | (simp -implicitDefEqProofs (maxSteps := 1000000) (disch := first | assumption | omega | (simp only [KE, JO, JP, KF]; omega)) only [*, lenV, hM3, ty3, ty54, slot63, Za, Zb, Zc, Zd, Ze, Zf, Zg, Zh, Zi, Zj, and_true, true_and, Ja, Jb, Jc, cond_true, cond_false, Jd, Je, Jf, Jg, Jh, Ji, Jj, St.put, Jk, Jl, Jm, Jn, Jo, Jp, Jq, Jr, Js, Jt, decide_true, decide_false, Nat.reduceEqDiff, Ju, Jv, Jw, Jx, Jy, rd, TI.kind, Nat.reduceLT, Nat.reduceAdd, and_self, Jz, J0, J1, J2, J3, J4, beq_self_eq_true, J5, J6, J7, J8, J9, JA, JB, Op.operands, JC, JD, JE, JF, JG, JH, JI, JJ, JK, JL, Nat.reduceBEq, JM, JN, JO, JP, JQ, JR, JS, JT, JU, JV, JW, wr, JX, JY, Nat.reduceSub, Nat.reduceMul, JZ, Ka, Kb, Kc, Kd, Ke, Kf, Kg, Kh, Ki, Kj, Kk, Kl, Km, Kn, Ko, Kp, Kq, Kr, Ks, Kt, Ku, Kv, Kw, Kx, Ky, Kz, K0, K1, K2, K3, K4, K5, K6, K7, K8, K9, KA, KC, KD, reduceCtorEq, Int.reduceLT, Int.reduceLE, Int.reduceAdd, Int.reduceSub, Int.reduceNeg, Int.reduceToNat, Int.reduceEq, KE, KF, Nat.reduceLeDiff, KG, KH, KI, or_true, true_or, or_false, false_or]) | ((with_reducible (first | refine Ok.br ?_ ?_ | refine Ok.gd ?_ ?_ | refine Ok.ld ?_ ?_)) <;> (intro g; (try simp only [Zz] at g); (first | (exfalso; omega) | skip)))))
  exact hQ'.out _ ⟨M, rfl, hM1, hM2⟩

theorem and_lt {r : Int} {M : Nat} (h0 : 0 < M) (h1 : M ≤ 2000000000) : ∃ x : Nat, x < M ∧ IntKind.u64.wrap (BitVec.ofInt IntKind.u64.bits r &&& BitVec.ofInt IntKind.u64.bits ((M : Int) - 1)).toNat = (x : Int) := by
  refine ⟨(BitVec.ofInt IntKind.u64.bits r &&& BitVec.ofInt IntKind.u64.bits ((M : Int) - 1)).toNat, ?_, ?_⟩
  · rw [BitVec.toNat_and]
    have : (BitVec.ofInt IntKind.u64.bits ((M : Int) - 1)).toNat = M - 1 := by
      rw [BitVec.toNat_ofInt]
      show (((M : Int) - 1) % ((2 ^ 64 : Nat) : Int)).toNat = M - 1
      omega
    rw [this]
    exact Nat.lt_of_le_of_lt Nat.and_le_right (by omega)
  · have := (BitVec.ofInt IntKind.u64.bits r &&& BitVec.ofInt IntKind.u64.bits ((M : Int) - 1)).isLt
    generalize (BitVec.ofInt IntKind.u64.bits r &&& BitVec.ofInt IntKind.u64.bits ((M : Int) - 1)).toNat = x at *
    simp only [IntKind.wrap, IntKind.signed, IntKind.bits] at *
    simp
    omega

set_option maxHeartbeats 2000000 in
theorem break_at {H : Heap} {b g n cap z : Nat} {d : Array RP} (hb : b < H.length) (hn : n ≤ d.size) (hl : d.size ≤ 1000000000) {i0 j0 : Nat} (h1 : i0 + 8 ≤ j0) (h2 : j0 ≤ n) :
    Ev.Ok (D X (.fn 50 []) [.sl (.at b g 0) n cap z, .int .i64 i0, .int .i64 j0, fv] (hs H b g d)) fun y => ∃ (r : Int) (d2 : Array RP), y = (.tup [], hs (H ++ [Blk.cells 0 true [.int .u64 r]]) b g d2) ∧ PermIn i0 j0 d d2 := by
  refine Ok.aim fun Q hQ => ?_
  have hQ' := Hid.mk hQ
  clear hQ
  unfold hs at hQ' ⊢
  have hset : ∀ (r : Int) (e : Array RP), (H ++ [Blk.cells 0 true [.int .u64 r]]).set b (.cells g true (fl e)) = H.set b (.cells g true (fl e)) ++ [Blk.cells 0 true [.int .u64 r]] := fun r e => heap_set_lt hb
  simp only [hset] at hQ'
  clear hset
  have hm2 : ∀ (e : Array RP) (r : Int), hcells (H.set b (.cells g true (fl e)) ++ [Blk.cells 0 true [.int .u64 r]]) H.length 0 = some (true, [.int .u64 r]) := fun e r => by rw [hcells_ge (by simp)]; simp only [List.length_set, Nat.sub_self]; exact grd_t rfl _
  have hst : ∀ (e : Array RP) (r u : Int), (H.set b (.cells g true (fl e)) ++ [Blk.cells 0 true [.int .u64 r]]).set H.length (.cells 0 true [.int .u64 u]) = H.set b (.cells g true (fl e)) ++ [Blk.cells 0 true [.int .u64 u]] := fun e r u => by
    rw [heap_set_ge (by simp)]; simp only [List.length_set, Nat.sub_self, List.set_cons_zero]
  have hm2' := Hid.mk hm2
  have hst' := Hid.mk hst
  clear hm2 hst
  obtain ⟨l, hll⟩ : ∃ l, j0 - i0 = l := ⟨_, rfl⟩
  have e1 : (j0 : Int) - (i0 : Int) = (l : Int) := by omega
  have e2 : (l : Int).tdiv 4 = ((l / 4 : Nat) : Int) := by rw [Int.tdiv_eq_ediv_of_nonneg (by omega)]; omega
  obtain ⟨p, hp⟩ : ∃ i, i0 + l / 4 * 2 = i := ⟨_, rfl⟩
  have e3 : (i0 : Int) + ((l / 4 : Nat) : Int) * 2 = (p : Int) := by omega
  have e4 : (p : Int) - 1 = ((p - 1 : Nat) : Int) := by omega
  have hpb : i0 + 1 ≤ p ∧ p + 1 < j0 := by omega
  have e6 : (0 : Nat) ≤ l / 4 := by omega
  have hl8 : 8 ≤ (l : Int) := by omega
  have hw : IntKind.u64.wrap (l : Int) = l := u64_nat (by omega)
  have hl1 : l ≤ 1000000000 ∧ 0 < l := by omega
  have hij : i0 + l = j0 := by omega
  clear hp hll h1
  (refine Ok.body body50 pin50 ?_; simp only [c50, Try.f50, Option.getD_some, nslot50, List.append_nil, List.map, List.replicate, List.length_cons, List.length_nil, Nat.reduceAdd, Nat.reduceSub, List.cons_append, List.nil_append])
  (repeat' (first | (simp -implicitDefEqProofs (maxSteps := 1000000) (disch := first | assumption | omega | (simp only [KE, JO, JP, KF]; omega)) only [*, lenV, ty3, ty22, ty24, ty25, ty54, ty100, ty105, slot50, plan50_10, Za, Zb, Zc, Zd, Ze, Zf, Zg, Zh, Zi, Zj, and_true, true_and, Ja, Jb, Jc, cond_true, cond_false, Jd, Je, Jf, Jg, Jh, Ji, Jj, St.put, Jk, Jl, Jm, Jn, Jo, Jp, Jq, Jr, Js, Jt, decide_true, decide_false, Nat.reduceEqDiff, Ju, Jv, Jw, Jx, Jy, rd, TI.kind, Nat.reduceLT, Nat.reduceAdd, and_self, Jz, J0, J1, J2, J3, J4, beq_self_eq_true, J5, J6, J7, J8, J9, JA, JB, Op.operands, JC, JD, JE, JF, JG, JH, JI, JJ, JK, JL, Nat.reduceBEq, JM, JN, JO, JP, JQ, JR, JS, JT, JU, JV, JW, wr, JX, JY, Nat.reduceSub, Nat.reduceMul, JZ, Ka, Kb, Kc, Kd, Ke, Kf, Kg, Kh, Ki, Kj, Kk, Kl, Km, Kn, Ko, Kp, Kq, Kr, Ks, Kt, Ku, Kv, Kw, Kx, Ky, Kz, K0, K1, K2, K3, K4, K5, K6, K7, K8, K9, KA, KC, KD, reduceCtorEq, Int.reduceLT, Int.reduceLE, Int.reduceAdd, Int.reduceSub, Int.reduceNeg, Int.reduceToNat, Int.reduceEq, KE, KF, Nat.reduceLeDiff, KG, KH, KI, or_true, true_or, or_false, false_or]) | ((with_reducible (first | refine Ok.br ?_ ?_ | refine Ok.gd ?_ ?_ | refine Ok.ld ?_ ?_)) <;> (intro g; (try simp only [Zz] at g); (first | (exfalso; omega) | skip)))))
  refine Ok.bnd2 (nextPow_at hl1.2 hl1.1 _) fun y h3 ⟨M, hy, hM1, hM2⟩ => ?_
  cases hy
  have hM3 : (1 : Int) ≤ M ∧ M ≤ (2000000000 : Int) := by omega
  have hM4 : IntKind.u64.wrap ((M : Int) - 1) = (M : Int) - 1 := by
    have := u64_nat (n := M - 1) (by omega)
    rwa [show ((M - 1 : Nat) : Int) = (M : Int) - 1 by omega] at this
  (repeat' (first | (simp -implicitDefEqProofs (maxSteps := 1000000) (disch := first | assumption | omega | (simp only [KE, JO, JP, KF]; omega)) only [*, lenV, ty3, ty22, ty24, ty25, ty54, ty100, ty105, slot50, plan50_10, Za, Zb, Zc, Zd, Ze, Zf, Zg, Zh, Zi, Zj, and_true, true_and, Ja, Jb, Jc, cond_true, cond_false, Jd, Je, Jf, Jg, Jh, Ji, Jj, St.put, Jk, Jl, Jm, Jn, Jo, Jp, Jq, Jr, Js, Jt, decide_true, decide_false, Nat.reduceEqDiff, Ju, Jv, Jw, Jx, Jy, rd, TI.kind, Nat.reduceLT, Nat.reduceAdd, and_self, Jz, J0, J1, J2, J3, J4, beq_self_eq_true, J5, J6, J7, J8, J9, JA, JB, Op.operands, JC, JD, JE, JF, JG, JH, JI, JJ, JK, JL, Nat.reduceBEq, JM, JN, JO, JP, JQ, JR, JS, JT, JU, JV, JW, wr, JX, JY, Nat.reduceSub, Nat.reduceMul, JZ, Ka, Kb, Kc, Kd, Ke, Kf, Kg, Kh, Ki, Kj, Kk, Kl, Km, Kn, Ko, Kp, Kq, Kr, Ks, Kt, Ku, Kv, Kw, Kx, Ky, Kz, K0, K1, K2, K3, K4, K5, K6, K7, K8, K9, KA, KC, KD, reduceCtorEq, Int.reduceLT, Int.reduceLE, Int.reduceAdd, Int.reduceSub, Int.reduceNeg, Int.reduceToNat, Int.reduceEq, KE, KF, Nat.reduceLeDiff, KG, KH, KI, or_true, true_or, or_false, false_or]) | ((with_reducible (first | refine Ok.br ?_ ?_ | refine Ok.gd ?_ ?_ | refine Ok.ld ?_ ?_)) <;> (intro g; (try simp only [Zz] at g); (first | (exfalso; omega) | skip)))))
  refine Ok.loop [false, false, false, false, false, false, false, false, false, false, false, true, true, false, false, false, false, false, false, false, false, false, false, false, false, false, false, false, true, true, true, true, true, true, true, true, true, true, true, true, true, true, true, true, true, true, true, true, true, true, true, true, true, true, true, true, true, true, true, true, true, true, true, true, true, true, true] (fun m s2 => ∃ (k : Nat) (e : Array RP) (r : Int), m = p + 2 - k ∧ p ≤ k + 1 ∧ tv s2.e 11 = .v (.int .i64 k) ∧ s2.l = [] ∧ s2.h = H.set b (.cells g true (fl e)) ++ [Blk.cells 0 true [.int .u64 r]] ∧ PermIn i0 j0 d e)
    (fun x s2 => x = .exit 0 ∧ s2.l = [] ∧ ∃ (e : Array RP) (r : Int), s2.h = H.set b (.cells g true (fl e)) ++ [Blk.cells 0 true [.int .u64 r]] ∧ PermIn i0 j0 d e) (p + 2 - (p - 1)) ⟨p - 1, d, l, rfl, by omega, rfl, rfl, rfl, permIn_refl _ _ _⟩ ?_ ?_
  · intro m ⟨e', l', H'⟩ hW ⟨k, e, r, hm, hk, h11, k2, k3, hpm⟩
    dsimp only at hW h11 k2 k3
    subst l' H'
    rw [hW.spread]
    simp only [spread_t, spread_f, spread_n, Nat.zero_add, Nat.reduceAdd, h11]
    clear hW hQ'
    have hsz : e.size = d.size := hpm.1
    have hpm' := Hid.mk hpm
    clear hpm
    by_cases hle : k ≤ p + 1
    · have hle' : (k : Int) ≤ (p : Int) + 1 := by omega
      (repeat' (first | (simp -implicitDefEqProofs (maxSteps := 1000000) (disch := first | assumption | omega | (simp only [KE, JO, JP, KF]; omega)) only [*, lenV, ty3, ty22, ty24, ty25, ty54, ty100, ty105, slot50, plan50_10, Za, Zb, Zc, Zd, Ze, Zf, Zg, Zh, Zi, Zj, and_true, true_and, Ja, Jb, Jc, cond_true, cond_false, Jd, Je, Jf, Jg, Jh, Ji, Jj, St.put, Jk, Jl, Jm, Jn, Jo, Jp, Jq, Jr, Js, Jt, decide_true, decide_false, Nat.reduceEqDiff, Ju, Jv, Jw, Jx, Jy, rd, TI.kind, Nat.reduceLT, Nat.reduceAdd, and_self, Jz, J0, J1, J2, J3, J4, beq_self_eq_true, J5, J6, J7, J8, J9, JA, JB, Op.operands, JC, JD, JE, JF, JG, JH, JI, JJ, JK, JL, Nat.reduceBEq, JM, JN, JO, JP, JQ, JR, JS, JT, JU, JV, JW, wr, JX, JY, Nat.reduceSub, Nat.reduceMul, JZ, Ka, Kb, Kc, Kd, Ke, Kf, Kg, Kh, Ki, Kj, Kk, Kl, Km, Kn, Ko, Kp, Kq, Kr, Ks, Kt, Ku, Kv, Kw, Kx, Ky, Kz, K0, K1, K2, K3, K4, K5, K6, K7, K8, K9, KA, KC, KD, reduceCtorEq, Int.reduceLT, Int.reduceLE, Int.reduceAdd, Int.reduceSub, Int.reduceNeg, Int.reduceToNat, Int.reduceEq, KE, KF, Nat.reduceLeDiff, KG, KH, KI, or_true, true_or, or_false, false_or]) | ((with_reducible (first | refine Ok.br ?_ ?_ | refine Ok.gd ?_ ?_ | refine Ok.ld ?_ ?_)) <;> (intro g; (try simp only [Zz] at g); (first | (exfalso; omega) | skip)))))
      refine Ok.bnd2 (next_at (hm2'.out e r)) fun y h3 ⟨r2, hy⟩ => ?_
      cases hy
      rw [hst'.out]
      obtain ⟨x, hx1, hx2⟩ := and_lt (r := r2) (M := M) (by omega) (by omega)
      have hx3 : IntKind.i64.wrap (x : Int) = x := i64_nat (by omega)
      have g1 : 0 ≤ (k : Int) ∧ (k : Int) < (n : Int) := by omega
      have g2 : k < e.size := by omega
      by_cases hxl : l ≤ x
      · have hxl' : (l : Int) ≤ (x : Int) := by omega
        obtain ⟨y, hy⟩ : ∃ y, x - l = y := ⟨_, rfl⟩
        have e7 : (x : Int) - (l : Int) = (y : Int) := by omega
        obtain ⟨w, hw⟩ : ∃ w, i0 + y = w := ⟨_, rfl⟩
        have e8 : (i0 : Int) + (y : Int) = (w : Int) := by omega
        have g3 : 0 ≤ (w : Int) ∧ (w : Int) < (n : Int) := by omega
        have g4 : w < e.size := by omega
        have g5 : i0 ≤ w ∧ w < j0 := by omega
        clear hw hy
        (repeat' (first | (simp -implicitDefEqProofs (maxSteps := 1000000) (disch := first | assumption | omega | (simp only [KE, JO, JP, KF]; omega)) only [*, lenV, fl_len, fl_at, fl_set, fl_set2, swp_eq, eq_self, Array.size_setIfInBounds, pr_eta, hx2, ty3, ty22, ty24, ty25, ty54, ty100, ty105, slot50, plan50_10, Za, Zb, Zc, Zd, Ze, Zf, Zg, Zh, Zi, Zj, and_true, true_and, Ja, Jb, Jc, cond_true, cond_false, Jd, Je, Jf, Jg, Jh, Ji, Jj, St.put, Jk, Jl, Jm, Jn, Jo, Jp, Jq, Jr, Js, Jt, decide_true, decide_false, Nat.reduceEqDiff, Ju, Jv, Jw, Jx, Jy, rd, TI.kind, Nat.reduceLT, Nat.reduceAdd, and_self, Jz, J0, J1, J2, J3, J4, beq_self_eq_true, J5, J6, J7, J8, J9, JA, JB, Op.operands, JC, JD, JE, JF, JG, JH, JI, JJ, JK, JL, Nat.reduceBEq, JM, JN, JO, JP, JQ, JR, JS, JT, JU, JV, JW, wr, JX, JY, Nat.reduceSub, Nat.reduceMul, JZ, Ka, Kb, Kc, Kd, Ke, Kf, Kg, Kh, Ki, Kj, Kk, Kl, Km, Kn, Ko, Kp, Kq, Kr, Ks, Kt, Ku, Kv, Kw, Kx, Ky, Kz, K0, K1, K2, K3, K4, K5, K6, K7, K8, K9, KA, KC, KD, reduceCtorEq, Int.reduceLT, Int.reduceLE, Int.reduceAdd, Int.reduceSub, Int.reduceNeg, Int.reduceToNat, Int.reduceEq, KE, KF, Nat.reduceLeDiff, KG, KH, KI, or_true, true_or, or_false, false_or]) | ((with_reducible (first | refine Ok.br ?_ ?_ | refine Ok.gd ?_ ?_ | refine Ok.ld ?_ ?_)) <;> (intro g; (try simp only [Zz] at g); (first | (exfalso; omega) | skip)))))
        exact Turn.next (p + 2 - (k + 1)) (by omega) ⟨rfl, k + 1, swp e k w, r2, rfl, by omega, rfl, rfl, rfl, permIn_trans _ _ _ _ _ hpm'.out (swp_permIn _ _ _ _ _ (by omega) (by omega) g5.1 g5.2 (by omega))⟩
      · have hxl' : ¬ (l : Int) ≤ (x : Int) := by omega
        obtain ⟨w, hw⟩ : ∃ w, i0 + x = w := ⟨_, rfl⟩
        have e8 : (i0 : Int) + (x : Int) = (w : Int) := by omega
        have g3 : 0 ≤ (w : Int) ∧ (w : Int) < (n : Int) := by omega
        have g4 : w < e.size := by omega
        have g5 : i0 ≤ w ∧ w < j0 := by omega
        clear hw
        (repeat' (first | (simp -implicitDefEqProofs (maxSteps := 1000000) (disch := first | assumption | omega | (simp only [KE, JO, JP, KF]; omega)) only [*, lenV, fl_len, fl_at, fl_set, fl_set2, swp_eq, eq_self, Array.size_setIfInBounds, pr_eta, hx2, ty3, ty22, ty24, ty25, ty54, ty100, ty105, slot50, plan50_10, Za, Zb, Zc, Zd, Ze, Zf, Zg, Zh, Zi, Zj, and_true, true_and, Ja, Jb, Jc, cond_true, cond_false, Jd, Je, Jf, Jg, Jh, Ji, Jj, St.put, Jk, Jl, Jm, Jn, Jo, Jp, Jq, Jr, Js, Jt, decide_true, decide_false, Nat.reduceEqDiff, Ju, Jv, Jw, Jx, Jy, rd, TI.kind, Nat.reduceLT, Nat.reduceAdd, and_self, Jz, J0, J1, J2, J3, J4, beq_self_eq_true, J5, J6, J7, J8, J9, JA, JB, Op.operands, JC, JD, JE, JF, JG, JH, JI, JJ, JK, JL, Nat.reduceBEq, JM, JN, JO, JP, JQ, JR, JS, JT, JU, JV, JW, wr, JX, JY, Nat.reduceSub, Nat.reduceMul, JZ, Ka, Kb, Kc, Kd, Ke, Kf, Kg, Kh, Ki, Kj, Kk, Kl, Km, Kn, Ko, Kp, Kq, Kr, Ks, Kt, Ku, Kv, Kw, Kx, Ky, Kz, K0, K1, K2, K3, K4, K5, K6, K7, K8, K9, KA, KC, KD, reduceCtorEq, Int.reduceLT, Int.reduceLE, Int.reduceAdd, Int.reduceSub, Int.reduceNeg, Int.reduceToNat, Int.reduceEq, KE, KF, Nat.reduceLeDiff, KG, KH, KI, or_true, true_or, or_false, false_or]) | ((with_reducible (first | refine Ok.br ?_ ?_ | refine Ok.gd ?_ ?_ | refine Ok.ld ?_ ?_)) <;> (intro g; (try simp only [Zz] at g); (first | (exfalso; omega) | skip)))))
        exact Turn.next (p + 2 - (k + 1)) (by omega) ⟨rfl, k + 1, swp e k w, r2, rfl, by omega, rfl, rfl, rfl, permIn_trans _ _ _ _ _ hpm'.out (swp_permIn _ _ _ _ _ (by omega) (by omega) g5.1 g5.2 (by omega))⟩
    · have hle' : ¬ (k : Int) ≤ (p : Int) + 1 := by omega
      (repeat' (first | (simp -implicitDefEqProofs (maxSteps := 1000000) (disch := first | assumption | omega | (simp only [KE, JO, JP, KF]; omega)) only [*, lenV, ty3, ty22, ty24, ty25, ty54, ty100, ty105, slot50, plan50_10, Za, Zb, Zc, Zd, Ze, Zf, Zg, Zh, Zi, Zj, and_true, true_and, Ja, Jb, Jc, cond_true, cond_false, Jd, Je, Jf, Jg, Jh, Ji, Jj, St.put, Jk, Jl, Jm, Jn, Jo, Jp, Jq, Jr, Js, Jt, decide_true, decide_false, Nat.reduceEqDiff, Ju, Jv, Jw, Jx, Jy, rd, TI.kind, Nat.reduceLT, Nat.reduceAdd, and_self, Jz, J0, J1, J2, J3, J4, beq_self_eq_true, J5, J6, J7, J8, J9, JA, JB, Op.operands, JC, JD, JE, JF, JG, JH, JI, JJ, JK, JL, Nat.reduceBEq, JM, JN, JO, JP, JQ, JR, JS, JT, JU, JV, JW, wr, JX, JY, Nat.reduceSub, Nat.reduceMul, JZ, Ka, Kb, Kc, Kd, Ke, Kf, Kg, Kh, Ki, Kj, Kk, Kl, Km, Kn, Ko, Kp, Kq, Kr, Ks, Kt, Ku, Kv, Kw, Kx, Ky, Kz, K0, K1, K2, K3, K4, K5, K6, K7, K8, K9, KA, KC, KD, reduceCtorEq, Int.reduceLT, Int.reduceLE, Int.reduceAdd, Int.reduceSub, Int.reduceNeg, Int.reduceToNat, Int.reduceEq, KE, KF, Nat.reduceLeDiff, KG, KH, KI, or_true, true_or, or_false, false_or]) | ((with_reducible (first | refine Ok.br ?_ ?_ | refine Ok.gd ?_ ?_ | refine Ok.ld ?_ ?_)) <;> (intro g; (try simp only [Zz] at g); (first | (exfalso; omega) | skip)))))
      exact Turn.exit ⟨rfl, rfl, rfl, e, r, rfl, hpm'.out⟩
  · intro x ⟨e', l', H'⟩ hW ⟨hx, k2, e, r, k3, hpm⟩
    dsimp only at hW k2 k3
    subst l' hx H'
    rw [hW.spread]
    clear hW
    simp only [spread_t, spread_f, spread_n, Nat.zero_add, Nat.reduceAdd]
    (repeat' (first | (simp -implicitDefEqProofs (maxSteps := 1000000) (disch := first | assumption | omega | (simp only [KE, JO, JP, KF]; omega)) only [*, ty3, ty22, ty24, ty25, ty54, ty100, ty105, slot50, plan50_10, Za, Zb, Zc, Zd, Ze, Zf, Zg, Zh, Zi, Zj, and_true, true_and, Ja, Jb, Jc, cond_true, cond_false, Jd, Je, Jf, Jg, Jh, Ji, Jj, St.put, Jk, Jl, Jm, Jn, Jo, Jp, Jq, Jr, Js, Jt, decide_true, decide_false, Nat.reduceEqDiff, Ju, Jv, Jw, Jx, Jy, rd, TI.kind, Nat.reduceLT, Nat.reduceAdd, and_self, Jz, J0, J1, J2, J3, J4, beq_self_eq_true, J5, J6, J7, J8, J9, JA, JB, Op.operands, JC, JD, JE, JF, JG, JH, JI, JJ, JK, JL, Nat.reduceBEq, JM, JN, JO, JP, JQ, JR, JS, JT, JU, JV, JW, wr, JX, JY, Nat.reduceSub, Nat.reduceMul, JZ, Ka, Kb, Kc, Kd, Ke, Kf, Kg, Kh, Ki, Kj, Kk, Kl, Km, Kn, Ko, Kp, Kq, Kr, Ks, Kt, Ku, Kv, Kw, Kx, Ky, Kz, K0, K1, K2, K3, K4, K5, K6, K7, K8, K9, KA, KC, KD, reduceCtorEq, Int.reduceLT, Int.reduceLE, Int.reduceAdd, Int.reduceSub, Int.reduceNeg, Int.reduceToNat, Int.reduceEq, KE, KF, Nat.reduceLeDiff, KG, KH, KI, or_true, true_or, or_false, false_or]) | ((with_reducible (first | refine Ok.br ?_ ?_ | refine Ok.gd ?_ ?_ | refine Ok.ld ?_ ?_)) <;> (intro g; (try simp only [Zz] at g); (first | (exfalso; omega) | skip)))))
    exact hQ'.out _ ⟨r, e, rfl, hpm⟩
end Go.Ev
