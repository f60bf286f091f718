/-
A row of pairs, sorted; without its doubles.
-/
import Derived.Test.YtgkmfoljhapmiaaBun
import Derived.Test.YtgkmfoljhapmiaaGrC
set_option linter.unusedSimpArgs false
set_option linter.unusedVariables false
set_option maxRecDepth 100000
namespace Go.Ev
open Int renaming le_refl → Ja, toNat_natCast → Kz
open Go.Ev renaming wantedT → Jb, exPure → Jd, opd → Je, getT → Jf, constT → Jg, ofValue → Jh, cellsV → Ji, newVar → Jj, setT → Jk, posT → Jl, fieldAddrV → Ju, fieldOff → Jv, load → Jw, store → Jx, lcells → Jy, binOp → Jz, intOp → J0, leadsT → J5, again → J6, rdV → J7, vsame → J8, vsames → J9, makeSliceV → JF, buildV → JG, fillV → JH, splice → JI, results → JU, resV → JV, isCell → JW, nilCheckV → JY, allV → Ke, builtinV → Kf, lenV → Kg, indexAddrV → Kh, unOp → Ki, minmaxV → Kj, minmax → Kk, sliceV → Kl, bound → Km, asInt → Kn, idx → Ko, idxLe → Kp, appendV → Kq, copyV → Kr, clearV → Ks, convV → Kt, putBlk → Ku, sliceCells → Kv, newBlk → Kw, buildSliceV → Kx, shift → Ky
open Bool renaming not_not → Jc, not_true → J1, not_false → J2, true_beq → J3, false_beq → J4, and_true → JA, true_and → JB, or_false → K4, or_true → K5, true_or → K6, false_or → K7, and_false → K8, false_and → K9
open Option renaming bind_some → Jm, isSome_none → K0, isNone_none → K1, isSome_some → K2, isNone_some → K3
open List renaming getD_cons_zero → Jn, getD_cons_succ → Jo, set_cons_zero → Jp, set_cons_succ → Jq, getElem?_cons_zero → Jr, getElem?_cons_succ → Js, getElem?_nil → Jt, elem_cons → JC, elem_nil → JD, toList_toArray → JE, zip → JJ, map_cons → JK, map_nil → JL, all_cons → JM, all_nil → JN, length_cons → JO, length_nil → JP, take → JQ, drop → JR, cons_append → JS, nil_append → JT, set → JX, append_nil → Kd, append_assoc → KD, length_append → KE, length_set → KF, replicate_zero → KG, flatten_nil → KH, set_set → KI
open Nat renaming mul_one → JZ, zero_add → Ka, add_zero → Kb, le_refl → Kc, add_sub_cancel_left → KA, sub_self → KC
open Go.Proofs Go.Sort

theorem set_same' {G : Heap} {q g : Nat} {c : List V} (h : hcells G q g = some (true, c)) : G.set q (.cells g true c) = G := by
  unfold hcells at h
  cases hx : G[q]? with
  | none => rw [hx] at h; cases h
  | some x =>
    rw [hx] at h
    cases x with
    | cells g' k c' =>
      change grd (g' = g) (some (k, c')) = some (true, c) at h
      unfold grd at h
      split at h
      · rename_i hg
        subst hg
        cases h
        obtain ⟨h1, h2⟩ := List.getElem?_eq_some_iff.1 hx
        rw [← h2]; exact List.set_getElem_self h1
      · cases h
    | map ex es c => cases h
    | loop r => cases h

theorem sortFunc_at {G : Heap} {b g n cap z : Nat} {d : Array RP} (hG : hcells G b g = some (true, fl d)) (hn : d.size = n) (hl : n ≤ 1000) :
    Ev.Ok (D X (.fn 28 []) [.sl (.at b g 0) n cap z, .fn 29 []] G) fun y => ∃ l d2, y = (.tup [], hs (G ++ l) b g d2) ∧ PermIn 0 n d d2 ∧ SortedIn ltR 0 n d2 := by
  refine Ok.aim fun Q hQ => ?_
  have hQ' := Hid.mk hQ
  clear hQ
  have hb := hcells_lt hG
  have hA : At G b g d G := ⟨[], by unfold hs; rw [List.append_nil]; exact (set_same' hG).symm⟩
  have hw : IntKind.u64.wrap (n : Int) = n := u64_nat (by omega)
  (refine Ok.body body28 pin28 ?_; simp only [c28, Try.f28, Option.getD_some, nslot28, List.append_nil, List.map, List.replicate, List.length_cons, List.length_nil, Nat.reduceAdd, Nat.reduceSub, List.cons_append, List.nil_append])
  (repeat' (first | (simp -implicitDefEqProofs (maxSteps := 1000000) (disch := first | assumption | omega | (simp only [KE, JO, JP, KF]; omega)) only [*, lenV, ty3, ty22, ty24, ty25, ty54, ty58, slot28, Za, Zb, Zc, Zd, Ze, Zf, Zg, Zh, Zi, Zj, and_true, true_and, Ja, Jb, Jc, cond_true, cond_false, Jd, Je, Jf, Jg, Jh, Ji, Jj, St.put, Jk, Jl, Jm, Jn, Jo, Jp, Jq, Jr, Js, Jt, decide_true, decide_false, Nat.reduceEqDiff, Ju, Jv, Jw, Jx, Jy, rd, TI.kind, Nat.reduceLT, Nat.reduceAdd, and_self, Jz, J0, J1, J2, J3, J4, beq_self_eq_true, J5, J6, J7, J8, J9, JA, JB, Op.operands, JC, JD, JE, JF, JG, JH, JI, JJ, JK, JL, Nat.reduceBEq, JM, JN, JO, JP, JQ, JR, JS, JT, JU, JV, JW, wr, JX, JY, Nat.reduceSub, Nat.reduceMul, JZ, Ka, Kb, Kc, Kd, Ke, Kf, Kg, Kh, Ki, Kj, Kk, Kl, Km, Kn, Ko, Kp, Kq, Kr, Ks, Kt, Ku, Kv, Kw, Kx, Ky, Kz, K0, K1, K2, K3, K4, K5, K6, K7, K8, K9, KA, KC, KD, reduceCtorEq, Int.reduceLT, Int.reduceLE, Int.reduceAdd, Int.reduceSub, Int.reduceNeg, Int.reduceToNat, Int.reduceEq, KE, KF, Nat.reduceLeDiff, KG, KH, KI, or_true, true_or, or_false, false_or]) | ((with_reducible (first | refine Ok.br ?_ ?_ | refine Ok.gd ?_ ?_ | refine Ok.ld ?_ ?_)) <;> (intro g; (try simp only [Zz] at g); (first | (exfalso; omega) | skip)))))
  refine Ok.bnd2 (len_at (by omega) G) fun y h3 ⟨L, hy, hL⟩ => ?_
  cases hy
  obtain ⟨k, rfl⟩ : ∃ k : Nat, L = k := ⟨L.toNat, by have := hL.1; omega⟩
  have hk : k ≤ 1000 := by have := hL.2.1; omega
  clear hL
  (repeat' (first | (simp -implicitDefEqProofs (maxSteps := 1000000) (disch := first | assumption | omega | (simp only [KE, JO, JP, KF]; omega)) only [*, lenV, ty3, ty22, ty24, ty25, ty54, ty58, slot28, Za, Zb, Zc, Zd, Ze, Zf, Zg, Zh, Zi, Zj, and_true, true_and, Ja, Jb, Jc, cond_true, cond_false, Jd, Je, Jf, Jg, Jh, Ji, Jj, St.put, Jk, Jl, Jm, Jn, Jo, Jp, Jq, Jr, Js, Jt, decide_true, decide_false, Nat.reduceEqDiff, Ju, Jv, Jw, Jx, Jy, rd, TI.kind, Nat.reduceLT, Nat.reduceAdd, and_self, Jz, J0, J1, J2, J3, J4, beq_self_eq_true, J5, J6, J7, J8, J9, JA, JB, Op.operands, JC, JD, JE, JF, JG, JH, JI, JJ, JK, JL, Nat.reduceBEq, JM, JN, JO, JP, JQ, JR, JS, JT, JU, JV, JW, wr, JX, JY, Nat.reduceSub, Nat.reduceMul, JZ, Ka, Kb, Kc, Kd, Ke, Kf, Kg, Kh, Ki, Kj, Kk, Kl, Km, Kn, Ko, Kp, Kq, Kr, Ks, Kt, Ku, Kv, Kw, Kx, Ky, Kz, K0, K1, K2, K3, K4, K5, K6, K7, K8, K9, KA, KC, KD, reduceCtorEq, Int.reduceLT, Int.reduceLE, Int.reduceAdd, Int.reduceSub, Int.reduceNeg, Int.reduceToNat, Int.reduceEq, KE, KF, Nat.reduceLeDiff, KG, KH, KI, or_true, true_or, or_false, false_or]) | ((with_reducible (first | refine Ok.br ?_ ?_ | refine Ok.gd ?_ ?_ | refine Ok.ld ?_ ?_)) <;> (intro g; (try simp only [Zz] at g); (first | (exfalso; omega) | skip)))))
  refine Ok.bnd2 (pdq_R refCmp ltR_swo hb n (i0 := 0) hA (by omega) (by omega) (by omega) ⟨by omega, Nat.le_refl _⟩ hk (.inl rfl)) fun y h3 ⟨G2, d2, hy, ⟨l, hG2⟩, hp, hs⟩ => ?_
  cases hy
  subst hG2
  (repeat' (first | (simp -implicitDefEqProofs (maxSteps := 1000000) (disch := first | assumption | omega | (simp only [KE, JO, JP, KF]; omega)) only [*, lenV, ty3, ty22, ty24, ty25, ty54, ty58, slot28, Za, Zb, Zc, Zd, Ze, Zf, Zg, Zh, Zi, Zj, and_true, true_and, Ja, Jb, Jc, cond_true, cond_false, Jd, Je, Jf, Jg, Jh, Ji, Jj, St.put, Jk, Jl, Jm, Jn, Jo, Jp, Jq, Jr, Js, Jt, decide_true, decide_false, Nat.reduceEqDiff, Ju, Jv, Jw, Jx, Jy, rd, TI.kind, Nat.reduceLT, Nat.reduceAdd, and_self, Jz, J0, J1, J2, J3, J4, beq_self_eq_true, J5, J6, J7, J8, J9, JA, JB, Op.operands, JC, JD, JE, JF, JG, JH, JI, JJ, JK, JL, Nat.reduceBEq, JM, JN, JO, JP, JQ, JR, JS, JT, JU, JV, JW, wr, JX, JY, Nat.reduceSub, Nat.reduceMul, JZ, Ka, Kb, Kc, Kd, Ke, Kf, Kg, Kh, Ki, Kj, Kk, Kl, Km, Kn, Ko, Kp, Kq, Kr, Ks, Kt, Ku, Kv, Kw, Kx, Ky, Kz, K0, K1, K2, K3, K4, K5, K6, K7, K8, K9, KA, KC, KD, reduceCtorEq, Int.reduceLT, Int.reduceLE, Int.reduceAdd, Int.reduceSub, Int.reduceNeg, Int.reduceToNat, Int.reduceEq, KE, KF, Nat.reduceLeDiff, KG, KH, KI, or_true, true_or, or_false, false_or]) | ((with_reducible (first | refine Ok.br ?_ ?_ | refine Ok.gd ?_ ?_ | refine Ok.ld ?_ ?_)) <;> (intro g; (try simp only [Zz] at g); (first | (exfalso; omega) | skip)))))
  exact hQ'.out _ ⟨l, d2, rfl, hp, hs⟩

abbrev Strict (p : List RP) : Prop := p.Pairwise fun a b => ltR a b = true

/-- The different ones among the first m. -/
structure Ded (d : Array RP) (p : List RP) (m : Nat) : Prop where
  st : Strict p
  mem : ∀ x, x ∈ p ↔ ∃ j, j < m ∧ d[j]! = x

theorem sorted_lt {d : Array RP} {n m j : Nat} (hs : SortedIn ltR 0 n d) (hm : 0 < m) (hmn : m < n) (hj : j < m) (hne : ¬ d[m]! = d[m - 1]!) : ltR d[j]! d[m]! = true := by
  cases h : ltR d[j]! d[m]! with
  | true => rfl
  | false =>
    exfalso
    have e := ltR_tot h (hs j m (by omega) hj hmn)
    by_cases hjm : j = m - 1
    · subst hjm; exact hne e.symm
    · have h2 := hs j (m - 1) (by omega) (by omega) (by omega)
      rw [e] at h2
      exact hne (ltR_tot (hs (m - 1) m (by omega) (by omega) hmn) h2)

theorem Ded.next {d : Array RP} {n m : Nat} {p : List RP} (h : Ded d p m) (hs : SortedIn ltR 0 n d) (hm : 0 < m) (hmn : m < n) (hne : ¬ d[m]! = d[m - 1]!) : Ded d (p ++ [d[m]!]) (m + 1) := by
  refine ⟨List.pairwise_append.2 ⟨h.st, List.pairwise_singleton _ _, fun x hx y hy => ?_⟩, fun x => ?_⟩
  · obtain ⟨j, hj, rfl⟩ := (h.mem x).1 hx
    rw [List.mem_singleton.1 hy]
    exact sorted_lt hs hm hmn hj hne
  · rw [List.mem_append, h.mem, List.mem_singleton]
    constructor
    · rintro (⟨j, hj, e⟩ | rfl)
      · exact ⟨j, by omega, e⟩
      · exact ⟨m, by omega, rfl⟩
    · rintro ⟨j, hj, e⟩
      by_cases hjm : j = m
      · subst hjm; exact .inr e.symm
      · exact .inl ⟨j, by omega, e⟩
theorem Ded.skip {d : Array RP} {m : Nat} {p : List RP} (h : Ded d p m) (hm : 0 < m) (he : d[m]! = d[m - 1]!) : Ded d p (m + 1) := by
  refine ⟨h.st, fun x => ?_⟩
  rw [h.mem]
  constructor
  · rintro ⟨j, hj, e⟩; exact ⟨j, by omega, e⟩
  · rintro ⟨j, hj, e⟩
    by_cases hjm : j = m
    · subst hjm; exact ⟨j - 1, by omega, by rw [← he]; exact e⟩
    · exact ⟨j, by omega, e⟩
theorem Ded.one {d : Array RP} (h : 0 < d.size) : Ded d (d.toList.take 1) 1 := by
  have e : d.toList.take 1 = [d[0]!] := by
    obtain ⟨l⟩ := d
    cases l with
    | nil => simp at h
    | cons x l => rfl
  rw [e]
  refine ⟨List.pairwise_singleton _ _, fun x => ?_⟩
  rw [List.mem_singleton]
  constructor
  · rintro rfl; exact ⟨0, by omega, rfl⟩
  · rintro ⟨j, hj, e⟩
    obtain rfl : j = 0 := by omega
    exact e.symm

theorem take_snoc {e : Array RP} {i : Nat} (h : i < e.size) : e.toList.take (i + 1) = e.toList.take i ++ [e[i]!] := by
  rw [List.take_add_one]
  congr 1
  rw [Array.getElem?_toList, getElem!_pos e i h]
  simp [h]
theorem take_set {e : Array RP} {i : Nat} (h : i < e.size) (y : RP) : (e.setIfInBounds i y).toList.take (i + 1) = e.toList.take i ++ [y] := by
  rw [take_snoc (by simpa using h)]
  congr 1
  · rw [Array.toList_setIfInBounds, List.take_set]
    exact List.set_eq_of_length_le (by rw [List.length_take]; omega)
  · rw [getElem!_pos _ _ (by simpa using h)]; simp
theorem getR_set {e : Array RP} {i j : Nat} (h : i ≠ j) (hj : j < e.size) (y : RP) : (e.setIfInBounds i y)[j]! = e[j]! := by
  have h1 : j < (e.setIfInBounds i y).size := by simpa using hj
  rw [getElem!_pos (e.setIfInBounds i y) j h1, getElem!_pos e j hj]
  first
    | exact Array.getElem_setIfInBounds_ne (h := h) ..
    | (rw [Array.getElem_setIfInBounds]; exact if_neg h)
    | (simp only [Array.getElem_setIfInBounds]; rw [if_neg h])
theorem flL_take : ∀ (l : List RP) (i : Nat), (flL l).take (i * 2) = flL (l.take i)
  | [], i => by simp [flL]
  | x :: l, 0 => by simp [flL]
  | x :: l, i + 1 => by
    rw [show (i + 1) * 2 = i * 2 + 1 + 1 by omega]
    simp only [flL, List.take_succ_cons]
    rw [flL_take l i]
theorem fl_take (e : Array RP) (i : Nat) : (fl e).take (i * 2) = flL (e.toList.take i) := flL_take _ _

theorem fl_at2 {d : Array RP} {i k : Nat} (h : i + k < d.size) : ((fl d).drop (i * 2 + k * 2)).take 2 = [.int .i64 d[i + k]!.1, .int .i64 d[i + k]!.2] := by
  rw [← Nat.add_mul]; exact fl_at h

theorem row_head {g : Heap} {b q cap z : Nat} {p : List RP} {rest : List V} {rw : Bool} (h : hcells g b q = some (rw, flL p ++ rest)) (hc : p.length ≤ cap) (hc2 : cap ≤ 9223372036854775807) : RowAt g (.sl (.at b q 0) p.length cap z) p := by
  refine ⟨_, _, _, rfl, hc, hc2, .inr ⟨b, q, 0, _, _, rfl, h, fun i x hx => ?_, by rw [List.length_append, flL_len]; omega⟩⟩
  have hi := (List.getElem?_eq_some_iff.1 hx).1
  rw [Nat.zero_add, List.drop_append_of_le_length (by rw [flL_len]; omega), List.take_append_of_le_length (by rw [List.length_drop, flL_len]; omega)]
  exact flL_at p i x hx

set_option maxHeartbeats 4000000 in
theorem compact_at {G : Heap} {b g n : Nat} {d : Array RP} (hG : hcells G b g = some (true, fl d)) (hn : d.size = n) (h0 : 0 < n) (hl : n ≤ 1000) (hs : SortedIn ltR 0 n d) :
    Ev.Ok (D X (.fn 31 []) [.sl (.at b g 0) n n 2] G) fun y => ∃ (w : V) (c : List V) (p : List RP), y = (w, G.set b (.cells g true c)) ∧ RowAt (G.set b (.cells g true c)) w p ∧ Ded d p n := by
  refine Ok.aim fun Q hQ => ?_
  have hQ' := Hid.mk hQ
  clear hQ
  have hb := hcells_lt hG
  have hsame := set_same' hG
  have hwhole : Ded d d.toList n → Q (.sl (.at b g 0) n n 2, G) := fun h => by
    refine hQ'.out _ ⟨_, fl d, d.toList, by rw [hsame], ?_, h⟩
    rw [hsame]
    have hr := row_head (g := G) (b := b) (q := g) (cap := n) (z := 2) (p := d.toList) (rest := []) (rw := true) (by rw [List.append_nil]; exact hG) (by simp; omega) (by omega)
    simp only [Array.length_toList, hn] at hr
    exact hr
  have hwhole' := Hid.mk hwhole
  have hsame' := Hid.mk hsame
  have hd1 := Ded.one (d := d) (by omega)
  clear hwhole hsame
  by_cases hn2 : n < 2
  · have hn2' : (n : Int) < 2 := by omega
    (refine Ok.body body31 pin31 ?_; simp only [c31, Try.f31, Option.getD_some, nslot31, List.append_nil, List.map, List.replicate, List.length_cons, List.length_nil, Nat.reduceAdd, Nat.reduceSub, List.cons_append, List.nil_append])
    (repeat' (first | (simp -implicitDefEqProofs (maxSteps := 1000000) (disch := first | assumption | omega | (simp only [KE, JO, JP, KF]; omega)) only [*, lenV, ty3, ty22, ty24, ty25, slot31, plan31_6, plan31_11, Za, Zb, Zc, Zd, Ze, Zf, Zg, Zh, Zi, Zj, and_true, true_and, Ja, Jb, Jc, cond_true, cond_false, Jd, Je, Jf, Jg, Jh, Ji, Jj, St.put, Jk, Jl, Jm, Jn, Jo, Jp, Jq, Jr, Js, Jt, decide_true, decide_false, Nat.reduceEqDiff, Ju, Jv, Jw, Jx, Jy, rd, TI.kind, Nat.reduceLT, Nat.reduceAdd, and_self, Jz, J0, J1, J2, J3, J4, beq_self_eq_true, J5, J6, J7, J8, J9, JA, JB, Op.operands, JC, JD, JE, JF, JG, JH, JI, JJ, JK, JL, Nat.reduceBEq, JM, JN, JO, JP, JQ, JR, JS, JT, JU, JV, JW, wr, JX, JY, Nat.reduceSub, Nat.reduceMul, JZ, Ka, Kb, Kc, Kd, Ke, Kf, Kg, Kh, Ki, Kj, Kk, Kl, Km, Kn, Ko, Kp, Kq, Kr, Ks, Kt, Ku, Kv, Kw, Kx, Ky, Kz, K0, K1, K2, K3, K4, K5, K6, K7, K8, K9, KA, KC, KD, reduceCtorEq, Int.reduceLT, Int.reduceLE, Int.reduceAdd, Int.reduceSub, Int.reduceNeg, Int.reduceToNat, Int.reduceEq, KE, KF, Nat.reduceLeDiff, KG, KH, KI, or_true, true_or, or_false, false_or]) | ((with_reducible (first | refine Ok.br ?_ ?_ | refine Ok.gd ?_ ?_ | refine Ok.ld ?_ ?_)) <;> (intro g; (try simp only [Zz] at g); (first | (exfalso; omega) | skip)))))
    refine hwhole'.out ?_
    have e : n = 1 := by omega
    rw [List.take_of_length_le (by simp; omega)] at hd1
    rw [e]; exact hd1
  · have hn2' : ¬ (n : Int) < 2 := by omega
    (refine Ok.body body31 pin31 ?_; simp only [c31, Try.f31, Option.getD_some, nslot31, List.append_nil, List.map, List.replicate, List.length_cons, List.length_nil, Nat.reduceAdd, Nat.reduceSub, List.cons_append, List.nil_append])
    (repeat' (first | (simp -implicitDefEqProofs (maxSteps := 1000000) (disch := first | assumption | omega | (simp only [KE, JO, JP, KF]; omega)) only [*, lenV, ty3, ty22, ty24, ty25, slot31, plan31_6, plan31_11, Za, Zb, Zc, Zd, Ze, Zf, Zg, Zh, Zi, Zj, and_true, true_and, Ja, Jb, Jc, cond_true, cond_false, Jd, Je, Jf, Jg, Jh, Ji, Jj, St.put, Jk, Jl, Jm, Jn, Jo, Jp, Jq, Jr, Js, Jt, decide_true, decide_false, Nat.reduceEqDiff, Ju, Jv, Jw, Jx, Jy, rd, TI.kind, Nat.reduceLT, Nat.reduceAdd, and_self, Jz, J0, J1, J2, J3, J4, beq_self_eq_true, J5, J6, J7, J8, J9, JA, JB, Op.operands, JC, JD, JE, JF, JG, JH, JI, JJ, JK, JL, Nat.reduceBEq, JM, JN, JO, JP, JQ, JR, JS, JT, JU, JV, JW, wr, JX, JY, Nat.reduceSub, Nat.reduceMul, JZ, Ka, Kb, Kc, Kd, Ke, Kf, Kg, Kh, Ki, Kj, Kk, Kl, Km, Kn, Ko, Kp, Kq, Kr, Ks, Kt, Ku, Kv, Kw, Kx, Ky, Kz, K0, K1, K2, K3, K4, K5, K6, K7, K8, K9, KA, KC, KD, reduceCtorEq, Int.reduceLT, Int.reduceLE, Int.reduceAdd, Int.reduceSub, Int.reduceNeg, Int.reduceToNat, Int.reduceEq, KE, KF, Nat.reduceLeDiff, KG, KH, KI, or_true, true_or, or_false, false_or]) | ((with_reducible (first | refine Ok.br ?_ ?_ | refine Ok.gd ?_ ?_ | refine Ok.ld ?_ ?_)) <;> (intro g; (try simp only [Zz] at g); (first | (exfalso; omega) | skip)))))
    refine Ok.loop [false, false, true, true, true, true, false, false, false, false, true, true, true, true, true, true, true, true, true, true, true, true, true, true, true, true, true, true, true, true, true, true, true, true, true, true, true, true, true, true, true, true, true, true, true, true, true, true, true, true, true, true, true, true, true, true, true, true, true, true, false] (fun m s2 => ∃ i : Nat, m = n - i ∧ 0 < i ∧ i ≤ n ∧ tv s2.e 3 = .v (.int .i64 i) ∧ s2.l = [] ∧ s2.h = G ∧ Ded d (d.toList.take i) i)
      (fun x s2 => s2.l = [] ∧ ((x = .exit 0 ∧ s2.h = G ∧ Ded d d.toList n) ∨ (x = .ret ∧ ∃ (w : V) (c : List V) (p : List RP), tv s2.e 2 = .v w ∧ s2.h = G.set b (.cells g true c) ∧ RowAt (G.set b (.cells g true c)) w p ∧ Ded d p n))) (n - 1) ⟨1, rfl, by omega, by omega, rfl, rfl, rfl, hd1⟩ ?_ ?_
    · intro m ⟨e', l', H'⟩ hW ⟨i, hm, hi0, hin, h3, k2, k3, hd⟩
      dsimp only at hW h3 k2 k3
      subst l' H'
      rw [hW.spread]
      simp only [spread_t, spread_f, spread_n, Nat.zero_add, Nat.reduceAdd, h3]
      clear hW hQ' hwhole'
      have hd' := Hid.mk hd
      clear hd hd1
      by_cases hlt : i < n
      · have hlt' : (i : Int) < (n : Int) := by omega
        have e1 : (i : Int) - 1 = ((i - 1 : Nat) : Int) := by omega
        have g1 : 0 ≤ (i : Int) ∧ (i : Int) < (n : Int) := by omega
        have g2 : 0 ≤ ((i - 1 : Nat) : Int) ∧ ((i - 1 : Nat) : Int) < (n : Int) := by omega
        have g3 : i < d.size := by omega
        have g4 : i - 1 < d.size := by omega
        by_cases hxy : d[i]! = d[i - 1]!
        · have hsk := Hid.mk (hd'.out.skip hi0 hxy)
          have hxy' := Hid.mk hxy
          have hq1 : d[i]!.1 = d[i - 1]!.1 := by rw [hxy]
          have hq2 : d[i]!.2 = d[i - 1]!.2 := by rw [hxy]
          clear hxy
          have hi00 : ¬ i = 0 := by omega
          (repeat' (first | (simp -implicitDefEqProofs (maxSteps := 1000000) (disch := first | assumption | omega | (simp only [KE, JO, JP, KF]; omega)) only [*, lenV, fl_len, fl_at, fl_at2, fl_set, eq_self, Array.size_setIfInBounds, pr_eta, SA.add, Nat.zero_add, ty3, ty22, ty24, ty25, slot31, plan31_6, plan31_11, Za, Zb, Zc, Zd, Ze, Zf, Zg, Zh, Zi, Zj, and_true, true_and, Ja, Jb, Jc, cond_true, cond_false, Jd, Je, Jf, Jg, Jh, Ji, Jj, St.put, Jk, Jl, Jm, Jn, Jo, Jp, Jq, Jr, Js, Jt, decide_true, decide_false, Nat.reduceEqDiff, Ju, Jv, Jw, Jx, Jy, rd, TI.kind, Nat.reduceLT, Nat.reduceAdd, and_self, Jz, J0, J1, J2, J3, J4, beq_self_eq_true, J5, J6, J7, J8, J9, JA, JB, Op.operands, JC, JD, JE, JF, JG, JH, JI, JJ, JK, JL, Nat.reduceBEq, JM, JN, JO, JP, JQ, JR, JS, JT, JU, JV, JW, wr, JX, JY, Nat.reduceSub, Nat.reduceMul, JZ, Ka, Kb, Kc, Kd, Ke, Kf, Kg, Kh, Ki, Kj, Kk, Kl, Km, Kn, Ko, Kp, Kq, Kr, Ks, Kt, Ku, Kv, Kw, Kx, Ky, Kz, K0, K1, K2, K3, K4, K5, K6, K7, K8, K9, KA, KC, KD, reduceCtorEq, Int.reduceLT, Int.reduceLE, Int.reduceAdd, Int.reduceSub, Int.reduceNeg, Int.reduceToNat, Int.reduceEq, KE, KF, Nat.reduceLeDiff, KG, KH, KI, or_true, true_or, or_false, false_or]) | ((with_reducible (first | refine Ok.br ?_ ?_ | refine Ok.gd ?_ ?_ | refine Ok.ld ?_ ?_)) <;> (intro g; (try simp only [Zz] at g); (first | (exfalso; omega) | skip)))))
          obtain ⟨r, hr⟩ : ∃ r, n - i = r := ⟨_, rfl⟩
          simp only [hr]
          have hrn : i + r = n := by omega
          clear hr hq1 hq2 hxy' hd' e1 g1 g2 g3 g4
          refine Ok.loop [false, false, false, true, false, true, false, false, false, false, false, false, false, false, false, false, false, false, false, false, false, false, false, false, false, false, false, false, false, true, true, true, true, true, true, true, true, true, true, true, true, true, true, true, true, true, true, true, true, true, true, true, true, true, false, false, false, false, false, false, false] (fun m s2 => ∃ (k ip : Nat) (e : Array RP), m = r - k ∧ 0 < k ∧ k ≤ r ∧ i ≤ ip ∧ ip < i + k ∧ tv s2.e 3 = .v (.int .i64 ip) ∧ tv s2.e 5 = .v (.int .i64 k) ∧ s2.l = [] ∧ s2.h = G.set b (.cells g true (fl e)) ∧ e.size = n ∧ (∀ j, i + k ≤ j + 1 → j < n → e[j]! = d[j]!) ∧ Ded d (e.toList.take ip) (i + k))
            (fun x s2 => x = .exit 2 ∧ s2.l = [] ∧ ∃ (ip : Nat) (e : Array RP), 0 < ip ∧ ip < n ∧ tv s2.e 3 = .v (.int .i64 ip) ∧ s2.h = G.set b (.cells g true (fl e)) ∧ e.size = n ∧ Ded d (e.toList.take ip) n) (r - 1) ⟨1, i, d, rfl, by omega, by omega, by omega, by omega, rfl, rfl, rfl, hsame'.out.symm, hn, fun _ _ _ => rfl, hsk.out⟩ ?_ ?_
          · intro m2 ⟨e3, l3, H3⟩ hW2 ⟨k, ip, e, hm2, hk0, hkr, hip, hip2, q3, q5, k2, k3, hsz, htl, hdd⟩
            dsimp only at hW2 q3 q5 k2 k3
            subst l3 H3
            rw [hW2.spread]
            simp only [spread_t, spread_f, spread_n, Nat.zero_add, Nat.reduceAdd, q3, q5]
            clear hW2 hsk
            by_cases hkl : k < r
            · have hkl' : (k : Int) < (r : Int) := by omega
              have e1 : (k : Int) - 1 = ((k - 1 : Nat) : Int) := by omega
              have g1 : 0 ≤ (k : Int) ∧ (k : Int) < (r : Int) := by omega
              have g2 : 0 ≤ ((k - 1 : Nat) : Int) ∧ ((k - 1 : Nat) : Int) < (r : Int) := by omega
              have g3 : i + k < e.size := by omega
              have g4 : i + (k - 1) < e.size := by omega
              have g5 : 0 ≤ (ip : Int) ∧ (ip : Int) < (n : Int) := by omega
              have g6 : ip < e.size := by omega
              have t1 := htl (i + k) (by omega) (by omega)
              have t2 := htl (i + (k - 1)) (by omega) (by omega)
              have t2' : d[i + (k - 1)]! = d[i + k - 1]! := by rw [show i + (k - 1) = i + k - 1 by omega]
              have htl' := Hid.mk htl
              have hdd' := Hid.mk hdd
              clear htl hdd
              by_cases hxy : e[i + k]! = e[i + (k - 1)]!
              · have hskip := Hid.mk (hdd'.out.skip (by omega) (by rw [← t1, hxy, t2, t2']))
                have hq1 : e[i + k]!.1 = e[i + (k - 1)]!.1 := by rw [hxy]
                have hq2 : e[i + k]!.2 = e[i + (k - 1)]!.2 := by rw [hxy]
                clear hxy t1 t2 t2'
                (repeat' (first | (simp -implicitDefEqProofs (maxSteps := 1000000) (disch := first | assumption | omega | (simp only [KE, JO, JP, KF]; omega)) only [*, lenV, fl_len, fl_at, fl_at2, fl_set, eq_self, Array.size_setIfInBounds, pr_eta, SA.add, Nat.zero_add, ty3, ty22, ty24, ty25, slot31, plan31_6, plan31_11, Za, Zb, Zc, Zd, Ze, Zf, Zg, Zh, Zi, Zj, and_true, true_and, Ja, Jb, Jc, cond_true, cond_false, Jd, Je, Jf, Jg, Jh, Ji, Jj, St.put, Jk, Jl, Jm, Jn, Jo, Jp, Jq, Jr, Js, Jt, decide_true, decide_false, Nat.reduceEqDiff, Ju, Jv, Jw, Jx, Jy, rd, TI.kind, Nat.reduceLT, Nat.reduceAdd, and_self, Jz, J0, J1, J2, J3, J4, beq_self_eq_true, J5, J6, J7, J8, J9, JA, JB, Op.operands, JC, JD, JE, JF, JG, JH, JI, JJ, JK, JL, Nat.reduceBEq, JM, JN, JO, JP, JQ, JR, JS, JT, JU, JV, JW, wr, JX, JY, Nat.reduceSub, Nat.reduceMul, JZ, Ka, Kb, Kc, Kd, Ke, Kf, Kg, Kh, Ki, Kj, Kk, Kl, Km, Kn, Ko, Kp, Kq, Kr, Ks, Kt, Ku, Kv, Kw, Kx, Ky, Kz, K0, K1, K2, K3, K4, K5, K6, K7, K8, K9, KA, KC, KD, reduceCtorEq, Int.reduceLT, Int.reduceLE, Int.reduceAdd, Int.reduceSub, Int.reduceNeg, Int.reduceToNat, Int.reduceEq, KE, KF, Nat.reduceLeDiff, KG, KH, KI, or_true, true_or, or_false, false_or]) | ((with_reducible (first | refine Ok.br ?_ ?_ | refine Ok.gd ?_ ?_ | refine Ok.ld ?_ ?_)) <;> (intro g; (try simp only [Zz] at g); (first | (exfalso; omega) | skip)))))
                exact Turn.next (r - (k + 1)) (by omega) ⟨rfl, k + 1, ip, e, rfl, by omega, by omega, hip, by omega, rfl, rfl, rfl, rfl, hsz, fun j h1 h2 => htl'.out j (by omega) h2, hskip.out⟩
              · have hnext := hdd'.out.next hs (by omega) (by omega) (by rw [← t1, ← t2', ← t2]; exact hxy)
                rw [← t1, ← take_set (by omega)] at hnext
                have hnext' := Hid.mk hnext
                have hnx : ∀ P : Prop, (¬ e[i + k]!.1 = e[i + (k - 1)]!.1 → P) → (e[i + k]!.1 = e[i + (k - 1)]!.1 → ¬ e[i + k]!.2 = e[i + (k - 1)]!.2 → P) → P := fun P p q => by
                  by_cases h1 : e[i + k]!.1 = e[i + (k - 1)]!.1
                  · exact q h1 fun h2 => hxy (Prod.ext h1 h2)
                  · exact p h1
                have htl2 : Hid (∀ y, ∀ j, i + (k + 1) ≤ j + 1 → j < n → (e.setIfInBounds ip y)[j]! = d[j]!) := ⟨fun y j h1 h2 => by rw [getR_set (by omega) (by omega)]; exact htl'.out j (by omega) h2⟩
                clear hnext hxy t1 t2 t2'
                apply hnx <;> clear hnx
                · intro hn1
                  (repeat' (first | (simp -implicitDefEqProofs (maxSteps := 1000000) (disch := first | assumption | omega | (simp only [KE, JO, JP, KF]; omega)) only [*, lenV, fl_len, fl_at, fl_at2, fl_set, eq_self, Array.size_setIfInBounds, pr_eta, SA.add, Nat.zero_add, ty3, ty22, ty24, ty25, slot31, plan31_6, plan31_11, Za, Zb, Zc, Zd, Ze, Zf, Zg, Zh, Zi, Zj, and_true, true_and, Ja, Jb, Jc, cond_true, cond_false, Jd, Je, Jf, Jg, Jh, Ji, Jj, St.put, Jk, Jl, Jm, Jn, Jo, Jp, Jq, Jr, Js, Jt, decide_true, decide_false, Nat.reduceEqDiff, Ju, Jv, Jw, Jx, Jy, rd, TI.kind, Nat.reduceLT, Nat.reduceAdd, and_self, Jz, J0, J1, J2, J3, J4, beq_self_eq_true, J5, J6, J7, J8, J9, JA, JB, Op.operands, JC, JD, JE, JF, JG, JH, JI, JJ, JK, JL, Nat.reduceBEq, JM, JN, JO, JP, JQ, JR, JS, JT, JU, JV, JW, wr, JX, JY, Nat.reduceSub, Nat.reduceMul, JZ, Ka, Kb, Kc, Kd, Ke, Kf, Kg, Kh, Ki, Kj, Kk, Kl, Km, Kn, Ko, Kp, Kq, Kr, Ks, Kt, Ku, Kv, Kw, Kx, Ky, Kz, K0, K1, K2, K3, K4, K5, K6, K7, K8, K9, KA, KC, KD, reduceCtorEq, Int.reduceLT, Int.reduceLE, Int.reduceAdd, Int.reduceSub, Int.reduceNeg, Int.reduceToNat, Int.reduceEq, KE, KF, Nat.reduceLeDiff, KG, KH, KI, or_true, true_or, or_false, false_or]) | ((with_reducible (first | refine Ok.br ?_ ?_ | refine Ok.gd ?_ ?_ | refine Ok.ld ?_ ?_)) <;> (intro g; (try simp only [Zz] at g); (first | (exfalso; omega) | skip)))))
                  exact Turn.next (r - (k + 1)) (by omega) ⟨rfl, k + 1, ip + 1, e.setIfInBounds ip e[i + k]!, rfl, by omega, by omega, by omega, by omega, rfl, rfl, rfl, rfl, by simpa using hsz, htl2.out _, hnext'.out⟩
                · intro hn1 hn2
                  have hq1' := Hid.mk hn1
                  (repeat' (first | (simp -implicitDefEqProofs (maxSteps := 1000000) (disch := first | assumption | omega | (simp only [KE, JO, JP, KF]; omega)) only [*, lenV, fl_len, fl_at, fl_at2, fl_set, eq_self, Array.size_setIfInBounds, pr_eta, SA.add, Nat.zero_add, ty3, ty22, ty24, ty25, slot31, plan31_6, plan31_11, Za, Zb, Zc, Zd, Ze, Zf, Zg, Zh, Zi, Zj, and_true, true_and, Ja, Jb, Jc, cond_true, cond_false, Jd, Je, Jf, Jg, Jh, Ji, Jj, St.put, Jk, Jl, Jm, Jn, Jo, Jp, Jq, Jr, Js, Jt, decide_true, decide_false, Nat.reduceEqDiff, Ju, Jv, Jw, Jx, Jy, rd, TI.kind, Nat.reduceLT, Nat.reduceAdd, and_self, Jz, J0, J1, J2, J3, J4, beq_self_eq_true, J5, J6, J7, J8, J9, JA, JB, Op.operands, JC, JD, JE, JF, JG, JH, JI, JJ, JK, JL, Nat.reduceBEq, JM, JN, JO, JP, JQ, JR, JS, JT, JU, JV, JW, wr, JX, JY, Nat.reduceSub, Nat.reduceMul, JZ, Ka, Kb, Kc, Kd, Ke, Kf, Kg, Kh, Ki, Kj, Kk, Kl, Km, Kn, Ko, Kp, Kq, Kr, Ks, Kt, Ku, Kv, Kw, Kx, Ky, Kz, K0, K1, K2, K3, K4, K5, K6, K7, K8, K9, KA, KC, KD, reduceCtorEq, Int.reduceLT, Int.reduceLE, Int.reduceAdd, Int.reduceSub, Int.reduceNeg, Int.reduceToNat, Int.reduceEq, KE, KF, Nat.reduceLeDiff, KG, KH, KI, or_true, true_or, or_false, false_or]) | ((with_reducible (first | refine Ok.br ?_ ?_ | refine Ok.gd ?_ ?_ | refine Ok.ld ?_ ?_)) <;> (intro g; (try simp only [Zz] at g); (first | (exfalso; omega) | skip)))))
                  exact Turn.next (r - (k + 1)) (by omega) ⟨rfl, k + 1, ip + 1, e.setIfInBounds ip e[i + k]!, rfl, by omega, by omega, by omega, by omega, rfl, rfl, rfl, by rw [← pr_eta e[i + k]!, hq1'.out], by simpa using hsz, htl2.out _, hnext'.out⟩
            · have hkl' : ¬ (k : Int) < (r : Int) := by omega
              (repeat' (first | (simp -implicitDefEqProofs (maxSteps := 1000000) (disch := first | assumption | omega | (simp only [KE, JO, JP, KF]; omega)) only [*, lenV, fl_len, fl_at, fl_at2, fl_set, eq_self, Array.size_setIfInBounds, pr_eta, SA.add, Nat.zero_add, ty3, ty22, ty24, ty25, slot31, plan31_6, plan31_11, Za, Zb, Zc, Zd, Ze, Zf, Zg, Zh, Zi, Zj, and_true, true_and, Ja, Jb, Jc, cond_true, cond_false, Jd, Je, Jf, Jg, Jh, Ji, Jj, St.put, Jk, Jl, Jm, Jn, Jo, Jp, Jq, Jr, Js, Jt, decide_true, decide_false, Nat.reduceEqDiff, Ju, Jv, Jw, Jx, Jy, rd, TI.kind, Nat.reduceLT, Nat.reduceAdd, and_self, Jz, J0, J1, J2, J3, J4, beq_self_eq_true, J5, J6, J7, J8, J9, JA, JB, Op.operands, JC, JD, JE, JF, JG, JH, JI, JJ, JK, JL, Nat.reduceBEq, JM, JN, JO, JP, JQ, JR, JS, JT, JU, JV, JW, wr, JX, JY, Nat.reduceSub, Nat.reduceMul, JZ, Ka, Kb, Kc, Kd, Ke, Kf, Kg, Kh, Ki, Kj, Kk, Kl, Km, Kn, Ko, Kp, Kq, Kr, Ks, Kt, Ku, Kv, Kw, Kx, Ky, Kz, K0, K1, K2, K3, K4, K5, K6, K7, K8, K9, KA, KC, KD, reduceCtorEq, Int.reduceLT, Int.reduceLE, Int.reduceAdd, Int.reduceSub, Int.reduceNeg, Int.reduceToNat, Int.reduceEq, KE, KF, Nat.reduceLeDiff, KG, KH, KI, or_true, true_or, or_false, false_or]) | ((with_reducible (first | refine Ok.br ?_ ?_ | refine Ok.gd ?_ ?_ | refine Ok.ld ?_ ?_)) <;> (intro g; (try simp only [Zz] at g); (first | (exfalso; omega) | skip)))))
              exact Turn.exit ⟨rfl, rfl, rfl, ip, e, by omega, by omega, rfl, rfl, hsz, by rwa [show i + k = n by omega] at hdd⟩
          · intro x ⟨e3, l3, H3⟩ hW2 ⟨hx, k2, ip, e, hip, hipn, q3, k3, hsz, hdd⟩
            dsimp only at hW2 q3 k2 k3
            subst l3 hx H3
            rw [hW2.spread]
            simp only [spread_t, spread_f, spread_n, Nat.zero_add, Nat.reduceAdd, q3]
            clear hW2
            have hi01 : ¬ ip = 0 := by omega
            have hi02 : ¬ n - ip = 0 := by omega
            have hdd' := Hid.mk hdd
            clear hdd
            have hrl : (reps (n - ip) [V.int .i64 0, V.int .i64 0]).length = (n - ip) * 2 := by rw [reps_length]; rfl
            have hgd : ip * 2 + (n - ip) * 2 ≤ n * 2 := by omega
            have hft := fl_take e ip
            (repeat' (first | (simp -implicitDefEqProofs (maxSteps := 1000000) (disch := first | assumption | omega | (simp only [KE, JO, JP, KF]; omega)) only [*, lenV, fl_len, fl_at, fl_at2, fl_set, eq_self, Array.size_setIfInBounds, pr_eta, SA.add, Nat.zero_add, ty3, ty22, ty24, ty25, slot31, plan31_6, plan31_11, Za, Zb, Zc, Zd, Ze, Zf, Zg, Zh, Zi, Zj, and_true, true_and, Ja, Jb, Jc, cond_true, cond_false, Jd, Je, Jf, Jg, Jh, Ji, Jj, St.put, Jk, Jl, Jm, Jn, Jo, Jp, Jq, Jr, Js, Jt, decide_true, decide_false, Nat.reduceEqDiff, Ju, Jv, Jw, Jx, Jy, rd, TI.kind, Nat.reduceLT, Nat.reduceAdd, and_self, Jz, J0, J1, J2, J3, J4, beq_self_eq_true, J5, J6, J7, J8, J9, JA, JB, Op.operands, JC, JD, JE, JF, JG, JH, JI, JJ, JK, JL, Nat.reduceBEq, JM, JN, JO, JP, JQ, JR, JS, JT, JU, JV, JW, wr, JX, JY, Nat.reduceSub, Nat.reduceMul, JZ, Ka, Kb, Kc, Kd, Ke, Kf, Kg, Kh, Ki, Kj, Kk, Kl, Km, Kn, Ko, Kp, Kq, Kr, Ks, Kt, Ku, Kv, Kw, Kx, Ky, Kz, K0, K1, K2, K3, K4, K5, K6, K7, K8, K9, KA, KC, KD, reduceCtorEq, Int.reduceLT, Int.reduceLE, Int.reduceAdd, Int.reduceSub, Int.reduceNeg, Int.reduceToNat, Int.reduceEq, KE, KF, Nat.reduceLeDiff, KG, KH, KI, or_true, true_or, or_false, false_or]) | ((with_reducible (first | refine Ok.br ?_ ?_ | refine Ok.gd ?_ ?_ | refine Ok.ld ?_ ?_)) <;> (intro g; (try simp only [Zz] at g); (first | (exfalso; omega) | skip)))))
            have hpl : (e.toList.take ip).length = ip := by rw [List.length_take, Array.length_toList]; omega
            refine Turn.ret ⟨rfl, rfl, .inr ⟨rfl, _, _, e.toList.take ip, rfl, rfl, ?_, hdd'.out⟩⟩
            have hrow := row_head (g := G.set b (.cells g true (flL (e.toList.take ip) ++ (reps (n - ip) [V.int .i64 0, V.int .i64 0] ++ List.drop (ip * 2 + (n - ip) * 2) (fl e))))) (q := g) (cap := n) (z := 2) (p := e.toList.take ip) (hcells_set_eq hb) (by omega) (by omega)
            rw [hpl] at hrow
            exact hrow
        · have hnx : ∀ P : Prop, (¬ d[i]!.1 = d[i - 1]!.1 → P) → (d[i]!.1 = d[i - 1]!.1 → ¬ d[i]!.2 = d[i - 1]!.2 → P) → P := fun P p q => by
            by_cases h1 : d[i]!.1 = d[i - 1]!.1
            · exact q h1 fun h2 => hxy (Prod.ext h1 h2)
            · exact p h1
          have hnext := hd'.out.next hs hi0 hlt hxy
          rw [← take_snoc (by omega)] at hnext
          have hnext' := Hid.mk hnext
          clear hnext hxy
          apply hnx <;> clear hnx
          · intro hn1
            (repeat' (first | (simp -implicitDefEqProofs (maxSteps := 1000000) (disch := first | assumption | omega | (simp only [KE, JO, JP, KF]; omega)) only [*, lenV, fl_len, fl_at, fl_at2, fl_set, eq_self, Array.size_setIfInBounds, pr_eta, SA.add, Nat.zero_add, ty3, ty22, ty24, ty25, slot31, plan31_6, plan31_11, Za, Zb, Zc, Zd, Ze, Zf, Zg, Zh, Zi, Zj, and_true, true_and, Ja, Jb, Jc, cond_true, cond_false, Jd, Je, Jf, Jg, Jh, Ji, Jj, St.put, Jk, Jl, Jm, Jn, Jo, Jp, Jq, Jr, Js, Jt, decide_true, decide_false, Nat.reduceEqDiff, Ju, Jv, Jw, Jx, Jy, rd, TI.kind, Nat.reduceLT, Nat.reduceAdd, and_self, Jz, J0, J1, J2, J3, J4, beq_self_eq_true, J5, J6, J7, J8, J9, JA, JB, Op.operands, JC, JD, JE, JF, JG, JH, JI, JJ, JK, JL, Nat.reduceBEq, JM, JN, JO, JP, JQ, JR, JS, JT, JU, JV, JW, wr, JX, JY, Nat.reduceSub, Nat.reduceMul, JZ, Ka, Kb, Kc, Kd, Ke, Kf, Kg, Kh, Ki, Kj, Kk, Kl, Km, Kn, Ko, Kp, Kq, Kr, Ks, Kt, Ku, Kv, Kw, Kx, Ky, Kz, K0, K1, K2, K3, K4, K5, K6, K7, K8, K9, KA, KC, KD, reduceCtorEq, Int.reduceLT, Int.reduceLE, Int.reduceAdd, Int.reduceSub, Int.reduceNeg, Int.reduceToNat, Int.reduceEq, KE, KF, Nat.reduceLeDiff, KG, KH, KI, or_true, true_or, or_false, false_or]) | ((with_reducible (first | refine Ok.br ?_ ?_ | refine Ok.gd ?_ ?_ | refine Ok.ld ?_ ?_)) <;> (intro g; (try simp only [Zz] at g); (first | (exfalso; omega) | skip)))))
            exact Turn.next (n - (i + 1)) (by omega) ⟨rfl, i + 1, rfl, by omega, by omega, rfl, rfl, rfl, hnext'.out⟩
          · intro hn1 hn2
            (repeat' (first | (simp -implicitDefEqProofs (maxSteps := 1000000) (disch := first | assumption | omega | (simp only [KE, JO, JP, KF]; omega)) only [*, lenV, fl_len, fl_at, fl_at2, fl_set, eq_self, Array.size_setIfInBounds, pr_eta, SA.add, Nat.zero_add, ty3, ty22, ty24, ty25, slot31, plan31_6, plan31_11, Za, Zb, Zc, Zd, Ze, Zf, Zg, Zh, Zi, Zj, and_true, true_and, Ja, Jb, Jc, cond_true, cond_false, Jd, Je, Jf, Jg, Jh, Ji, Jj, St.put, Jk, Jl, Jm, Jn, Jo, Jp, Jq, Jr, Js, Jt, decide_true, decide_false, Nat.reduceEqDiff, Ju, Jv, Jw, Jx, Jy, rd, TI.kind, Nat.reduceLT, Nat.reduceAdd, and_self, Jz, J0, J1, J2, J3, J4, beq_self_eq_true, J5, J6, J7, J8, J9, JA, JB, Op.operands, JC, JD, JE, JF, JG, JH, JI, JJ, JK, JL, Nat.reduceBEq, JM, JN, JO, JP, JQ, JR, JS, JT, JU, JV, JW, wr, JX, JY, Nat.reduceSub, Nat.reduceMul, JZ, Ka, Kb, Kc, Kd, Ke, Kf, Kg, Kh, Ki, Kj, Kk, Kl, Km, Kn, Ko, Kp, Kq, Kr, Ks, Kt, Ku, Kv, Kw, Kx, Ky, Kz, K0, K1, K2, K3, K4, K5, K6, K7, K8, K9, KA, KC, KD, reduceCtorEq, Int.reduceLT, Int.reduceLE, Int.reduceAdd, Int.reduceSub, Int.reduceNeg, Int.reduceToNat, Int.reduceEq, KE, KF, Nat.reduceLeDiff, KG, KH, KI, or_true, true_or, or_false, false_or]) | ((with_reducible (first | refine Ok.br ?_ ?_ | refine Ok.gd ?_ ?_ | refine Ok.ld ?_ ?_)) <;> (intro g; (try simp only [Zz] at g); (first | (exfalso; omega) | skip)))))
            exact Turn.next (n - (i + 1)) (by omega) ⟨rfl, i + 1, rfl, by omega, by omega, rfl, rfl, rfl, hnext'.out⟩
      · have hlt' : ¬ (i : Int) < (n : Int) := by omega
        (repeat' (first | (simp -implicitDefEqProofs (maxSteps := 1000000) (disch := first | assumption | omega | (simp only [KE, JO, JP, KF]; omega)) only [*, lenV, ty3, ty22, ty24, ty25, slot31, plan31_6, plan31_11, Za, Zb, Zc, Zd, Ze, Zf, Zg, Zh, Zi, Zj, and_true, true_and, Ja, Jb, Jc, cond_true, cond_false, Jd, Je, Jf, Jg, Jh, Ji, Jj, St.put, Jk, Jl, Jm, Jn, Jo, Jp, Jq, Jr, Js, Jt, decide_true, decide_false, Nat.reduceEqDiff, Ju, Jv, Jw, Jx, Jy, rd, TI.kind, Nat.reduceLT, Nat.reduceAdd, and_self, Jz, J0, J1, J2, J3, J4, beq_self_eq_true, J5, J6, J7, J8, J9, JA, JB, Op.operands, JC, JD, JE, JF, JG, JH, JI, JJ, JK, JL, Nat.reduceBEq, JM, JN, JO, JP, JQ, JR, JS, JT, JU, JV, JW, wr, JX, JY, Nat.reduceSub, Nat.reduceMul, JZ, Ka, Kb, Kc, Kd, Ke, Kf, Kg, Kh, Ki, Kj, Kk, Kl, Km, Kn, Ko, Kp, Kq, Kr, Ks, Kt, Ku, Kv, Kw, Kx, Ky, Kz, K0, K1, K2, K3, K4, K5, K6, K7, K8, K9, KA, KC, KD, reduceCtorEq, Int.reduceLT, Int.reduceLE, Int.reduceAdd, Int.reduceSub, Int.reduceNeg, Int.reduceToNat, Int.reduceEq, KE, KF, Nat.reduceLeDiff, KG, KH, KI, or_true, true_or, or_false, false_or]) | ((with_reducible (first | refine Ok.br ?_ ?_ | refine Ok.gd ?_ ?_ | refine Ok.ld ?_ ?_)) <;> (intro g; (try simp only [Zz] at g); (first | (exfalso; omega) | skip)))))
        refine Turn.exit ⟨rfl, rfl, .inl ⟨rfl, rfl, ?_⟩⟩
        have := hd'.out
        rw [List.take_of_length_le (by simp; omega)] at this
        rwa [show i = n by omega] at this
    · intro x ⟨e', l', H'⟩ hW ⟨k2, hx⟩
      dsimp only at hW k2 hx
      subst l'
      rw [hW.spread]
      clear hW
      rcases hx with ⟨rfl, rfl, hd⟩ | ⟨rfl, w, c, p, h2, rfl, hr, hd⟩
      · simp only [spread_t, spread_f, spread_n, Nat.zero_add, Nat.reduceAdd]
        (repeat' (first | (simp -implicitDefEqProofs (maxSteps := 1000000) (disch := first | assumption | omega | (simp only [KE, JO, JP, KF]; omega)) only [*, lenV, ty3, ty22, ty24, ty25, slot31, plan31_6, plan31_11, Za, Zb, Zc, Zd, Ze, Zf, Zg, Zh, Zi, Zj, and_true, true_and, Ja, Jb, Jc, cond_true, cond_false, Jd, Je, Jf, Jg, Jh, Ji, Jj, St.put, Jk, Jl, Jm, Jn, Jo, Jp, Jq, Jr, Js, Jt, decide_true, decide_false, Nat.reduceEqDiff, Ju, Jv, Jw, Jx, Jy, rd, TI.kind, Nat.reduceLT, Nat.reduceAdd, and_self, Jz, J0, J1, J2, J3, J4, beq_self_eq_true, J5, J6, J7, J8, J9, JA, JB, Op.operands, JC, JD, JE, JF, JG, JH, JI, JJ, JK, JL, Nat.reduceBEq, JM, JN, JO, JP, JQ, JR, JS, JT, JU, JV, JW, wr, JX, JY, Nat.reduceSub, Nat.reduceMul, JZ, Ka, Kb, Kc, Kd, Ke, Kf, Kg, Kh, Ki, Kj, Kk, Kl, Km, Kn, Ko, Kp, Kq, Kr, Ks, Kt, Ku, Kv, Kw, Kx, Ky, Kz, K0, K1, K2, K3, K4, K5, K6, K7, K8, K9, KA, KC, KD, reduceCtorEq, Int.reduceLT, Int.reduceLE, Int.reduceAdd, Int.reduceSub, Int.reduceNeg, Int.reduceToNat, Int.reduceEq, KE, KF, Nat.reduceLeDiff, KG, KH, KI, or_true, true_or, or_false, false_or]) | ((with_reducible (first | refine Ok.br ?_ ?_ | refine Ok.gd ?_ ?_ | refine Ok.ld ?_ ?_)) <;> (intro g; (try simp only [Zz] at g); (first | (exfalso; omega) | skip)))))
        exact hwhole'.out hd
      · simp only [spread_t, spread_f, spread_n, Nat.zero_add, Nat.reduceAdd, h2]
        (repeat' (first | (simp -implicitDefEqProofs (maxSteps := 1000000) (disch := first | assumption | omega | (simp only [KE, JO, JP, KF]; omega)) only [*, lenV, ty3, ty22, ty24, ty25, slot31, plan31_6, plan31_11, Za, Zb, Zc, Zd, Ze, Zf, Zg, Zh, Zi, Zj, and_true, true_and, Ja, Jb, Jc, cond_true, cond_false, Jd, Je, Jf, Jg, Jh, Ji, Jj, St.put, Jk, Jl, Jm, Jn, Jo, Jp, Jq, Jr, Js, Jt, decide_true, decide_false, Nat.reduceEqDiff, Ju, Jv, Jw, Jx, Jy, rd, TI.kind, Nat.reduceLT, Nat.reduceAdd, and_self, Jz, J0, J1, J2, J3, J4, beq_self_eq_true, J5, J6, J7, J8, J9, JA, JB, Op.operands, JC, JD, JE, JF, JG, JH, JI, JJ, JK, JL, Nat.reduceBEq, JM, JN, JO, JP, JQ, JR, JS, JT, JU, JV, JW, wr, JX, JY, Nat.reduceSub, Nat.reduceMul, JZ, Ka, Kb, Kc, Kd, Ke, Kf, Kg, Kh, Ki, Kj, Kk, Kl, Km, Kn, Ko, Kp, Kq, Kr, Ks, Kt, Ku, Kv, Kw, Kx, Ky, Kz, K0, K1, K2, K3, K4, K5, K6, K7, K8, K9, KA, KC, KD, reduceCtorEq, Int.reduceLT, Int.reduceLE, Int.reduceAdd, Int.reduceSub, Int.reduceNeg, Int.reduceToNat, Int.reduceEq, KE, KF, Nat.reduceLeDiff, KG, KH, KI, or_true, true_or, or_false, false_or]) | ((with_reducible (first | refine Ok.br ?_ ?_ | refine Ok.gd ?_ ?_ | refine Ok.ld ?_ ?_)) <;> (intro g; (try simp only [Zz] at g); (first | (exfalso; omega) | skip)))))
        exact hQ'.out _ ⟨w, c, p, rfl, hr, hd⟩
end Go.Ev
