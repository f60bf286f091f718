/-
A row of pairs in order: one more. Printed by tools/gr_print.py.
-/
import Derived.Test.YtgkmfoljhapmiaaBun
import Derived.Test.YtgkmfoljhapmiaaGrA
set_option linter.unusedSimpArgs false
set_option linter.unusedVariables false
set_option maxRecDepth 100000
namespace Go.Ev
open Int renaming le_refl → Ja, toNat_natCast → Kz
open Go.Ev renaming wantedT → Jb, exPure → Jd, opd → Je, getT → Jf, constT → Jg, ofValue → Jh, cellsV → Ji, newVar → Jj, setT → Jk, posT → Jl, fieldAddrV → Ju, fieldOff → Jv, load → Jw, store → Jx, lcells → Jy, binOp → Jz, intOp → J0, leadsT → J5, again → J6, rdV → J7, vsame → J8, vsames → J9, makeSliceV → JF, buildV → JG, fillV → JH, splice → JI, results → JU, resV → JV, isCell → JW, nilCheckV → JY, allV → Ke, builtinV → Kf, lenV → Kg, indexAddrV → Kh, unOp → Ki, minmaxV → Kj, minmax → Kk, sliceV → Kl, bound → Km, asInt → Kn, idx → Ko, idxLe → Kp, appendV → Kq, copyV → Kr, clearV → Ks, convV → Kt, putBlk → Ku, sliceCells → Kv, newBlk → Kw, buildSliceV → Kx, shift → Ky
open Bool renaming not_not → Jc, not_true → J1, not_false → J2, true_beq → J3, false_beq → J4, and_true → JA, true_and → JB, or_false → K4, or_true → K5, true_or → K6, false_or → K7, and_false → K8, false_and → K9
open Option renaming bind_some → Jm, isSome_none → K0, isNone_none → K1, isSome_some → K2, isNone_some → K3
open List renaming getD_cons_zero → Jn, getD_cons_succ → Jo, set_cons_zero → Jp, set_cons_succ → Jq, getElem?_cons_zero → Jr, getElem?_cons_succ → Js, getElem?_nil → Jt, elem_cons → JC, elem_nil → JD, toList_toArray → JE, zip → JJ, map_cons → JK, map_nil → JL, all_cons → JM, all_nil → JN, length_cons → JO, length_nil → JP, take → JQ, drop → JR, cons_append → JS, nil_append → JT, set → JX, append_nil → Kd, append_assoc → KD, length_append → KE, length_set → KF, replicate_zero → KG, flatten_nil → KH, set_set → KI
open Nat renaming mul_one → JZ, zero_add → Ka, add_zero → Kb, le_refl → Kc, add_sub_cancel_left → KA, sub_self → KC
open Go.Proofs Go.Sort

theorem flL_app : ∀ (l m : List RP), flL (l ++ m) = flL l ++ flL m
  | [], m => rfl
  | x :: l, m => by simp only [List.cons_append, flL, flL_app l m]
theorem fl_snoc (l : List RP) (a b : Int) : (flL l).take (l.length * 2) ++ [V.int .i64 a, V.int .i64 b] = flL (l ++ [(a, b)]) := by
  rw [flL_app, List.take_of_length_le (by rw [flL_len]; exact Nat.le_refl _)]; rfl
theorem fl_snoc2 (l : List RP) (p : RP) (a b : Int) : (flL (l ++ [p])).take ((l.length + 1) * 2) ++ [V.int .i64 a, V.int .i64 b] = flL (l ++ [p] ++ [(a, b)]) := by
  have := fl_snoc (l ++ [p]) a b
  rwa [show (l ++ [p]).length = l.length + 1 by simp] at this

/-- A row that grows: none yet, or alone in a block behind h. -/
def Gro (h g : Heap) (w : V) (l : List RP) : Prop :=
  (l = [] ∧ w = .sl .nil 0 0 0) ∨ ∃ b q, w = .sl (.at b q 0) l.length l.length 2 ∧ h.length ≤ b ∧ hcells g b q = some (true, flL l)
theorem Gro.row {h g : Heap} {w : V} {l : List RP} (k : Gro h g w l) (hl : l.length ≤ 1000000) : RowAt g w l := by
  rcases k with ⟨rfl, rfl⟩ | ⟨b, q, rfl, _, hc⟩
  · exact ⟨_, _, _, rfl, Nat.le_refl _, by decide, .inl rfl⟩
  · refine ⟨_, _, _, rfl, Nat.le_refl _, by omega, .inr ⟨b, q, 0, _, _, rfl, hc, fun i x hx => ?_, by rw [flL_len]; omega⟩⟩
    rw [Nat.zero_add]; exact flL_at l i x hx

def stepA (x : RP) (s : List RP × Bool) (y : RP) : List RP × Bool := if !s.2 && ltR x y then (s.1 ++ [x] ++ [y], true) else (s.1 ++ [y], s.2)
def addR (x : RP) (l : List RP) : List RP := if x ∈ l then l else (if (l.foldl (stepA x) ([], false)).2 then (l.foldl (stepA x) ([], false)).1 else (l.foldl (stepA x) ([], false)).1 ++ [x])

set_option maxHeartbeats 4000000 in
theorem add_at {h : Heap} {v : V} {l : List RP} (hr : RowAt h v l) (hl : l.length ≤ 1000) (x : RP) : Ev.Ok (D X (.fn 12 []) [v, .agg [.int .i64 x.1, .int .i64 x.2]] h) fun y => ∃ w g, y = (w, g) ∧ Ext h g ∧ RowAt g w (addR x l) := by
  refine Ok.aim fun Q hQ => ?_
  have hQ' := Hid.mk hQ
  clear hQ
  have hhas := has_at hr x
  have hr0 := Hid.mk hr
  by_cases hm : x ∈ l
  · rw [decide_eq_true hm] at hhas
    obtain ⟨a, cap, z, rfl, _⟩ := hr
    (refine Ok.body body12 pin12 ?_; simp only [c12, Try.f12, Option.getD_some, nslot12, List.append_nil, List.map, List.replicate, List.length_cons, List.length_nil, Nat.reduceAdd, Nat.reduceSub, List.cons_append, List.nil_append])
    (repeat' (first | (simp -implicitDefEqProofs (maxSteps := 1000000) (disch := first | assumption | omega | (simp only [KE, JO, JP, KF]; omega)) only [*, lenV, ty3, ty4, ty22, ty24, ty25, slot12, Za, Zb, Zc, Zd, Ze, Zf, Zg, Zh, Zi, Zj, and_true, true_and, Ja, Jb, Jc, cond_true, cond_false, Jd, Je, Jf, Jg, Jh, Ji, Jj, St.put, Jk, Jl, Jm, Jn, Jo, Jp, Jq, Jr, Js, Jt, decide_true, decide_false, Nat.reduceEqDiff, Ju, Jv, Jw, Jx, Jy, rd, TI.kind, Nat.reduceLT, Nat.reduceAdd, and_self, Jz, J0, J1, J2, J3, J4, beq_self_eq_true, J5, J6, J7, J8, J9, JA, JB, Op.operands, JC, JD, JE, JF, JG, JH, JI, JJ, JK, JL, Nat.reduceBEq, JM, JN, JO, JP, JQ, JR, JS, JT, JU, JV, JW, wr, JX, JY, Nat.reduceSub, Nat.reduceMul, JZ, Ka, Kb, Kc, Kd, Ke, Kf, Kg, Kh, Ki, Kj, Kk, Kl, Km, Kn, Ko, Kp, Kq, Kr, Ks, Kt, Ku, Kv, Kw, Kx, Ky, Kz, K0, K1, K2, K3, K4, K5, K6, K7, K8, K9, KA, KC, KD, reduceCtorEq, Int.reduceLT, Int.reduceLE, Int.reduceAdd, Int.reduceSub, Int.reduceNeg, Int.reduceToNat, Int.reduceEq, KE, KF, Nat.reduceLeDiff, KG, KH, KI, or_true, true_or, or_false, false_or]) | ((with_reducible (first | refine Ok.br ?_ ?_ | refine Ok.gd ?_ ?_ | refine Ok.ld ?_ ?_)) <;> (intro g; (try simp only [Zz] at g); (first | (exfalso; omega) | skip)))))
    exact hQ'.out _ ⟨_, _, rfl, .refl _, by unfold addR; rw [if_pos hm]; exact hr0.out⟩
  · rw [decide_eq_false hm] at hhas
    obtain ⟨a, cap, z, rfl, h1, h1', h2⟩ := hr
    clear hr0
    have hfin : ∀ L put w g, l.foldl (stepA x) ([], false) = (L, put) → Ext h g → RowAt g w (if put then L else L ++ [x]) → Q (w, g) := by
      intro L put w g e1 e2 e3
      refine hQ'.out _ ⟨w, g, rfl, e2, ?_⟩
      unfold addR
      rw [if_neg hm, e1]
      exact e3
    have hfin' := Hid.mk hfin
    clear hfin hQ' hm
    (refine Ok.body body12 pin12 ?_; simp only [c12, Try.f12, Option.getD_some, nslot12, List.append_nil, List.map, List.replicate, List.length_cons, List.length_nil, Nat.reduceAdd, Nat.reduceSub, List.cons_append, List.nil_append])
    (repeat' (first | (simp -implicitDefEqProofs (maxSteps := 1000000) (disch := first | assumption | omega | (simp only [KE, JO, JP, KF]; omega)) only [*, lenV, ty3, ty4, ty22, ty24, ty25, slot12, Za, Zb, Zc, Zd, Ze, Zf, Zg, Zh, Zi, Zj, and_true, true_and, Ja, Jb, Jc, cond_true, cond_false, Jd, Je, Jf, Jg, Jh, Ji, Jj, St.put, Jk, Jl, Jm, Jn, Jo, Jp, Jq, Jr, Js, Jt, decide_true, decide_false, Nat.reduceEqDiff, Ju, Jv, Jw, Jx, Jy, rd, TI.kind, Nat.reduceLT, Nat.reduceAdd, and_self, Jz, J0, J1, J2, J3, J4, beq_self_eq_true, J5, J6, J7, J8, J9, JA, JB, Op.operands, JC, JD, JE, JF, JG, JH, JI, JJ, JK, JL, Nat.reduceBEq, JM, JN, JO, JP, JQ, JR, JS, JT, JU, JV, JW, wr, JX, JY, Nat.reduceSub, Nat.reduceMul, JZ, Ka, Kb, Kc, Kd, Ke, Kf, Kg, Kh, Ki, Kj, Kk, Kl, Km, Kn, Ko, Kp, Kq, Kr, Ks, Kt, Ku, Kv, Kw, Kx, Ky, Kz, K0, K1, K2, K3, K4, K5, K6, K7, K8, K9, KA, KC, KD, reduceCtorEq, Int.reduceLT, Int.reduceLE, Int.reduceAdd, Int.reduceSub, Int.reduceNeg, Int.reduceToNat, Int.reduceEq, KE, KF, Nat.reduceLeDiff, KG, KH, KI, or_true, true_or, or_false, false_or]) | ((with_reducible (first | refine Ok.br ?_ ?_ | refine Ok.gd ?_ ?_ | refine Ok.ld ?_ ?_)) <;> (intro g; (try simp only [Zz] at g); (first | (exfalso; omega) | skip)))))
    clear hhas
    refine Ok.loop [false, false, false, false, false, true, true, false, true, false, false, false, false, false, false, true, true, true, true, true, true, true, true, true, true, true, true, true, true, true, true, true, true, true, true, false, false, false, false, false, false, false] (fun m s2 => ∃ (i k1 k2 k3 k4 : Nat) (c1 c2 c3 c4 : List V) (w : V) (L : List RP) (put : Bool), m = l.length - i ∧ i ≤ l.length ∧ tv s2.e 15 = .v (.int .i64 i) ∧ tv s2.e 5 = .v w ∧ tv s2.e 6 = .v (.bool put) ∧ s2.l = [(1, [.int .i64 x.1, .int .i64 x.2]), (k1, c1), (k2, c2), (k3, c3), (k4, c4)] ∧ Ext h s2.h ∧ Gro h s2.h w L ∧ L.length ≤ 2 * i ∧ (l.take i).foldl (stepA x) ([], false) = (L, put))
      (fun y s2 => y = .exit 0 ∧ ∃ (k1 k2 k3 k4 : Nat) (c1 c2 c3 c4 : List V) (w : V) (L : List RP) (put : Bool), tv s2.e 5 = .v w ∧ tv s2.e 6 = .v (.bool put) ∧ s2.l = [(1, [.int .i64 x.1, .int .i64 x.2]), (k1, c1), (k2, c2), (k3, c3), (k4, c4)] ∧ Ext h s2.h ∧ Gro h s2.h w L ∧ L.length ≤ 2 * l.length ∧ l.foldl (stepA x) ([], false) = (L, put)) (l.length - 0) ⟨0, 0, 0, 0, 0, [], [], [], [], _, [], false, rfl, Nat.zero_le _, rfl, rfl, rfl, rfl, .refl _, .inl ⟨rfl, rfl⟩, Nat.zero_le _, rfl⟩ ?_ ?_
    · intro m ⟨e', l', g⟩ hW ⟨i, k1, k2, k3, k4, c1, c2, c3, c4, w, L, put, hm, hi, h9, h5, h6, hsl, hx, hG, hLl, hfo⟩
      dsimp only at hW h9 h5 h6 hsl hx hG
      subst l'
      rw [hW.spread]
      simp only [spread_t, spread_f, spread_n, Nat.zero_add, Nat.reduceAdd, h9, h5, h6]
      clear hW
      by_cases hlt : i < l.length
      · have hlt' : (i : Int) < (l.length : Int) := by omega
        have g1 : 0 ≤ (i : Int) ∧ (i : Int) < (l.length : Int) := by omega
        rcases h2 with rfl | ⟨b, q, o, rw, full, rfl, hb, hfull, ho⟩
        · simp at hlt
        · have hb2 := hx.cells hb
          obtain ⟨y, hy⟩ : ∃ y, l[i]? = some y := ⟨_, List.getElem?_eq_getElem hlt⟩
          have hf := hfull i y hy
          have hgl := hx.len
          have hfs : (l.take (i + 1)).foldl (stepA x) ([], false) = stepA x (L, put) y := by rw [List.take_add_one, hy, List.foldl_append, hfo]; rfl
          have hfs' := Hid.mk hfs
          have hx' := Hid.mk hx
          have hle := less06_at x y
          have ho2 : o + i * 2 + 2 ≤ full.length := by omega
          clear hfs hy hfull hx hfo hb ho
          have hb2l := hcells_lt hb2
          have hL : (L.length + 2) * 16 ≤ 35184372088832 ∧ L.length + 2 ≤ 35184372088832 := by omega
          have hn1 : ¬ (L.length + 1 ≤ L.length) := by omega
          have hn2 : ¬ (L.length + 1 + 1 ≤ L.length + 1) := by omega
          cases put with
          | true =>
            have hst : stepA x (L, true) y = (L ++ [y], true) := rfl
            have hst' := Hid.mk hst
            clear hst
            rcases hG with ⟨rfl, rfl⟩ | ⟨b3, q3, rfl, hbl, hcl⟩
            · (repeat' (first | (simp -implicitDefEqProofs (maxSteps := 1000000) (disch := first | assumption | omega | (simp only [KE, JO, JP, KF]; omega)) only [*, lenV, flL_len, fl_snoc, fl_snoc2, List.drop_zero, Nat.zero_add, List.length_append, List.length_cons, List.length_nil, ty3, ty4, ty22, ty24, ty25, slot12, Za, Zb, Zc, Zd, Ze, Zf, Zg, Zh, Zi, Zj, and_true, true_and, Ja, Jb, Jc, cond_true, cond_false, Jd, Je, Jf, Jg, Jh, Ji, Jj, St.put, Jk, Jl, Jm, Jn, Jo, Jp, Jq, Jr, Js, Jt, decide_true, decide_false, Nat.reduceEqDiff, Ju, Jv, Jw, Jx, Jy, rd, TI.kind, Nat.reduceLT, Nat.reduceAdd, and_self, Jz, J0, J1, J2, J3, J4, beq_self_eq_true, J5, J6, J7, J8, J9, JA, JB, Op.operands, JC, JD, JE, JF, JG, JH, JI, JJ, JK, JL, Nat.reduceBEq, JM, JN, JO, JP, JQ, JR, JS, JT, JU, JV, JW, wr, JX, JY, Nat.reduceSub, Nat.reduceMul, JZ, Ka, Kb, Kc, Kd, Ke, Kf, Kg, Kh, Ki, Kj, Kk, Kl, Km, Kn, Ko, Kp, Kq, Kr, Ks, Kt, Ku, Kv, Kw, Kx, Ky, Kz, K0, K1, K2, K3, K4, K5, K6, K7, K8, K9, KA, KC, KD, reduceCtorEq, Int.reduceLT, Int.reduceLE, Int.reduceAdd, Int.reduceSub, Int.reduceNeg, Int.reduceToNat, Int.reduceEq, KE, KF, Nat.reduceLeDiff, KG, KH, KI, or_true, true_or, or_false, false_or]) | ((with_reducible (first | refine Ok.br ?_ ?_ | refine Ok.gd ?_ ?_ | refine Ok.ld ?_ ?_)) <;> (intro g; (try simp only [Zz] at g); (first | (exfalso; omega) | skip)))))
              exact Turn.next (l.length - (i + 1)) (by omega) ⟨rfl, i + 1, _, _, _, _, _, _, _, _, _, [y], true, rfl, by omega, rfl, rfl, rfl, rfl, hx'.out.app _, .inr ⟨_, _, rfl, hgl, hcells_new⟩, by first | (simp; done) | (simp; omega), by rw [hfs'.out, hst'.out]; try simp⟩
            · have hcl2 := hcells_lt hcl
              (repeat' (first | (simp -implicitDefEqProofs (maxSteps := 1000000) (disch := first | assumption | omega | (simp only [KE, JO, JP, KF]; omega)) only [*, lenV, flL_len, fl_snoc, fl_snoc2, List.drop_zero, Nat.zero_add, List.length_append, List.length_cons, List.length_nil, ty3, ty4, ty22, ty24, ty25, slot12, Za, Zb, Zc, Zd, Ze, Zf, Zg, Zh, Zi, Zj, and_true, true_and, Ja, Jb, Jc, cond_true, cond_false, Jd, Je, Jf, Jg, Jh, Ji, Jj, St.put, Jk, Jl, Jm, Jn, Jo, Jp, Jq, Jr, Js, Jt, decide_true, decide_false, Nat.reduceEqDiff, Ju, Jv, Jw, Jx, Jy, rd, TI.kind, Nat.reduceLT, Nat.reduceAdd, and_self, Jz, J0, J1, J2, J3, J4, beq_self_eq_true, J5, J6, J7, J8, J9, JA, JB, Op.operands, JC, JD, JE, JF, JG, JH, JI, JJ, JK, JL, Nat.reduceBEq, JM, JN, JO, JP, JQ, JR, JS, JT, JU, JV, JW, wr, JX, JY, Nat.reduceSub, Nat.reduceMul, JZ, Ka, Kb, Kc, Kd, Ke, Kf, Kg, Kh, Ki, Kj, Kk, Kl, Km, Kn, Ko, Kp, Kq, Kr, Ks, Kt, Ku, Kv, Kw, Kx, Ky, Kz, K0, K1, K2, K3, K4, K5, K6, K7, K8, K9, KA, KC, KD, reduceCtorEq, Int.reduceLT, Int.reduceLE, Int.reduceAdd, Int.reduceSub, Int.reduceNeg, Int.reduceToNat, Int.reduceEq, KE, KF, Nat.reduceLeDiff, KG, KH, KI, or_true, true_or, or_false, false_or]) | ((with_reducible (first | refine Ok.br ?_ ?_ | refine Ok.gd ?_ ?_ | refine Ok.ld ?_ ?_)) <;> (intro g; (try simp only [Zz] at g); (first | (exfalso; omega) | skip)))))
              exact Turn.next (l.length - (i + 1)) (by omega) ⟨rfl, i + 1, _, _, _, _, _, _, _, _, _, (L ++ [y]), true, rfl, by omega, rfl, rfl, rfl, rfl, hx'.out.set hbl _, .inr ⟨b3, q3 + 1, by simp, hbl, by first | exact hcells_set_eq hcl2 | (rw [hcells_set_eq] <;> simp [hcl2])⟩, by first | (simp; done) | (simp; omega), by rw [hfs'.out, hst'.out]; try simp⟩
          | false =>
            cases hlr : ltR x y with
            | true =>
              have hst : stepA x (L, false) y = (L ++ [x] ++ [y], true) := by unfold stepA; rw [hlr]; rfl
              have hst' := Hid.mk hst
              clear hst
              rw [hlr] at hle
              rcases hG with ⟨rfl, rfl⟩ | ⟨b3, q3, rfl, hbl, hcl⟩
              · (repeat' (first | (simp -implicitDefEqProofs (maxSteps := 1000000) (disch := first | assumption | omega | (simp only [KE, JO, JP, KF]; omega)) only [*, lenV, flL_len, fl_snoc, fl_snoc2, List.drop_zero, Nat.zero_add, List.length_append, List.length_cons, List.length_nil, ty3, ty4, ty22, ty24, ty25, slot12, Za, Zb, Zc, Zd, Ze, Zf, Zg, Zh, Zi, Zj, and_true, true_and, Ja, Jb, Jc, cond_true, cond_false, Jd, Je, Jf, Jg, Jh, Ji, Jj, St.put, Jk, Jl, Jm, Jn, Jo, Jp, Jq, Jr, Js, Jt, decide_true, decide_false, Nat.reduceEqDiff, Ju, Jv, Jw, Jx, Jy, rd, TI.kind, Nat.reduceLT, Nat.reduceAdd, and_self, Jz, J0, J1, J2, J3, J4, beq_self_eq_true, J5, J6, J7, J8, J9, JA, JB, Op.operands, JC, JD, JE, JF, JG, JH, JI, JJ, JK, JL, Nat.reduceBEq, JM, JN, JO, JP, JQ, JR, JS, JT, JU, JV, JW, wr, JX, JY, Nat.reduceSub, Nat.reduceMul, JZ, Ka, Kb, Kc, Kd, Ke, Kf, Kg, Kh, Ki, Kj, Kk, Kl, Km, Kn, Ko, Kp, Kq, Kr, Ks, Kt, Ku, Kv, Kw, Kx, Ky, Kz, K0, K1, K2, K3, K4, K5, K6, K7, K8, K9, KA, KC, KD, reduceCtorEq, Int.reduceLT, Int.reduceLE, Int.reduceAdd, Int.reduceSub, Int.reduceNeg, Int.reduceToNat, Int.reduceEq, KE, KF, Nat.reduceLeDiff, KG, KH, KI, or_true, true_or, or_false, false_or]) | ((with_reducible (first | refine Ok.br ?_ ?_ | refine Ok.gd ?_ ?_ | refine Ok.ld ?_ ?_)) <;> (intro g; (try simp only [Zz] at g); (first | (exfalso; omega) | skip)))))
                exact Turn.next (l.length - (i + 1)) (by omega) ⟨rfl, i + 1, _, _, _, _, _, _, _, _, _, [x, y], true, rfl, by omega, rfl, rfl, rfl, rfl, hx'.out.app _, .inr ⟨_, _, rfl, hgl, hcells_new⟩, by first | (simp; done) | (simp; omega), by rw [hfs'.out, hst'.out]; try simp⟩
              · have hcl2 := hcells_lt hcl
                (repeat' (first | (simp -implicitDefEqProofs (maxSteps := 1000000) (disch := first | assumption | omega | (simp only [KE, JO, JP, KF]; omega)) only [*, lenV, flL_len, fl_snoc, fl_snoc2, List.drop_zero, Nat.zero_add, List.length_append, List.length_cons, List.length_nil, ty3, ty4, ty22, ty24, ty25, slot12, Za, Zb, Zc, Zd, Ze, Zf, Zg, Zh, Zi, Zj, and_true, true_and, Ja, Jb, Jc, cond_true, cond_false, Jd, Je, Jf, Jg, Jh, Ji, Jj, St.put, Jk, Jl, Jm, Jn, Jo, Jp, Jq, Jr, Js, Jt, decide_true, decide_false, Nat.reduceEqDiff, Ju, Jv, Jw, Jx, Jy, rd, TI.kind, Nat.reduceLT, Nat.reduceAdd, and_self, Jz, J0, J1, J2, J3, J4, beq_self_eq_true, J5, J6, J7, J8, J9, JA, JB, Op.operands, JC, JD, JE, JF, JG, JH, JI, JJ, JK, JL, Nat.reduceBEq, JM, JN, JO, JP, JQ, JR, JS, JT, JU, JV, JW, wr, JX, JY, Nat.reduceSub, Nat.reduceMul, JZ, Ka, Kb, Kc, Kd, Ke, Kf, Kg, Kh, Ki, Kj, Kk, Kl, Km, Kn, Ko, Kp, Kq, Kr, Ks, Kt, Ku, Kv, Kw, Kx, Ky, Kz, K0, K1, K2, K3, K4, K5, K6, K7, K8, K9, KA, KC, KD, reduceCtorEq, Int.reduceLT, Int.reduceLE, Int.reduceAdd, Int.reduceSub, Int.reduceNeg, Int.reduceToNat, Int.reduceEq, KE, KF, Nat.reduceLeDiff, KG, KH, KI, or_true, true_or, or_false, false_or]) | ((with_reducible (first | refine Ok.br ?_ ?_ | refine Ok.gd ?_ ?_ | refine Ok.ld ?_ ?_)) <;> (intro g; (try simp only [Zz] at g); (first | (exfalso; omega) | skip)))))
                exact Turn.next (l.length - (i + 1)) (by omega) ⟨rfl, i + 1, _, _, _, _, _, _, _, _, _, (L ++ [x] ++ [y]), true, rfl, by omega, rfl, rfl, rfl, rfl, hx'.out.set hbl _, .inr ⟨b3, q3 + 1 + 1, by simp, hbl, by first | exact hcells_set_eq hcl2 | (rw [hcells_set_eq] <;> simp [hcl2])⟩, by first | (simp; done) | (simp; omega), by rw [hfs'.out, hst'.out]; try simp⟩
            | false =>
              have hst : stepA x (L, false) y = (L ++ [y], false) := by unfold stepA; rw [hlr]; rfl
              have hst' := Hid.mk hst
              clear hst
              rw [hlr] at hle
              rcases hG with ⟨rfl, rfl⟩ | ⟨b3, q3, rfl, hbl, hcl⟩
              · (repeat' (first | (simp -implicitDefEqProofs (maxSteps := 1000000) (disch := first | assumption | omega | (simp only [KE, JO, JP, KF]; omega)) only [*, lenV, flL_len, fl_snoc, fl_snoc2, List.drop_zero, Nat.zero_add, List.length_append, List.length_cons, List.length_nil, ty3, ty4, ty22, ty24, ty25, slot12, Za, Zb, Zc, Zd, Ze, Zf, Zg, Zh, Zi, Zj, and_true, true_and, Ja, Jb, Jc, cond_true, cond_false, Jd, Je, Jf, Jg, Jh, Ji, Jj, St.put, Jk, Jl, Jm, Jn, Jo, Jp, Jq, Jr, Js, Jt, decide_true, decide_false, Nat.reduceEqDiff, Ju, Jv, Jw, Jx, Jy, rd, TI.kind, Nat.reduceLT, Nat.reduceAdd, and_self, Jz, J0, J1, J2, J3, J4, beq_self_eq_true, J5, J6, J7, J8, J9, JA, JB, Op.operands, JC, JD, JE, JF, JG, JH, JI, JJ, JK, JL, Nat.reduceBEq, JM, JN, JO, JP, JQ, JR, JS, JT, JU, JV, JW, wr, JX, JY, Nat.reduceSub, Nat.reduceMul, JZ, Ka, Kb, Kc, Kd, Ke, Kf, Kg, Kh, Ki, Kj, Kk, Kl, Km, Kn, Ko, Kp, Kq, Kr, Ks, Kt, Ku, Kv, Kw, Kx, Ky, Kz, K0, K1, K2, K3, K4, K5, K6, K7, K8, K9, KA, KC, KD, reduceCtorEq, Int.reduceLT, Int.reduceLE, Int.reduceAdd, Int.reduceSub, Int.reduceNeg, Int.reduceToNat, Int.reduceEq, KE, KF, Nat.reduceLeDiff, KG, KH, KI, or_true, true_or, or_false, false_or]) | ((with_reducible (first | refine Ok.br ?_ ?_ | refine Ok.gd ?_ ?_ | refine Ok.ld ?_ ?_)) <;> (intro g; (try simp only [Zz] at g); (first | (exfalso; omega) | skip)))))
                exact Turn.next (l.length - (i + 1)) (by omega) ⟨rfl, i + 1, _, _, _, _, _, _, _, _, _, [y], false, rfl, by omega, rfl, rfl, rfl, rfl, hx'.out.app _, .inr ⟨_, _, rfl, hgl, hcells_new⟩, by first | (simp; done) | (simp; omega), by rw [hfs'.out, hst'.out]; try simp⟩
              · have hcl2 := hcells_lt hcl
                (repeat' (first | (simp -implicitDefEqProofs (maxSteps := 1000000) (disch := first | assumption | omega | (simp only [KE, JO, JP, KF]; omega)) only [*, lenV, flL_len, fl_snoc, fl_snoc2, List.drop_zero, Nat.zero_add, List.length_append, List.length_cons, List.length_nil, ty3, ty4, ty22, ty24, ty25, slot12, Za, Zb, Zc, Zd, Ze, Zf, Zg, Zh, Zi, Zj, and_true, true_and, Ja, Jb, Jc, cond_true, cond_false, Jd, Je, Jf, Jg, Jh, Ji, Jj, St.put, Jk, Jl, Jm, Jn, Jo, Jp, Jq, Jr, Js, Jt, decide_true, decide_false, Nat.reduceEqDiff, Ju, Jv, Jw, Jx, Jy, rd, TI.kind, Nat.reduceLT, Nat.reduceAdd, and_self, Jz, J0, J1, J2, J3, J4, beq_self_eq_true, J5, J6, J7, J8, J9, JA, JB, Op.operands, JC, JD, JE, JF, JG, JH, JI, JJ, JK, JL, Nat.reduceBEq, JM, JN, JO, JP, JQ, JR, JS, JT, JU, JV, JW, wr, JX, JY, Nat.reduceSub, Nat.reduceMul, JZ, Ka, Kb, Kc, Kd, Ke, Kf, Kg, Kh, Ki, Kj, Kk, Kl, Km, Kn, Ko, Kp, Kq, Kr, Ks, Kt, Ku, Kv, Kw, Kx, Ky, Kz, K0, K1, K2, K3, K4, K5, K6, K7, K8, K9, KA, KC, KD, reduceCtorEq, Int.reduceLT, Int.reduceLE, Int.reduceAdd, Int.reduceSub, Int.reduceNeg, Int.reduceToNat, Int.reduceEq, KE, KF, Nat.reduceLeDiff, KG, KH, KI, or_true, true_or, or_false, false_or]) | ((with_reducible (first | refine Ok.br ?_ ?_ | refine Ok.gd ?_ ?_ | refine Ok.ld ?_ ?_)) <;> (intro g; (try simp only [Zz] at g); (first | (exfalso; omega) | skip)))))
                exact Turn.next (l.length - (i + 1)) (by omega) ⟨rfl, i + 1, _, _, _, _, _, _, _, _, _, (L ++ [y]), false, rfl, by omega, rfl, rfl, rfl, rfl, hx'.out.set hbl _, .inr ⟨b3, q3 + 1, by simp, hbl, by first | exact hcells_set_eq hcl2 | (rw [hcells_set_eq] <;> simp [hcl2])⟩, by first | (simp; done) | (simp; omega), by rw [hfs'.out, hst'.out]; try simp⟩
      · have hlt' : ¬ (i : Int) < (l.length : Int) := by omega
        (repeat' (first | (simp -implicitDefEqProofs (maxSteps := 1000000) (disch := first | assumption | omega | (simp only [KE, JO, JP, KF]; omega)) only [*, lenV, ty3, ty4, ty22, ty24, ty25, slot12, Za, Zb, Zc, Zd, Ze, Zf, Zg, Zh, Zi, Zj, and_true, true_and, Ja, Jb, Jc, cond_true, cond_false, Jd, Je, Jf, Jg, Jh, Ji, Jj, St.put, Jk, Jl, Jm, Jn, Jo, Jp, Jq, Jr, Js, Jt, decide_true, decide_false, Nat.reduceEqDiff, Ju, Jv, Jw, Jx, Jy, rd, TI.kind, Nat.reduceLT, Nat.reduceAdd, and_self, Jz, J0, J1, J2, J3, J4, beq_self_eq_true, J5, J6, J7, J8, J9, JA, JB, Op.operands, JC, JD, JE, JF, JG, JH, JI, JJ, JK, JL, Nat.reduceBEq, JM, JN, JO, JP, JQ, JR, JS, JT, JU, JV, JW, wr, JX, JY, Nat.reduceSub, Nat.reduceMul, JZ, Ka, Kb, Kc, Kd, Ke, Kf, Kg, Kh, Ki, Kj, Kk, Kl, Km, Kn, Ko, Kp, Kq, Kr, Ks, Kt, Ku, Kv, Kw, Kx, Ky, Kz, K0, K1, K2, K3, K4, K5, K6, K7, K8, K9, KA, KC, KD, reduceCtorEq, Int.reduceLT, Int.reduceLE, Int.reduceAdd, Int.reduceSub, Int.reduceNeg, Int.reduceToNat, Int.reduceEq, KE, KF, Nat.reduceLeDiff, KG, KH, KI, or_true, true_or, or_false, false_or]) | ((with_reducible (first | refine Ok.br ?_ ?_ | refine Ok.gd ?_ ?_ | refine Ok.ld ?_ ?_)) <;> (intro g; (try simp only [Zz] at g); (first | (exfalso; omega) | skip)))))
        refine Turn.exit ⟨rfl, rfl, _, _, _, _, _, _, _, _, _, L, put, rfl, rfl, rfl, hx, hG, by omega, ?_⟩
        rwa [List.take_of_length_le (by omega)] at hfo
    · intro y ⟨e', l', g⟩ hW ⟨hy, k1, k2, k3, k4, c1, c2, c3, c4, w, L, put, h5, h6, hsl, hx, hG, hLl, hfo⟩
      dsimp only at hW h5 h6 hsl hx hG
      subst l' hy
      rw [hW.spread]
      clear hW
      simp only [spread_t, spread_f, spread_n, Nat.zero_add, Nat.reduceAdd, h5, h6]
      have hL : (L.length + 2) * 16 ≤ 35184372088832 ∧ L.length + 2 ≤ 35184372088832 := by omega
      have hn1 : ¬ (L.length + 1 ≤ L.length) := by omega
      have hgl := hx.len
      have hx' := Hid.mk hx
      have hfo' := Hid.mk hfo
      clear hx hfo
      cases put with
      | true =>
        obtain ⟨a2, n2, c2, z2, rfl⟩ : ∃ a n c z, w = .sl a n c z := by
          rcases hG with ⟨_, rfl⟩ | ⟨b, q, rfl, _⟩ <;> exact ⟨_, _, _, _, rfl⟩
        (repeat' (first | (simp -implicitDefEqProofs (maxSteps := 1000000) (disch := first | assumption | omega | (simp only [KE, JO, JP, KF]; omega)) only [*, lenV, ty3, ty4, ty22, ty24, ty25, slot12, Za, Zb, Zc, Zd, Ze, Zf, Zg, Zh, Zi, Zj, and_true, true_and, Ja, Jb, Jc, cond_true, cond_false, Jd, Je, Jf, Jg, Jh, Ji, Jj, St.put, Jk, Jl, Jm, Jn, Jo, Jp, Jq, Jr, Js, Jt, decide_true, decide_false, Nat.reduceEqDiff, Ju, Jv, Jw, Jx, Jy, rd, TI.kind, Nat.reduceLT, Nat.reduceAdd, and_self, Jz, J0, J1, J2, J3, J4, beq_self_eq_true, J5, J6, J7, J8, J9, JA, JB, Op.operands, JC, JD, JE, JF, JG, JH, JI, JJ, JK, JL, Nat.reduceBEq, JM, JN, JO, JP, JQ, JR, JS, JT, JU, JV, JW, wr, JX, JY, Nat.reduceSub, Nat.reduceMul, JZ, Ka, Kb, Kc, Kd, Ke, Kf, Kg, Kh, Ki, Kj, Kk, Kl, Km, Kn, Ko, Kp, Kq, Kr, Ks, Kt, Ku, Kv, Kw, Kx, Ky, Kz, K0, K1, K2, K3, K4, K5, K6, K7, K8, K9, KA, KC, KD, reduceCtorEq, Int.reduceLT, Int.reduceLE, Int.reduceAdd, Int.reduceSub, Int.reduceNeg, Int.reduceToNat, Int.reduceEq, KE, KF, Nat.reduceLeDiff, KG, KH, KI, or_true, true_or, or_false, false_or]) | ((with_reducible (first | refine Ok.br ?_ ?_ | refine Ok.gd ?_ ?_ | refine Ok.ld ?_ ?_)) <;> (intro g; (try simp only [Zz] at g); (first | (exfalso; omega) | skip)))))
        exact hfin'.out L true _ _ hfo'.out hx'.out (hG.row (by omega))
      | false =>
        rcases hG with ⟨rfl, rfl⟩ | ⟨b, q, rfl, hbl, hcl⟩
        · (repeat' (first | (simp -implicitDefEqProofs (maxSteps := 1000000) (disch := first | assumption | omega | (simp only [KE, JO, JP, KF]; omega)) only [*, lenV, flL_len, fl_snoc, fl_snoc2, List.drop_zero, Nat.zero_add, List.length_append, List.length_cons, List.length_nil, ty3, ty4, ty22, ty24, ty25, slot12, Za, Zb, Zc, Zd, Ze, Zf, Zg, Zh, Zi, Zj, and_true, true_and, Ja, Jb, Jc, cond_true, cond_false, Jd, Je, Jf, Jg, Jh, Ji, Jj, St.put, Jk, Jl, Jm, Jn, Jo, Jp, Jq, Jr, Js, Jt, decide_true, decide_false, Nat.reduceEqDiff, Ju, Jv, Jw, Jx, Jy, rd, TI.kind, Nat.reduceLT, Nat.reduceAdd, and_self, Jz, J0, J1, J2, J3, J4, beq_self_eq_true, J5, J6, J7, J8, J9, JA, JB, Op.operands, JC, JD, JE, JF, JG, JH, JI, JJ, JK, JL, Nat.reduceBEq, JM, JN, JO, JP, JQ, JR, JS, JT, JU, JV, JW, wr, JX, JY, Nat.reduceSub, Nat.reduceMul, JZ, Ka, Kb, Kc, Kd, Ke, Kf, Kg, Kh, Ki, Kj, Kk, Kl, Km, Kn, Ko, Kp, Kq, Kr, Ks, Kt, Ku, Kv, Kw, Kx, Ky, Kz, K0, K1, K2, K3, K4, K5, K6, K7, K8, K9, KA, KC, KD, reduceCtorEq, Int.reduceLT, Int.reduceLE, Int.reduceAdd, Int.reduceSub, Int.reduceNeg, Int.reduceToNat, Int.reduceEq, KE, KF, Nat.reduceLeDiff, KG, KH, KI, or_true, true_or, or_false, false_or]) | ((with_reducible (first | refine Ok.br ?_ ?_ | refine Ok.gd ?_ ?_ | refine Ok.ld ?_ ?_)) <;> (intro g; (try simp only [Zz] at g); (first | (exfalso; omega) | skip)))))
          exact hfin'.out [] false _ _ hfo'.out (hx'.out.app _) (Gro.row (l := [x]) (.inr ⟨_, _, rfl, hgl, hcells_new⟩) (by simp))
        · have hcl2 := hcells_lt hcl
          (repeat' (first | (simp -implicitDefEqProofs (maxSteps := 1000000) (disch := first | assumption | omega | (simp only [KE, JO, JP, KF]; omega)) only [*, lenV, flL_len, fl_snoc, fl_snoc2, List.drop_zero, Nat.zero_add, List.length_append, List.length_cons, List.length_nil, ty3, ty4, ty22, ty24, ty25, slot12, Za, Zb, Zc, Zd, Ze, Zf, Zg, Zh, Zi, Zj, and_true, true_and, Ja, Jb, Jc, cond_true, cond_false, Jd, Je, Jf, Jg, Jh, Ji, Jj, St.put, Jk, Jl, Jm, Jn, Jo, Jp, Jq, Jr, Js, Jt, decide_true, decide_false, Nat.reduceEqDiff, Ju, Jv, Jw, Jx, Jy, rd, TI.kind, Nat.reduceLT, Nat.reduceAdd, and_self, Jz, J0, J1, J2, J3, J4, beq_self_eq_true, J5, J6, J7, J8, J9, JA, JB, Op.operands, JC, JD, JE, JF, JG, JH, JI, JJ, JK, JL, Nat.reduceBEq, JM, JN, JO, JP, JQ, JR, JS, JT, JU, JV, JW, wr, JX, JY, Nat.reduceSub, Nat.reduceMul, JZ, Ka, Kb, Kc, Kd, Ke, Kf, Kg, Kh, Ki, Kj, Kk, Kl, Km, Kn, Ko, Kp, Kq, Kr, Ks, Kt, Ku, Kv, Kw, Kx, Ky, Kz, K0, K1, K2, K3, K4, K5, K6, K7, K8, K9, KA, KC, KD, reduceCtorEq, Int.reduceLT, Int.reduceLE, Int.reduceAdd, Int.reduceSub, Int.reduceNeg, Int.reduceToNat, Int.reduceEq, KE, KF, Nat.reduceLeDiff, KG, KH, KI, or_true, true_or, or_false, false_or]) | ((with_reducible (first | refine Ok.br ?_ ?_ | refine Ok.gd ?_ ?_ | refine Ok.ld ?_ ?_)) <;> (intro g; (try simp only [Zz] at g); (first | (exfalso; omega) | skip)))))
          exact hfin'.out L false _ _ hfo'.out (hx'.out.set hbl _) (Gro.row (l := L ++ [x]) (.inr ⟨_, _, by simp, hbl, hcells_set_eq hcl2⟩) (by simp; omega))
end Go.Ev
