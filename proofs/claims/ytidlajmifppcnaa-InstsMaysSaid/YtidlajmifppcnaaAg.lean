/-
Texts of this claim, one behind the other.
-/
import Derived.Test.YtidlajmifppcnaaAf
set_option linter.unusedSimpArgs false
set_option linter.unusedVariables false
set_option maxRecDepth 100000
set_option maxRecDepth 100000
namespace Go.Ev
open Go.Ev renaming exPure -> Ja, ofValue -> Jb, cellsV -> Jc, load -> Jd, store -> Je, binOp -> Jf, intOp -> Jg, rdV -> Jh, vsame -> Ji, vsames -> Jj, makeSliceV -> Jk, resV -> Jl, isCell -> Jm, nilCheckV -> Jn, allV -> Jo, builtinV -> Jp, lenV -> Jq, indexAddrV -> Jr, unOp -> Js, minmaxV -> Jt, minmax -> Ju, sliceV -> Jv, asInt -> Jw, appendV -> Jx, copyV -> Jy, clearV -> Jz, convV -> J0, sliceCells -> J1, shift -> J2
open Go.Proofs
def prvB (p : Option RP) (y : RP) : Bool := match p with | none => true | some p => ltR p y
def risB : Option RP -> List RP -> Bool
  | _, [] => true
  | p, y :: r => decide (refP y.1 y.2) && prvB p y && risB (some y) r
def prv (l : List RP) (i : Nat) : Option RP := if i = 0 then none else l[i - 1]?
theorem risB_step {l : List RP} {i : Nat} {y : RP} (hy : l[i]? = some y) : risB (prv l i) (l.drop i) = (decide (refP y.1 y.2) && prvB (prv l i) y && risB (prv l (i + 1)) (l.drop (i + 1))) := by
  have hi := (List.getElem?_eq_some_iff.1 hy).1
  rw [List.drop_eq_getElem_cons hi]
  have e : l[i] = y := by rw [List.getElem?_eq_getElem hi] at hy; exact Option.some.inj hy
  have e2 : prv l (i + 1) = some y := by unfold prv; rw [if_neg (by omega), Nat.add_sub_cancel, hy]
  rw [e, e2, risB]
theorem risB_end {l : List RP} {i : Nat} (h : l.length <= i) : risB (prv l i) (l.drop i) = true := by
  rw [List.drop_of_length_le h, risB]
set_option maxHeartbeats 2000000 in
theorem rising_at {h : Heap} {v : V} {l : List RP} (hr : RowAt h v l) : D X (.fn 47 []) [v] h = some (.bool (risB none l && decide ((l.length : Int) <= 4096)), h) := by
  refine Ok.eq ?_
  refine Ok.aim fun Q hQ => ?_
  have hQ' := Hid.mk hQ
  clear hQ
  obtain ⟨a, cap, z, rfl, h1, h1', h2⟩ := hr
  have h2' := Hid.mk h2
  clear h2
  (refine Ok.body body47 pin47 ?_; simp only [c47, Try.f47, Option.getD_some, nslot47, List.append_nil, List.map, List.replicate, List.length_cons, List.length_nil, Nat.reduceAdd, Nat.reduceSub, List.cons_append, List.nil_append])
  (repeat' (first | (simp -implicitDefEqProofs (maxSteps := 1000000) (disch := first | assumption | omega | (simp only [ZDI]; omega)) only [*, lenV, G47, Za, Zb, Zc, Zd, Ze, Zf, Zg, Zh, Zi, Zj, Zk, Zl, Zm, Zn, Zo, Ja, Jb, Jc, Nat.reduceEqDiff, Jd, Je, Nat.reduceLT, Nat.reduceAdd, Jf, Jg, Jh, Ji, Jj, Jk, Nat.reduceBEq, Jl, Jm, wr, Jn, Nat.reduceSub, Nat.reduceMul, Jo, Jp, Jq, Jr, Js, Jt, Ju, Jv, Jw, Jx, Jy, Jz, J0, J1, J2, reduceCtorEq, Int.reduceLT, Int.reduceLE, Int.reduceAdd, Int.reduceSub, Int.reduceNeg, Int.reduceToNat, Int.reduceEq, Nat.reduceLeDiff]) | ((with_reducible (first | refine Ok.br ?_ ?_ | refine Ok.gd ?_ ?_ | refine Ok.ld ?_ ?_)) <;> (intro g; (try simp only [ZGS] at g); (first | (exfalso; omega) | skip)))))
  refine Ok.loop [false, false, true, true, true, false, false, true, true, true, true, true, true, true, true, true, true, true, true, true, true, true, true, true, true, true, true, true, true, true, false, false, false] (fun n s2 => ∃ (i w0 : Nat) (q0 : List V), n = l.length - i /\ i <= l.length /\ tv s2.e 7 = .v (.int .i64 i) /\ s2.l = [(w0, q0)] /\ s2.h = h /\ risB none l = risB (prv l i) (l.drop i))
    (fun y s2 => s2.h = h /\ (∃ (w0 : Nat) (q0 : List V), s2.l = [(w0, q0)]) /\ ((y = .exit 0 /\ risB none l = true) \/ (y = .ret /\ risB none l = false /\ tv s2.e 2 = .v (.bool false)))) (l.length - 0) ⟨0, 0, [], rfl, Nat.zero_le _, rfl, rfl, rfl, rfl⟩ ?_ ?_
  · intro n ⟨e', l', H'⟩ hW ⟨i, w0, q0, hm, hi, h9, k2, k3, hno⟩
    dsimp only at hW h9 k2 k3
    subst l' H'
    rw [hW.spread]
    simp only [spread_t, spread_f, spread_n, Nat.zero_add, Nat.reduceAdd, h9]
    clear hW hQ'
    by_cases hlt : i < l.length
    · have hlt' : (i : Int) < (l.length : Int) := by omega
      have g1 : 0 <= (i : Int) /\ (i : Int) < (l.length : Int) := by omega
      rcases h2'.out with rfl | ⟨b, g, o, rw, full, rfl, hb, hfull, ho⟩
      · simp at hlt
      · obtain ⟨⟨y1, y2⟩, hy⟩ : ∃ y, l[i]? = some y := ⟨_, List.getElem?_eq_getElem hlt⟩
        have hf := hfull i _ hy
        rw [risB_step hy] at hno
        dsimp only at hf hno
        have hr1 := isRef_at y1 y2 h
        generalize decide (refP y1 y2) = rb at hr1 hno
        by_cases h0 : i = 0
        · have hp : prvB (prv l i) (y1, y2) = true := by unfold prv; rw [if_pos h0]; rfl
          rw [hp] at hno
          have g0 : ¬ (0 : Int) < (i : Int) := by omega
          have hno' := Hid.mk hno
          clear hno hy hfull hp h0
          cases rb
          · (repeat' (first | (simp -implicitDefEqProofs (maxSteps := 1000000) (disch := first | assumption | omega | (simp only [ZDI]; omega)) only [*, lenV, G47, Za, Zb, Zc, Zd, Ze, Zf, Zg, Zh, Zi, Zj, Zk, Zl, Zm, Zn, Zo, Ja, Jb, Jc, Nat.reduceEqDiff, Jd, Je, Nat.reduceLT, Nat.reduceAdd, Jf, Jg, Jh, Ji, Jj, Jk, Nat.reduceBEq, Jl, Jm, wr, Jn, Nat.reduceSub, Nat.reduceMul, Jo, Jp, Jq, Jr, Js, Jt, Ju, Jv, Jw, Jx, Jy, Jz, J0, J1, J2, reduceCtorEq, Int.reduceLT, Int.reduceLE, Int.reduceAdd, Int.reduceSub, Int.reduceNeg, Int.reduceToNat, Int.reduceEq, Nat.reduceLeDiff]) | ((with_reducible (first | refine Ok.br ?_ ?_ | refine Ok.gd ?_ ?_ | refine Ok.ld ?_ ?_)) <;> (intro g; (try simp only [ZGS] at g); (first | (exfalso; omega) | skip)))))
            exact Turn.ret ⟨rfl, rfl, ⟨_, _, rfl⟩, .inr ⟨rfl, by rw [hno'.out]; rfl, rfl⟩⟩
          · (repeat' (first | (simp -implicitDefEqProofs (maxSteps := 1000000) (disch := first | assumption | omega | (simp only [ZDI]; omega)) only [*, lenV, G47, Za, Zb, Zc, Zd, Ze, Zf, Zg, Zh, Zi, Zj, Zk, Zl, Zm, Zn, Zo, Ja, Jb, Jc, Nat.reduceEqDiff, Jd, Je, Nat.reduceLT, Nat.reduceAdd, Jf, Jg, Jh, Ji, Jj, Jk, Nat.reduceBEq, Jl, Jm, wr, Jn, Nat.reduceSub, Nat.reduceMul, Jo, Jp, Jq, Jr, Js, Jt, Ju, Jv, Jw, Jx, Jy, Jz, J0, J1, J2, reduceCtorEq, Int.reduceLT, Int.reduceLE, Int.reduceAdd, Int.reduceSub, Int.reduceNeg, Int.reduceToNat, Int.reduceEq, Nat.reduceLeDiff]) | ((with_reducible (first | refine Ok.br ?_ ?_ | refine Ok.gd ?_ ?_ | refine Ok.ld ?_ ?_)) <;> (intro g; (try simp only [ZGS] at g); (first | (exfalso; omega) | skip)))))
            exact Turn.next (l.length - (i + 1)) (by omega) ⟨rfl, i + 1, _, _, by omega, by omega, rfl, rfl, rfl, by rw [hno'.out]; rfl⟩
        · obtain ⟨⟨x1, x2⟩, hx⟩ : ∃ x, l[i - 1]? = some x := ⟨_, List.getElem?_eq_getElem (by omega)⟩
          have hf2 := hfull (i - 1) _ hx
          dsimp only at hf2
          have hp : prvB (prv l i) (y1, y2) = ltR (x1, x2) (y1, y2) := by unfold prv; rw [if_neg h0, hx]; rfl
          rw [hp] at hno
          have hl1 := less_at (x1, x2) (y1, y2) h
          dsimp only at hl1
          generalize ltR (x1, x2) (y1, y2) = lb at hl1 hno
          have e1 : (i : Int) - 1 = ((i - 1 : Nat) : Int) := by omega
          have g0 : (0 : Int) < (i : Int) := by omega
          have g2 : 0 <= ((i - 1 : Nat) : Int) /\ ((i - 1 : Nat) : Int) < (l.length : Int) := by omega
          have hno' := Hid.mk hno
          clear hno hy hfull hp hx
          cases rb
          · (repeat' (first | (simp -implicitDefEqProofs (maxSteps := 1000000) (disch := first | assumption | omega | (simp only [ZDI]; omega)) only [*, lenV, G47, Za, Zb, Zc, Zd, Ze, Zf, Zg, Zh, Zi, Zj, Zk, Zl, Zm, Zn, Zo, Ja, Jb, Jc, Nat.reduceEqDiff, Jd, Je, Nat.reduceLT, Nat.reduceAdd, Jf, Jg, Jh, Ji, Jj, Jk, Nat.reduceBEq, Jl, Jm, wr, Jn, Nat.reduceSub, Nat.reduceMul, Jo, Jp, Jq, Jr, Js, Jt, Ju, Jv, Jw, Jx, Jy, Jz, J0, J1, J2, reduceCtorEq, Int.reduceLT, Int.reduceLE, Int.reduceAdd, Int.reduceSub, Int.reduceNeg, Int.reduceToNat, Int.reduceEq, Nat.reduceLeDiff]) | ((with_reducible (first | refine Ok.br ?_ ?_ | refine Ok.gd ?_ ?_ | refine Ok.ld ?_ ?_)) <;> (intro g; (try simp only [ZGS] at g); (first | (exfalso; omega) | skip)))))
            exact Turn.ret ⟨rfl, rfl, ⟨_, _, rfl⟩, .inr ⟨rfl, by rw [hno'.out]; rfl, rfl⟩⟩
          · cases lb
            · (repeat' (first | (simp -implicitDefEqProofs (maxSteps := 1000000) (disch := first | assumption | omega | (simp only [ZDI]; omega)) only [*, lenV, G47, Za, Zb, Zc, Zd, Ze, Zf, Zg, Zh, Zi, Zj, Zk, Zl, Zm, Zn, Zo, Ja, Jb, Jc, Nat.reduceEqDiff, Jd, Je, Nat.reduceLT, Nat.reduceAdd, Jf, Jg, Jh, Ji, Jj, Jk, Nat.reduceBEq, Jl, Jm, wr, Jn, Nat.reduceSub, Nat.reduceMul, Jo, Jp, Jq, Jr, Js, Jt, Ju, Jv, Jw, Jx, Jy, Jz, J0, J1, J2, reduceCtorEq, Int.reduceLT, Int.reduceLE, Int.reduceAdd, Int.reduceSub, Int.reduceNeg, Int.reduceToNat, Int.reduceEq, Nat.reduceLeDiff]) | ((with_reducible (first | refine Ok.br ?_ ?_ | refine Ok.gd ?_ ?_ | refine Ok.ld ?_ ?_)) <;> (intro g; (try simp only [ZGS] at g); (first | (exfalso; omega) | skip)))))
              exact Turn.ret ⟨rfl, rfl, ⟨_, _, rfl⟩, .inr ⟨rfl, by rw [hno'.out]; rfl, rfl⟩⟩
            · (repeat' (first | (simp -implicitDefEqProofs (maxSteps := 1000000) (disch := first | assumption | omega | (simp only [ZDI]; omega)) only [*, lenV, G47, Za, Zb, Zc, Zd, Ze, Zf, Zg, Zh, Zi, Zj, Zk, Zl, Zm, Zn, Zo, Ja, Jb, Jc, Nat.reduceEqDiff, Jd, Je, Nat.reduceLT, Nat.reduceAdd, Jf, Jg, Jh, Ji, Jj, Jk, Nat.reduceBEq, Jl, Jm, wr, Jn, Nat.reduceSub, Nat.reduceMul, Jo, Jp, Jq, Jr, Js, Jt, Ju, Jv, Jw, Jx, Jy, Jz, J0, J1, J2, reduceCtorEq, Int.reduceLT, Int.reduceLE, Int.reduceAdd, Int.reduceSub, Int.reduceNeg, Int.reduceToNat, Int.reduceEq, Nat.reduceLeDiff]) | ((with_reducible (first | refine Ok.br ?_ ?_ | refine Ok.gd ?_ ?_ | refine Ok.ld ?_ ?_)) <;> (intro g; (try simp only [ZGS] at g); (first | (exfalso; omega) | skip)))))
              exact Turn.next (l.length - (i + 1)) (by omega) ⟨rfl, i + 1, _, _, by omega, by omega, rfl, rfl, rfl, by rw [hno'.out]; rfl⟩
    · have hlt' : ¬ (i : Int) < (l.length : Int) := by omega
      rw [risB_end (by omega)] at hno
      have hno' := Hid.mk hno
      clear hno
      (repeat' (first | (simp -implicitDefEqProofs (maxSteps := 1000000) (disch := first | assumption | omega | (simp only [ZDI]; omega)) only [*, lenV, G47, Za, Zb, Zc, Zd, Ze, Zf, Zg, Zh, Zi, Zj, Zk, Zl, Zm, Zn, Zo, Ja, Jb, Jc, Nat.reduceEqDiff, Jd, Je, Nat.reduceLT, Nat.reduceAdd, Jf, Jg, Jh, Ji, Jj, Jk, Nat.reduceBEq, Jl, Jm, wr, Jn, Nat.reduceSub, Nat.reduceMul, Jo, Jp, Jq, Jr, Js, Jt, Ju, Jv, Jw, Jx, Jy, Jz, J0, J1, J2, reduceCtorEq, Int.reduceLT, Int.reduceLE, Int.reduceAdd, Int.reduceSub, Int.reduceNeg, Int.reduceToNat, Int.reduceEq, Nat.reduceLeDiff]) | ((with_reducible (first | refine Ok.br ?_ ?_ | refine Ok.gd ?_ ?_ | refine Ok.ld ?_ ?_)) <;> (intro g; (try simp only [ZGS] at g); (first | (exfalso; omega) | skip)))))
      exact Turn.exit ⟨rfl, rfl, ⟨_, _, rfl⟩, .inl ⟨rfl, hno'.out⟩⟩
  · intro y ⟨e', l', H'⟩ hW ⟨k3, ⟨w0, q0, k2⟩, hy⟩
    dsimp only at hW k2 k3 hy
    subst l' H'
    rw [hW.spread]
    clear hW
    rcases hy with ⟨rfl, hm⟩ | ⟨rfl, hm, h4⟩
    · simp only [spread_t, spread_f, spread_n, Nat.zero_add, Nat.reduceAdd]
      have hm' := Hid.mk hm
      clear hm
      (repeat' (first | (simp -implicitDefEqProofs (maxSteps := 1000000) (disch := first | assumption | omega | (simp only [ZDI]; omega)) only [*, lenV, G47, Za, Zb, Zc, Zd, Ze, Zf, Zg, Zh, Zi, Zj, Zk, Zl, Zm, Zn, Zo, Ja, Jb, Jc, Nat.reduceEqDiff, Jd, Je, Nat.reduceLT, Nat.reduceAdd, Jf, Jg, Jh, Ji, Jj, Jk, Nat.reduceBEq, Jl, Jm, wr, Jn, Nat.reduceSub, Nat.reduceMul, Jo, Jp, Jq, Jr, Js, Jt, Ju, Jv, Jw, Jx, Jy, Jz, J0, J1, J2, reduceCtorEq, Int.reduceLT, Int.reduceLE, Int.reduceAdd, Int.reduceSub, Int.reduceNeg, Int.reduceToNat, Int.reduceEq, Nat.reduceLeDiff]) | ((with_reducible (first | refine Ok.br ?_ ?_ | refine Ok.gd ?_ ?_ | refine Ok.ld ?_ ?_)) <;> (intro g; (try simp only [ZGS] at g); (first | (exfalso; omega) | skip)))))
      exact hQ'.out _ (by rw [hm'.out, Bool.true_and])
    · simp only [spread_t, spread_f, spread_n, Nat.zero_add, Nat.reduceAdd, h4]
      have hm' := Hid.mk hm
      clear hm
      (repeat' (first | (simp -implicitDefEqProofs (maxSteps := 1000000) (disch := first | assumption | omega | (simp only [ZDI]; omega)) only [*, lenV, G47, Za, Zb, Zc, Zd, Ze, Zf, Zg, Zh, Zi, Zj, Zk, Zl, Zm, Zn, Zo, Ja, Jb, Jc, Nat.reduceEqDiff, Jd, Je, Nat.reduceLT, Nat.reduceAdd, Jf, Jg, Jh, Ji, Jj, Jk, Nat.reduceBEq, Jl, Jm, wr, Jn, Nat.reduceSub, Nat.reduceMul, Jo, Jp, Jq, Jr, Js, Jt, Ju, Jv, Jw, Jx, Jy, Jz, J0, J1, J2, reduceCtorEq, Int.reduceLT, Int.reduceLE, Int.reduceAdd, Int.reduceSub, Int.reduceNeg, Int.reduceToNat, Int.reduceEq, Nat.reduceLeDiff]) | ((with_reducible (first | refine Ok.br ?_ ?_ | refine Ok.gd ?_ ?_ | refine Ok.ld ?_ ?_)) <;> (intro g; (try simp only [ZGS] at g); (first | (exfalso; omega) | skip)))))
      exact hQ'.out _ (by rw [hm'.out, Bool.false_and])
def zIn (x : In) : In := ⟨x.l, x.i, x.bn, x.bd, 0, 0, 0, false, 0, 0, 0, 0, 0, .sl .nil 0 0 0, [], 0, .sl .nil 0 0 0, []⟩
theorem InAt.zero (h : Heap) (x : In) : InAt h (zIn x) := ⟨⟨.nil, 0, 0, rfl, Nat.zero_le _, trivial, .inl rfl⟩, ⟨.nil, 0, 0, rfl, Nat.le_refl _, by decide, .inl rfl⟩⟩
def nonB (x : In) : Bool := decide (x.vn = 0 /\ x.vd = 0 /\ x.sq = 0) && !x.sm && (decide (smC x.o x.c x.q x.f x.t 0 0 0 0 0) && decide (x.dl = [])) && decide (x.pl = [])
theorem nonB_eq {x : In} (h : x.st = 0) : smB x (zIn x) = nonB x := by
  unfold smB nonB
  have e : smN x (zIn x) ↔ x.vn = 0 /\ x.vd = 0 /\ x.sq = 0 := by
    unfold smN zIn
    simp [h]
  have e2 : decide (smN x (zIn x)) = decide (x.vn = 0 /\ x.vd = 0 /\ x.sq = 0) := decide_eq_decide.2 e
  rw [e2]
  have e3 : (x.sm == (zIn x).sm) = !x.sm := by simp [zIn]
  rw [e3]
  rfl
theorem unknown_at {h : Heap} {x : In} (hx : InAt h x) : D X (.fn 45 []) [.agg (inV x)] h = some (.bool (smB x (zIn x)), h) := by
  refine Ok.eq ?_
  have h1 := same_at hx (InAt.zero h x)
  generalize smB x (zIn x) = b at h1 ⊢
  simp only [inV, zIn] at h1 ⊢
  clear hx
  (refine Ok.body body45 pin45 ?_; simp only [c45, Try.f45, Option.getD_some, nslot45, List.append_nil, List.map, List.replicate, List.length_cons, List.length_nil, Nat.reduceAdd, Nat.reduceSub, List.cons_append, List.nil_append])
  (repeat' (first | (simp -implicitDefEqProofs (maxSteps := 1000000) (disch := first | assumption | omega | (simp only [ZDI]; omega)) only [*, G45, Za, Zb, Zc, Zd, Ze, Zf, Zg, Zh, Zi, Zj, Zk, Zl, Zm, Zn, Zo, Ja, Jb, Jc, Nat.reduceEqDiff, Jd, Je, Nat.reduceLT, Nat.reduceAdd, Jf, Jg, Jh, Ji, Jj, Jk, Nat.reduceBEq, Jl, Jm, wr, Jn, Nat.reduceSub, Nat.reduceMul, Jo, Jp, Jq, Jr, Js, Jt, Ju, Jv, Jw, Jx, Jy, Jz, J0, J1, J2, reduceCtorEq, Int.reduceLT, Int.reduceLE, Int.reduceAdd, Int.reduceSub, Int.reduceNeg, Int.reduceToNat, Int.reduceEq, Nat.reduceLeDiff]) | ((with_reducible (first | refine Ok.br ?_ ?_ | refine Ok.gd ?_ ?_ | refine Ok.ld ?_ ?_)) <;> (intro g; (try simp only [ZGS] at g); (first | (exfalso; omega) | skip)))))
def stP (x : In) : Prop := (0 <= x.st /\ x.st <= 3) /\ (0 <= x.sq /\ x.sq <= 1099511627776)
instance (x : In) : Decidable (stP x) := by unfold stP; infer_instance
def hdB (x : In) : Bool := decide (refP x.l x.i) && decide (balP x.bn x.bd) && decide (balP x.vn x.vd) && !decide (lsP x.bn x.bd x.vn x.vd) && decide (stP x)
def bodB (x : In) : Bool := decide (mayP x.o x.c x.q x.f x.t x.dl) && (risB none x.pl && decide ((x.pl.length : Int) <= 4096))
def mayB (x : In) : Bool := hdB x && cond (decide (x.st = 0)) (nonB x) (bodB x)
set_option maxHeartbeats 4000000 in
theorem mayI_at {h : Heap} {x : In} (hx : InAt h x) : D X (.fn 14 []) [.agg (inV x)] h = some (.bool (mayB x), h) := by
  refine Ok.eq ?_
  have h1 := may_at (o := x.o) (c := x.c) (q := x.q) (f := x.f) (t := x.t) hx.1
  have h2 := rising_at hx.2
  have h3 := unknown_at hx
  obtain ⟨a, cap, z, e1⟩ := hx.1.sl
  obtain ⟨a3, cap3, z3, e3⟩ := hx.2.sl
  have hu : x.st = 0 -> smB x (zIn x) = nonB x := nonB_eq
  simp only [inV, e1] at h1
  simp only [inV, e3] at h2
  simp only [inV, e1, e3] at h3
  unfold mayB bodB hdB
  simp only [inV, e1, e3]
  clear e1 e3 hx
  have p1 := isRef_at x.l x.i h
  have p2 := isBallot_at x.bn x.bd h
  have p3 := isBallot_at x.vn x.vd h
  have p4 := lessBallot_at x.bn x.bd x.vn x.vd h
  generalize decide (refP x.l x.i) = r1 at p1 ⊢
  generalize decide (balP x.bn x.bd) = r2 at p2 ⊢
  generalize decide (balP x.vn x.vd) = r3 at p3 ⊢
  generalize decide (lsP x.bn x.bd x.vn x.vd) = r4 at p4 ⊢
  obtain ⟨rs, ers, b1, b0⟩ := truth (stP x)
  rw [ers]
  clear ers
  generalize decide (mayP x.o x.c x.q x.f x.t x.dl) = mb at h1 ⊢
  generalize (risB none x.pl && decide ((x.pl.length : Int) <= 4096)) = rb at h2 ⊢
  by_cases hst : x.st = 0
  · rw [decide_eq_true hst, <- hu hst]
    rw [hst] at h3
    clear hu
    generalize smB x (zIn x) = nb at h3 ⊢
    (refine Ok.body body14 pin14 ?_; simp only [c14, Try.f14, Option.getD_some, nslot14, List.append_nil, List.map, List.replicate, List.length_cons, List.length_nil, Nat.reduceAdd, Nat.reduceSub, List.cons_append, List.nil_append])
    (repeat' (first | (simp -implicitDefEqProofs (maxSteps := 1000000) (disch := first | assumption | omega | (simp only [ZDI]; omega)) only [*, G14, Za, Zb, Zc, Zd, Ze, Zf, Zg, Zh, Zi, Zj, Zk, Zl, Zm, Zn, Zo, Ja, Jb, Jc, Nat.reduceEqDiff, Jd, Je, Nat.reduceLT, Nat.reduceAdd, Jf, Jg, Jh, Ji, Jj, Jk, Nat.reduceBEq, Jl, Jm, wr, Jn, Nat.reduceSub, Nat.reduceMul, Jo, Jp, Jq, Jr, Js, Jt, Ju, Jv, Jw, Jx, Jy, Jz, J0, J1, J2, reduceCtorEq, Int.reduceLT, Int.reduceLE, Int.reduceAdd, Int.reduceSub, Int.reduceNeg, Int.reduceToNat, Int.reduceEq, Nat.reduceLeDiff]) | ((with_reducible (first | refine Ok.br ?_ ?_ | refine Ok.gd ?_ ?_ | refine Ok.ld ?_ ?_)) <;> (intro g; (try simp only [ZGS] at g); (first | (exfalso; omega) | skip)))))
    all_goals first
      | (simp [*]; done)
      | (rw [b1.out (by unfold stP; omega)]; simp [*]; done)
      | (rw [b0.out (by unfold stP; omega)]; simp; done)
  · rw [decide_eq_false hst]
    clear hu h3
    generalize nonB x = nb
    (refine Ok.body body14 pin14 ?_; simp only [c14, Try.f14, Option.getD_some, nslot14, List.append_nil, List.map, List.replicate, List.length_cons, List.length_nil, Nat.reduceAdd, Nat.reduceSub, List.cons_append, List.nil_append])
    (repeat' (first | (simp -implicitDefEqProofs (maxSteps := 1000000) (disch := first | assumption | omega | (simp only [ZDI]; omega)) only [*, G14, Za, Zb, Zc, Zd, Ze, Zf, Zg, Zh, Zi, Zj, Zk, Zl, Zm, Zn, Zo, Ja, Jb, Jc, Nat.reduceEqDiff, Jd, Je, Nat.reduceLT, Nat.reduceAdd, Jf, Jg, Jh, Ji, Jj, Jk, Nat.reduceBEq, Jl, Jm, wr, Jn, Nat.reduceSub, Nat.reduceMul, Jo, Jp, Jq, Jr, Js, Jt, Ju, Jv, Jw, Jx, Jy, Jz, J0, J1, J2, reduceCtorEq, Int.reduceLT, Int.reduceLE, Int.reduceAdd, Int.reduceSub, Int.reduceNeg, Int.reduceToNat, Int.reduceEq, Nat.reduceLeDiff]) | ((with_reducible (first | refine Ok.br ?_ ?_ | refine Ok.gd ?_ ?_ | refine Ok.ld ?_ ?_)) <;> (intro g; (try simp only [ZGS] at g); (first | (exfalso; omega) | skip)))))
    all_goals first
      | (simp [*]; done)
      | (rw [b1.out (by unfold stP; omega)]; simp [*]; done)
      | (rw [b0.out (by unfold stP; omega)]; simp; done)
set_option maxHeartbeats 8000000 in
theorem rMayI_at {h : Heap} {x : In} (hx : InAt h x) : D X (.fn 15 []) [.agg (inV x)] h = some (.bool (mayB x), h) := by
  refine Ok.eq ?_
  refine Ok.aim fun Q hQ => ?_
  have hQ' := Hid.mk hQ
  clear hQ
  have h1 := rMay_at (o := x.o) (c := x.c) (q := x.q) (f := x.f) (t := x.t) hx.1
  have h3 := rSameCmd_at (o := x.o) (c := x.c) (q := x.q) (f := x.f) (t := x.t) (o' := 0) (c' := 0) (q' := 0) (f' := 0) (t' := 0) (m := []) (w := .sl .nil 0 0 0) hx.1 ⟨_, _, _, rfl, by decide, trivial, .inl rfl⟩
  obtain ⟨a, cap, z, e1⟩ := hx.1.sl
  obtain ⟨a3, cap3, z3, e3, hc1, hc2, h2⟩ := hx.2
  have h2' := Hid.mk h2
  simp only [e1] at h1 h3
  unfold mayB bodB hdB nonB at hQ'
  simp only [inV, e1, e3]
  clear e1 e3 hx h2
  have hpl : decide (x.pl = []) = decide ((x.pl.length : Int) = 0) := decide_eq_decide.2 ⟨fun h => by rw [h]; rfl, fun h => List.length_eq_zero_iff.1 (by omega)⟩
  rw [hpl] at hQ'
  clear hpl
  have p1 := mayRef_at x.l x.i h
  have p2 := mayBallot_at x.bn x.bd h
  have p3 := mayBallot_at x.vn x.vd h
  have p4 := rLess_at x.bn x.bd x.vn x.vd h
  generalize decide (refP x.l x.i) = r1 at p1 hQ'
  generalize decide (balP x.bn x.bd) = r2 at p2 hQ'
  generalize decide (balP x.vn x.vd) = r3 at p3 hQ'
  generalize decide (lsP x.bn x.bd x.vn x.vd) = r4 at p4 hQ'
  obtain ⟨rs, ers, b1, b0⟩ := truth (stP x)
  rw [ers] at hQ'
  clear ers
  generalize decide (mayP x.o x.c x.q x.f x.t x.dl) = mb at h1 hQ'
  generalize (decide (smC x.o x.c x.q x.f x.t 0 0 0 0 0) && decide (x.dl = [])) = cb at h3 hQ'
  by_cases hst : x.st = 0
  · rw [decide_eq_true hst] at hQ'
    obtain ⟨v0, ev0, v1, v2⟩ := truth (x.vn = 0 /\ x.vd = 0 /\ x.sq = 0)
    rw [ev0] at hQ'
    clear ev0
    generalize x.sm = sm at hQ' ⊢
    (refine Ok.body body15 pin15 ?_; simp only [c15, Try.f15, Option.getD_some, nslot15, List.append_nil, List.map, List.replicate, List.length_cons, List.length_nil, Nat.reduceAdd, Nat.reduceSub, List.cons_append, List.nil_append])
    (repeat' (first | (simp -implicitDefEqProofs (maxSteps := 1000000) (disch := first | assumption | omega | (simp only [ZDI]; omega)) only [*, lenV, G15, Za, Zb, Zc, Zd, Ze, Zf, Zg, Zh, Zi, Zj, Zk, Zl, Zm, Zn, Zo, Ja, Jb, Jc, Nat.reduceEqDiff, Jd, Je, Nat.reduceLT, Nat.reduceAdd, Jf, Jg, Jh, Ji, Jj, Jk, Nat.reduceBEq, Jl, Jm, wr, Jn, Nat.reduceSub, Nat.reduceMul, Jo, Jp, Jq, Jr, Js, Jt, Ju, Jv, Jw, Jx, Jy, Jz, J0, J1, J2, reduceCtorEq, Int.reduceLT, Int.reduceLE, Int.reduceAdd, Int.reduceSub, Int.reduceNeg, Int.reduceToNat, Int.reduceEq, Nat.reduceLeDiff]) | ((with_reducible (first | refine Ok.br ?_ ?_ | refine Ok.gd ?_ ?_ | refine Ok.ld ?_ ?_)) <;> (intro g; (try simp only [ZGS] at g); (first | (exfalso; omega) | skip)))))
    all_goals (refine hQ'.out _ ?_)
    all_goals (try simp only [Bool.and_eq_true, Bool.and_eq_false_iff, decide_eq_true_eq, decide_eq_false_iff_not] at *)
    all_goals first
      | (simp [*]; done)
      | (rw [b0.out (by unfold stP; omega)]; simp; done)
      | (rw [v2.out (by omega)]; simp; done)
      | (rw [b1.out (by unfold stP; omega), v1.out (by omega)]; simp [*]; done)
  · rw [decide_eq_false hst] at hQ'
    (refine Ok.body body15 pin15 ?_; simp only [c15, Try.f15, Option.getD_some, nslot15, List.append_nil, List.map, List.replicate, List.length_cons, List.length_nil, Nat.reduceAdd, Nat.reduceSub, List.cons_append, List.nil_append])
    (repeat' (first | (simp -implicitDefEqProofs (maxSteps := 1000000) (disch := first | assumption | omega | (simp only [ZDI]; omega)) only [*, lenV, G15, Za, Zb, Zc, Zd, Ze, Zf, Zg, Zh, Zi, Zj, Zk, Zl, Zm, Zn, Zo, Ja, Jb, Jc, Nat.reduceEqDiff, Jd, Je, Nat.reduceLT, Nat.reduceAdd, Jf, Jg, Jh, Ji, Jj, Jk, Nat.reduceBEq, Jl, Jm, wr, Jn, Nat.reduceSub, Nat.reduceMul, Jo, Jp, Jq, Jr, Js, Jt, Ju, Jv, Jw, Jx, Jy, Jz, J0, J1, J2, reduceCtorEq, Int.reduceLT, Int.reduceLE, Int.reduceAdd, Int.reduceSub, Int.reduceNeg, Int.reduceToNat, Int.reduceEq, Nat.reduceLeDiff]) | ((with_reducible (first | refine Ok.br ?_ ?_ | refine Ok.gd ?_ ?_ | refine Ok.ld ?_ ?_)) <;> (intro g; (try simp only [ZGS] at g); (first | (exfalso; omega) | skip)))))
    all_goals (try (refine hQ'.out _ ?_))
    all_goals try first
      | (simp [*]; done)
      | (rw [b0.out (by unfold stP; omega)]; simp; done)
    have hrs := b1.out (by unfold stP; omega)
    have hfin : ∀ (b : Bool), risB none x.pl = b -> Q (V.bool (b && (mb && decide ((x.pl.length : Int) <= 4096))), h) := fun b hb => by
      refine hQ'.out _ ?_
      simp only [hrs, hb, *]
      cases b <;> cases mb <;> simp
    have hfin' := Hid.mk hfin
    clear hfin hQ' hrs b1 b0 p1 p2 p3 p4 h3
    generalize x.pl = l at hfin' hc1 h2' ⊢
    refine Ok.loop [false, false, true, true, true, false, false, false, false, false, false, false, false, false, false, false, false, false, false, false, false, false, false, false, false, false, false, false, false, false, false, false, false, false, false, false, false, false, false, false, false, false, false, false, false, false, false, false, false, false, false, false, false, false, false, false, false, false, false, false, false, false, false, false, false, false, false, false, false, false, false, false, false, false, false, false, false, false, false, false, true, true, true, true, true, true, true, true, true, true, true, true, true, true, true, true, true, true, true, true, true, true, true, true, false, false, false, false, false, false, false, false, false] (fun n s2 => ∃ (i w0 : Nat) (q0 : List V), n = l.length - i /\ i <= l.length /\ tv s2.e 80 = .v (.int .i64 i) /\ s2.l = [(1, [.int .i64 x.l, .int .i64 x.i, .int .i64 x.bn, .int .i64 x.bd, .int .i64 x.vn, .int .i64 x.vd, .int .i64 x.st, .bool x.sm, .int .i64 x.o, .int .i64 x.c, .int .i64 x.q, .int .i64 x.f, .int .i64 x.t, .sl a x.dl.length cap z, .int .i64 x.sq, .sl a3 l.length cap3 z3]), (w0, q0)] /\ s2.h = h /\ risB none l = risB (prv l i) (l.drop i))
      (fun y s2 => s2.h = h /\ (∃ (w0 : Nat) (q0 : List V), s2.l = [(1, [.int .i64 x.l, .int .i64 x.i, .int .i64 x.bn, .int .i64 x.bd, .int .i64 x.vn, .int .i64 x.vd, .int .i64 x.st, .bool x.sm, .int .i64 x.o, .int .i64 x.c, .int .i64 x.q, .int .i64 x.f, .int .i64 x.t, .sl a x.dl.length cap z, .int .i64 x.sq, .sl a3 l.length cap3 z3]), (w0, q0)]) /\ ((y = .exit 0 /\ risB none l = true) \/ (y = .ret /\ risB none l = false /\ tv s2.e 2 = .v (.bool false)))) (l.length - 0) ⟨0, 0, [], rfl, Nat.zero_le _, rfl, rfl, rfl, rfl⟩ ?_ ?_
    · intro n ⟨e', l', H'⟩ hW ⟨i, w0, q0, hm, hi, h9, k2, k3, hno⟩
      dsimp only at hW h9 k2 k3
      subst l' H'
      rw [hW.spread]
      simp only [spread_t, spread_f, spread_n, Nat.zero_add, Nat.reduceAdd, h9]
      clear hW hfin'
      by_cases hlt : i < l.length
      · have hlt' : (i : Int) < (l.length : Int) := by omega
        have g1 : 0 <= (i : Int) /\ (i : Int) < (l.length : Int) := by omega
        rcases h2'.out with rfl | ⟨b, g, o, rw, full, rfl, hb, hfull, ho⟩
        · simp at hlt
        · obtain ⟨⟨y1, y2⟩, hy⟩ : ∃ y, l[i]? = some y := ⟨_, List.getElem?_eq_getElem hlt⟩
          have hf := hfull i _ hy
          rw [risB_step hy] at hno
          dsimp only at hf hno
          have hr1 := mayRef_at y1 y2 h
          generalize decide (refP y1 y2) = rb at hr1 hno
          by_cases h0 : i = 0
          · have hp : prvB (prv l i) (y1, y2) = true := by unfold prv; rw [if_pos h0]; rfl
            rw [hp] at hno
            have g0 : ¬ (0 : Int) < (i : Int) := by omega
            have hno' := Hid.mk hno
            clear hno hy hfull hp h0
            cases rb
            · (repeat' (first | (simp -implicitDefEqProofs (maxSteps := 1000000) (disch := first | assumption | omega | (simp only [ZDI]; omega)) only [*, lenV, G15, Za, Zb, Zc, Zd, Ze, Zf, Zg, Zh, Zi, Zj, Zk, Zl, Zm, Zn, Zo, Ja, Jb, Jc, Nat.reduceEqDiff, Jd, Je, Nat.reduceLT, Nat.reduceAdd, Jf, Jg, Jh, Ji, Jj, Jk, Nat.reduceBEq, Jl, Jm, wr, Jn, Nat.reduceSub, Nat.reduceMul, Jo, Jp, Jq, Jr, Js, Jt, Ju, Jv, Jw, Jx, Jy, Jz, J0, J1, J2, reduceCtorEq, Int.reduceLT, Int.reduceLE, Int.reduceAdd, Int.reduceSub, Int.reduceNeg, Int.reduceToNat, Int.reduceEq, Nat.reduceLeDiff]) | ((with_reducible (first | refine Ok.br ?_ ?_ | refine Ok.gd ?_ ?_ | refine Ok.ld ?_ ?_)) <;> (intro g; (try simp only [ZGS] at g); (first | (exfalso; omega) | skip)))))
              exact Turn.ret ⟨rfl, rfl, ⟨_, _, rfl⟩, .inr ⟨rfl, by rw [hno'.out]; rfl, rfl⟩⟩
            · (repeat' (first | (simp -implicitDefEqProofs (maxSteps := 1000000) (disch := first | assumption | omega | (simp only [ZDI]; omega)) only [*, lenV, G15, Za, Zb, Zc, Zd, Ze, Zf, Zg, Zh, Zi, Zj, Zk, Zl, Zm, Zn, Zo, Ja, Jb, Jc, Nat.reduceEqDiff, Jd, Je, Nat.reduceLT, Nat.reduceAdd, Jf, Jg, Jh, Ji, Jj, Jk, Nat.reduceBEq, Jl, Jm, wr, Jn, Nat.reduceSub, Nat.reduceMul, Jo, Jp, Jq, Jr, Js, Jt, Ju, Jv, Jw, Jx, Jy, Jz, J0, J1, J2, reduceCtorEq, Int.reduceLT, Int.reduceLE, Int.reduceAdd, Int.reduceSub, Int.reduceNeg, Int.reduceToNat, Int.reduceEq, Nat.reduceLeDiff]) | ((with_reducible (first | refine Ok.br ?_ ?_ | refine Ok.gd ?_ ?_ | refine Ok.ld ?_ ?_)) <;> (intro g; (try simp only [ZGS] at g); (first | (exfalso; omega) | skip)))))
              exact Turn.next (l.length - (i + 1)) (by omega) ⟨rfl, i + 1, _, _, by omega, by omega, rfl, rfl, rfl, by rw [hno'.out]; rfl⟩
          · obtain ⟨⟨x1, x2⟩, hx⟩ : ∃ x, l[i - 1]? = some x := ⟨_, List.getElem?_eq_getElem (by omega)⟩
            have hf2 := hfull (i - 1) _ hx
            dsimp only at hf2
            have hp : prvB (prv l i) (y1, y2) = ltR (x1, x2) (y1, y2) := by unfold prv; rw [if_neg h0, hx]; rfl
            rw [hp] at hno
            have hl1 := less06_at (x1, x2) (y1, y2) h
            dsimp only at hl1
            generalize ltR (x1, x2) (y1, y2) = lb at hl1 hno
            have e1 : (i : Int) - 1 = ((i - 1 : Nat) : Int) := by omega
            have g0 : (0 : Int) < (i : Int) := by omega
            have g2 : 0 <= ((i - 1 : Nat) : Int) /\ ((i - 1 : Nat) : Int) < (l.length : Int) := by omega
            have hno' := Hid.mk hno
            clear hno hy hfull hp hx
            cases rb
            · (repeat' (first | (simp -implicitDefEqProofs (maxSteps := 1000000) (disch := first | assumption | omega | (simp only [ZDI]; omega)) only [*, lenV, G15, Za, Zb, Zc, Zd, Ze, Zf, Zg, Zh, Zi, Zj, Zk, Zl, Zm, Zn, Zo, Ja, Jb, Jc, Nat.reduceEqDiff, Jd, Je, Nat.reduceLT, Nat.reduceAdd, Jf, Jg, Jh, Ji, Jj, Jk, Nat.reduceBEq, Jl, Jm, wr, Jn, Nat.reduceSub, Nat.reduceMul, Jo, Jp, Jq, Jr, Js, Jt, Ju, Jv, Jw, Jx, Jy, Jz, J0, J1, J2, reduceCtorEq, Int.reduceLT, Int.reduceLE, Int.reduceAdd, Int.reduceSub, Int.reduceNeg, Int.reduceToNat, Int.reduceEq, Nat.reduceLeDiff]) | ((with_reducible (first | refine Ok.br ?_ ?_ | refine Ok.gd ?_ ?_ | refine Ok.ld ?_ ?_)) <;> (intro g; (try simp only [ZGS] at g); (first | (exfalso; omega) | skip)))))
              exact Turn.ret ⟨rfl, rfl, ⟨_, _, rfl⟩, .inr ⟨rfl, by rw [hno'.out]; rfl, rfl⟩⟩
            · cases lb
              · (repeat' (first | (simp -implicitDefEqProofs (maxSteps := 1000000) (disch := first | assumption | omega | (simp only [ZDI]; omega)) only [*, lenV, G15, Za, Zb, Zc, Zd, Ze, Zf, Zg, Zh, Zi, Zj, Zk, Zl, Zm, Zn, Zo, Ja, Jb, Jc, Nat.reduceEqDiff, Jd, Je, Nat.reduceLT, Nat.reduceAdd, Jf, Jg, Jh, Ji, Jj, Jk, Nat.reduceBEq, Jl, Jm, wr, Jn, Nat.reduceSub, Nat.reduceMul, Jo, Jp, Jq, Jr, Js, Jt, Ju, Jv, Jw, Jx, Jy, Jz, J0, J1, J2, reduceCtorEq, Int.reduceLT, Int.reduceLE, Int.reduceAdd, Int.reduceSub, Int.reduceNeg, Int.reduceToNat, Int.reduceEq, Nat.reduceLeDiff]) | ((with_reducible (first | refine Ok.br ?_ ?_ | refine Ok.gd ?_ ?_ | refine Ok.ld ?_ ?_)) <;> (intro g; (try simp only [ZGS] at g); (first | (exfalso; omega) | skip)))))
                exact Turn.ret ⟨rfl, rfl, ⟨_, _, rfl⟩, .inr ⟨rfl, by rw [hno'.out]; rfl, rfl⟩⟩
              · (repeat' (first | (simp -implicitDefEqProofs (maxSteps := 1000000) (disch := first | assumption | omega | (simp only [ZDI]; omega)) only [*, lenV, G15, Za, Zb, Zc, Zd, Ze, Zf, Zg, Zh, Zi, Zj, Zk, Zl, Zm, Zn, Zo, Ja, Jb, Jc, Nat.reduceEqDiff, Jd, Je, Nat.reduceLT, Nat.reduceAdd, Jf, Jg, Jh, Ji, Jj, Jk, Nat.reduceBEq, Jl, Jm, wr, Jn, Nat.reduceSub, Nat.reduceMul, Jo, Jp, Jq, Jr, Js, Jt, Ju, Jv, Jw, Jx, Jy, Jz, J0, J1, J2, reduceCtorEq, Int.reduceLT, Int.reduceLE, Int.reduceAdd, Int.reduceSub, Int.reduceNeg, Int.reduceToNat, Int.reduceEq, Nat.reduceLeDiff]) | ((with_reducible (first | refine Ok.br ?_ ?_ | refine Ok.gd ?_ ?_ | refine Ok.ld ?_ ?_)) <;> (intro g; (try simp only [ZGS] at g); (first | (exfalso; omega) | skip)))))
                exact Turn.next (l.length - (i + 1)) (by omega) ⟨rfl, i + 1, _, _, by omega, by omega, rfl, rfl, rfl, by rw [hno'.out]; rfl⟩
      · have hlt' : ¬ (i : Int) < (l.length : Int) := by omega
        rw [risB_end (by omega)] at hno
        have hno' := Hid.mk hno
        clear hno
        (repeat' (first | (simp -implicitDefEqProofs (maxSteps := 1000000) (disch := first | assumption | omega | (simp only [ZDI]; omega)) only [*, lenV, G15, Za, Zb, Zc, Zd, Ze, Zf, Zg, Zh, Zi, Zj, Zk, Zl, Zm, Zn, Zo, Ja, Jb, Jc, Nat.reduceEqDiff, Jd, Je, Nat.reduceLT, Nat.reduceAdd, Jf, Jg, Jh, Ji, Jj, Jk, Nat.reduceBEq, Jl, Jm, wr, Jn, Nat.reduceSub, Nat.reduceMul, Jo, Jp, Jq, Jr, Js, Jt, Ju, Jv, Jw, Jx, Jy, Jz, J0, J1, J2, reduceCtorEq, Int.reduceLT, Int.reduceLE, Int.reduceAdd, Int.reduceSub, Int.reduceNeg, Int.reduceToNat, Int.reduceEq, Nat.reduceLeDiff]) | ((with_reducible (first | refine Ok.br ?_ ?_ | refine Ok.gd ?_ ?_ | refine Ok.ld ?_ ?_)) <;> (intro g; (try simp only [ZGS] at g); (first | (exfalso; omega) | skip)))))
        exact Turn.exit ⟨rfl, rfl, ⟨_, _, rfl⟩, .inl ⟨rfl, hno'.out⟩⟩
    · intro y ⟨e', l', H'⟩ hW ⟨k3, ⟨w0, q0, k2⟩, hy⟩
      dsimp only at hW k2 k3 hy
      subst l' H'
      rw [hW.spread]
      clear hW
      rcases hy with ⟨rfl, hm⟩ | ⟨rfl, hm, h4⟩
      · simp only [spread_t, spread_f, spread_n, Nat.zero_add, Nat.reduceAdd]
        have hm' := Hid.mk hm
        clear hm
        cases mb
        · (repeat' (first | (simp -implicitDefEqProofs (maxSteps := 1000000) (disch := first | assumption | omega | (simp only [ZDI]; omega)) only [*, lenV, G15, Za, Zb, Zc, Zd, Ze, Zf, Zg, Zh, Zi, Zj, Zk, Zl, Zm, Zn, Zo, Ja, Jb, Jc, Nat.reduceEqDiff, Jd, Je, Nat.reduceLT, Nat.reduceAdd, Jf, Jg, Jh, Ji, Jj, Jk, Nat.reduceBEq, Jl, Jm, wr, Jn, Nat.reduceSub, Nat.reduceMul, Jo, Jp, Jq, Jr, Js, Jt, Ju, Jv, Jw, Jx, Jy, Jz, J0, J1, J2, reduceCtorEq, Int.reduceLT, Int.reduceLE, Int.reduceAdd, Int.reduceSub, Int.reduceNeg, Int.reduceToNat, Int.reduceEq, Nat.reduceLeDiff]) | ((with_reducible (first | refine Ok.br ?_ ?_ | refine Ok.gd ?_ ?_ | refine Ok.ld ?_ ?_)) <;> (intro g; (try simp only [ZGS] at g); (first | (exfalso; omega) | skip)))))
          have := hfin'.out _ hm'.out
          simpa using this
        · (repeat' (first | (simp -implicitDefEqProofs (maxSteps := 1000000) (disch := first | assumption | omega | (simp only [ZDI]; omega)) only [*, lenV, G15, Za, Zb, Zc, Zd, Ze, Zf, Zg, Zh, Zi, Zj, Zk, Zl, Zm, Zn, Zo, Ja, Jb, Jc, Nat.reduceEqDiff, Jd, Je, Nat.reduceLT, Nat.reduceAdd, Jf, Jg, Jh, Ji, Jj, Jk, Nat.reduceBEq, Jl, Jm, wr, Jn, Nat.reduceSub, Nat.reduceMul, Jo, Jp, Jq, Jr, Js, Jt, Ju, Jv, Jw, Jx, Jy, Jz, J0, J1, J2, reduceCtorEq, Int.reduceLT, Int.reduceLE, Int.reduceAdd, Int.reduceSub, Int.reduceNeg, Int.reduceToNat, Int.reduceEq, Nat.reduceLeDiff]) | ((with_reducible (first | refine Ok.br ?_ ?_ | refine Ok.gd ?_ ?_ | refine Ok.ld ?_ ?_)) <;> (intro g; (try simp only [ZGS] at g); (first | (exfalso; omega) | skip)))))
          have := hfin'.out _ hm'.out
          simpa using this
      · simp only [spread_t, spread_f, spread_n, Nat.zero_add, Nat.reduceAdd, h4]
        have hm' := Hid.mk hm
        clear hm
        (repeat' (first | (simp -implicitDefEqProofs (maxSteps := 1000000) (disch := first | assumption | omega | (simp only [ZDI]; omega)) only [*, lenV, G15, Za, Zb, Zc, Zd, Ze, Zf, Zg, Zh, Zi, Zj, Zk, Zl, Zm, Zn, Zo, Ja, Jb, Jc, Nat.reduceEqDiff, Jd, Je, Nat.reduceLT, Nat.reduceAdd, Jf, Jg, Jh, Ji, Jj, Jk, Nat.reduceBEq, Jl, Jm, wr, Jn, Nat.reduceSub, Nat.reduceMul, Jo, Jp, Jq, Jr, Js, Jt, Ju, Jv, Jw, Jx, Jy, Jz, J0, J1, J2, reduceCtorEq, Int.reduceLT, Int.reduceLE, Int.reduceAdd, Int.reduceSub, Int.reduceNeg, Int.reduceToNat, Int.reduceEq, Nat.reduceLeDiff]) | ((with_reducible (first | refine Ok.br ?_ ?_ | refine Ok.gd ?_ ?_ | refine Ok.ld ?_ ?_)) <;> (intro g; (try simp only [ZGS] at g); (first | (exfalso; omega) | skip)))))
        have := hfin'.out _ hm'.out
        simpa using this
end Go.Ev
set_option maxRecDepth 100000
namespace Go.Ev
open Go.Ev renaming exPure -> Ja, ofValue -> Jb, cellsV -> Jc, load -> Jd, store -> Je, binOp -> Jf, intOp -> Jg, rdV -> Jh, vsame -> Ji, vsames -> Jj, makeSliceV -> Jk, resV -> Jl, isCell -> Jm, nilCheckV -> Jn, allV -> Jo, builtinV -> Jp, lenV -> Jq, indexAddrV -> Jr, unOp -> Js, minmaxV -> Jt, minmax -> Ju, sliceV -> Jv, asInt -> Jw, appendV -> Jx, copyV -> Jy, clearV -> Jz, convV -> J0, sliceCells -> J1, shift -> J2
open Go.Proofs
def lightB : Nat -> Nat -> List ByteArray -> Bool
  | _, _, [] => true
  | i, n, s :: r => cond (decide ((100 : Int) < i)) false (cond (decide ((10000 : Int) < s.size)) false (cond (decide ((100000 : Int) < n)) false (lightB (i + 1) (n + s.size) r)))
theorem lightB_drop {i n : Nat} {l : List ByteArray} {s : ByteArray} (h : l[i]? = some s) : lightB i n (l.drop i) = cond (decide ((100 : Int) < i)) false (cond (decide ((10000 : Int) < s.size)) false (cond (decide ((100000 : Int) < n)) false (lightB (i + 1) (n + s.size) (l.drop (i + 1))))) := by
  have hi := (List.getElem?_eq_some_iff.1 h).1
  rw [List.drop_eq_getElem_cons hi]
  have : l[i] = s := by rw [List.getElem?_eq_getElem hi] at h; exact Option.some.inj h
  rw [this, lightB]
theorem light_at {h : Heap} {x : In} (hx : InAt h x) : D X (.fn 12 []) [.agg (inV x)] h = some (.bool (lightB 0 0 x.dl && decide ((x.pl.length : Int) <= 5000)), h) := by
  refine Ok.eq ?_
  refine Ok.aim fun Q hQ => ?_
  have hQ' := Hid.mk hQ
  clear hQ
  obtain ⟨a, cap, z, e1, hl, _, ha⟩ := hx.1
  obtain ⟨a3, cap3, z3, e3, _⟩ := hx.2
  have hh := Hid.mk ha
  clear ha hx
  simp only [inV, e1, e3]
  clear e1 e3
  generalize x.dl = l at hl hh hQ' ⊢
  (refine Ok.body body12 pin12 ?_; simp only [c12, Try.f12, Option.getD_some, nslot12, List.append_nil, List.map, List.replicate, List.length_cons, List.length_nil, Nat.reduceAdd, Nat.reduceSub, List.cons_append, List.nil_append])
  simp -implicitDefEqProofs (maxSteps := 1000000) (disch := first | assumption | omega | (simp only [ZDI]; omega)) only [*, lenV, G12, Za, Zb, Zc, Zd, Ze, Zf, Zg, Zh, Zi, Zj, Zk, Zl, Zm, Zn, Zo, Ja, Jb, Jc, Nat.reduceEqDiff, Jd, Je, Nat.reduceLT, Nat.reduceAdd, Jf, Jg, Jh, Ji, Jj, Jk, Nat.reduceBEq, Jl, Jm, wr, Jn, Nat.reduceSub, Nat.reduceMul, Jo, Jp, Jq, Jr, Js, Jt, Ju, Jv, Jw, Jx, Jy, Jz, J0, J1, J2, reduceCtorEq, Int.reduceLT, Int.reduceLE, Int.reduceAdd, Int.reduceSub, Int.reduceNeg, Int.reduceToNat, Int.reduceEq, Nat.reduceLeDiff]
  refine Ok.loop [false, false, true, true, true, true, false, false, false, false, true, true, true, true, true, true, true, true, true, true, true, true, true, true, true, true, true, true, true, true, true, false, false, false, false] (fun n s => ∃ i m : Nat, n = l.length - i /\ i <= l.length /\ m <= 110000 /\ tv s.e 10 = .v (.int .i64 i) /\ tv s.e 3 = .v (.int .i64 m) /\ s.l = [(1, [.int .i64 x.l, .int .i64 x.i, .int .i64 x.bn, .int .i64 x.bd, .int .i64 x.vn, .int .i64 x.vd, .int .i64 x.st, .bool x.sm, .int .i64 x.o, .int .i64 x.c, .int .i64 x.q, .int .i64 x.f, .int .i64 x.t, .sl a l.length cap z, .int .i64 x.sq, .sl a3 x.pl.length cap3 z3])] /\ s.h = h /\ lightB 0 0 l = lightB i m (l.drop i))
    (fun xx s => s.l = [(1, [.int .i64 x.l, .int .i64 x.i, .int .i64 x.bn, .int .i64 x.bd, .int .i64 x.vn, .int .i64 x.vd, .int .i64 x.st, .bool x.sm, .int .i64 x.o, .int .i64 x.c, .int .i64 x.q, .int .i64 x.f, .int .i64 x.t, .sl a l.length cap z, .int .i64 x.sq, .sl a3 x.pl.length cap3 z3])] /\ s.h = h /\ ((xx = .exit 0 /\ lightB 0 0 l = true) \/ (xx = .ret /\ lightB 0 0 l = false /\ tv s.e 2 = .v (.bool false)))) (l.length - 0) ⟨0, 0, rfl, by omega, by omega, rfl, rfl, rfl, rfl, rfl⟩ ?_ ?_
  · intro n ⟨e', l', h'⟩ hW ⟨i, m, hn, hi, hm, h9, h3, h1, h2, hno⟩
    dsimp only at hW h9 h3 h1 h2
    subst l' h'
    rw [hW.spread]
    simp only [spread_t, spread_f, spread_n, Nat.zero_add, Nat.reduceAdd, h9, h3]
    by_cases hlt : i < l.length
    · rcases hh.out with rfl | ⟨b, g, oo, rw, full, rfl, hb, hfull⟩
      · simp at hlt
      · obtain ⟨s, hs⟩ : ∃ s, l[i]? = some s := ⟨_, List.getElem?_eq_getElem hlt⟩
        have hf := hfull i s hs
        have hno' := hno
        rw [lightB_drop hs] at hno'
        have hno2 := Hid.mk hno'
        clear hno hno' hfull
        (repeat' (first | (simp -implicitDefEqProofs (maxSteps := 1000000) (disch := first | assumption | omega | (simp only [ZDI]; omega)) only [*, Int.ofNat_lt, Int.natCast_nonneg, lenV, Int.natCast_zero, G12, Za, Zb, Zc, Zd, Ze, Zf, Zg, Zh, Zi, Zj, Zk, Zl, Zm, Zn, Zo, Ja, Jb, Jc, Nat.reduceEqDiff, Jd, Je, Nat.reduceLT, Nat.reduceAdd, Jf, Jg, Jh, Ji, Jj, Jk, Nat.reduceBEq, Jl, Jm, wr, Jn, Nat.reduceSub, Nat.reduceMul, Jo, Jp, Jq, Jr, Js, Jt, Ju, Jv, Jw, Jx, Jy, Jz, J0, J1, J2, reduceCtorEq, Int.reduceLT, Int.reduceLE, Int.reduceAdd, Int.reduceSub, Int.reduceNeg, Int.reduceToNat, Int.reduceEq, Nat.reduceLeDiff]) | ((with_reducible (first | refine Ok.br ?_ ?_ | refine Ok.gd ?_ ?_ | refine Ok.ld ?_ ?_)) <;> (intro g; (try simp only [ZGS] at g); (first | (exfalso; omega) | skip)))))
        all_goals first
          | (refine Turn.ret ⟨rfl, rfl, rfl, .inr ⟨rfl, ?_, rfl⟩⟩; rw [hno2.out]; simp only [*, decide_true, decide_false, cond_true, cond_false]; done)
          | (refine Turn.next (l.length - (i + 1)) (by omega) ⟨rfl, i + 1, m + s.size, rfl, by omega, by omega, rfl, rfl, rfl, rfl, ?_⟩; rw [hno2.out]; simp only [*, decide_false, cond_false])
    · simp -implicitDefEqProofs (maxSteps := 1000000) (disch := first | assumption | omega | (simp only [ZDI]; omega)) only [*, Int.ofNat_lt, G12, Za, Zb, Zc, Zd, Ze, Zf, Zg, Zh, Zi, Zj, Zk, Zl, Zm, Zn, Zo, Ja, Jb, Jc, Nat.reduceEqDiff, Jd, Je, Nat.reduceLT, Nat.reduceAdd, Jf, Jg, Jh, Ji, Jj, Jk, Nat.reduceBEq, Jl, Jm, wr, Jn, Nat.reduceSub, Nat.reduceMul, Jo, Jp, Jq, Jr, Js, Jt, Ju, Jv, Jw, Jx, Jy, Jz, J0, J1, J2, reduceCtorEq, Int.reduceLT, Int.reduceLE, Int.reduceAdd, Int.reduceSub, Int.reduceNeg, Int.reduceToNat, Int.reduceEq, Nat.reduceLeDiff]
      refine Turn.exit ⟨rfl, rfl, rfl, .inl ⟨rfl, ?_⟩⟩
      rw [List.drop_of_length_le (by omega), lightB]
  · intro xx ⟨e', l', h'⟩ hW ⟨h1, h2, hE⟩
    dsimp only at hW h1 h2 hE
    subst l' h'
    rw [hW.spread]
    rcases hE with ⟨rfl, hany⟩ | ⟨rfl, hany, h4⟩
    · simp only [spread_t, spread_f, spread_n, Nat.zero_add, Nat.reduceAdd]
      simp -implicitDefEqProofs (maxSteps := 1000000) (disch := first | assumption | omega | (simp only [ZDI]; omega)) only [*, lenV, G12, Za, Zb, Zc, Zd, Ze, Zf, Zg, Zh, Zi, Zj, Zk, Zl, Zm, Zn, Zo, Ja, Jb, Jc, Nat.reduceEqDiff, Jd, Je, Nat.reduceLT, Nat.reduceAdd, Jf, Jg, Jh, Ji, Jj, Jk, Nat.reduceBEq, Jl, Jm, wr, Jn, Nat.reduceSub, Nat.reduceMul, Jo, Jp, Jq, Jr, Js, Jt, Ju, Jv, Jw, Jx, Jy, Jz, J0, J1, J2, reduceCtorEq, Int.reduceLT, Int.reduceLE, Int.reduceAdd, Int.reduceSub, Int.reduceNeg, Int.reduceToNat, Int.reduceEq, Nat.reduceLeDiff]
      exact hQ'.out _ (by rw [hany]; simp)
    · simp only [spread_t, spread_f, spread_n, Nat.zero_add, Nat.reduceAdd, h4]
      simp -implicitDefEqProofs (maxSteps := 1000000) (disch := first | assumption | omega | (simp only [ZDI]; omega)) only [*, lenV, G12, Za, Zb, Zc, Zd, Ze, Zf, Zg, Zh, Zi, Zj, Zk, Zl, Zm, Zn, Zo, Ja, Jb, Jc, Nat.reduceEqDiff, Jd, Je, Nat.reduceLT, Nat.reduceAdd, Jf, Jg, Jh, Ji, Jj, Jk, Nat.reduceBEq, Jl, Jm, wr, Jn, Nat.reduceSub, Nat.reduceMul, Jo, Jp, Jq, Jr, Js, Jt, Ju, Jv, Jw, Jx, Jy, Jz, J0, J1, J2, reduceCtorEq, Int.reduceLT, Int.reduceLE, Int.reduceAdd, Int.reduceSub, Int.reduceNeg, Int.reduceToNat, Int.reduceEq, Nat.reduceLeDiff]
      exact hQ'.out _ (by rw [hany]; simp)
set_option maxHeartbeats 4000000 in
theorem instsMays_at {h : Heap} {x y : In} (hx : InAt h x) (hy : InAt h y) : D X (.fn 3 []) [.agg (inV x), .agg (inV y)] h = some (.bool true, h) := by
  refine Ok.eq ?_
  have h1 := light_at hx
  have h2 := light_at hy
  have h3 := mayI_at hx
  have h4 := rMayI_at hx
  have h5 := same_at hx hy
  have h6 := rSame_at hx hy
  have h7 := same_at hx hx
  rw [smB_refl] at h7
  have h8 := D_pin (X := X) (f := 13) (b := true) rfl
  have h9 := lessBallot_at x.bn x.bd y.bn y.bd h
  have h10 := rLess_at x.bn x.bd y.bn y.bd h
  obtain ⟨a, cap, z, e1⟩ := hx.1.sl
  obtain ⟨a3, cap3, z3, e3⟩ := hx.2.sl
  obtain ⟨a2, cap2, z2, e2⟩ := hy.1.sl
  obtain ⟨a4, cap4, z4, e4⟩ := hy.2.sl
  simp only [inV, e1, e2, e3, e4] at h1 h2 h3 h4 h5 h6 h7 ⊢
  clear e1 e2 e3 e4 hx hy
  generalize (lightB 0 0 x.dl && decide ((x.pl.length : Int) <= 5000)) = lx at h1
  generalize (lightB 0 0 y.dl && decide ((y.pl.length : Int) <= 5000)) = ly at h2
  generalize mayB x = mb at h3 h4
  generalize smB x y = sb at h5 h6
  generalize decide (lsP x.bn x.bd y.bn y.bd) = lb at h9 h10
  (refine Ok.body body3 pin3 ?_; simp only [c3, Try.f3, Option.getD_some, nslot3, List.append_nil, List.map, List.replicate, List.length_cons, List.length_nil, Nat.reduceAdd, Nat.reduceSub, List.cons_append, List.nil_append])
  (repeat' (first | (simp -implicitDefEqProofs (maxSteps := 1000000) (disch := first | assumption | omega | (simp only [ZDI]; omega)) only [*, G3, Za, Zb, Zc, Zd, Ze, Zf, Zg, Zh, Zi, Zj, Zk, Zl, Zm, Zn, Zo, Ja, Jb, Jc, Nat.reduceEqDiff, Jd, Je, Nat.reduceLT, Nat.reduceAdd, Jf, Jg, Jh, Ji, Jj, Jk, Nat.reduceBEq, Jl, Jm, wr, Jn, Nat.reduceSub, Nat.reduceMul, Jo, Jp, Jq, Jr, Js, Jt, Ju, Jv, Jw, Jx, Jy, Jz, J0, J1, J2, reduceCtorEq, Int.reduceLT, Int.reduceLE, Int.reduceAdd, Int.reduceSub, Int.reduceNeg, Int.reduceToNat, Int.reduceEq, Nat.reduceLeDiff]) | ((with_reducible (first | refine Ok.br ?_ ?_ | refine Ok.gd ?_ ?_ | refine Ok.ld ?_ ?_)) <;> (intro g; (try simp only [ZGS] at g); (first | (exfalso; omega) | skip)))))
end Go.Ev
set_option maxRecDepth 100000
namespace Go.Ev
open Go.Proofs
section
variable {T : TypeId -> TI} {h : Heap} {d : Nat} {t u w : TypeId} {xss : List (List V)}
theorem FitsAll.one (hf : FitsAll T h d [t] xss) : ∃ x, xss = [x] /\ Fits T h d t x := by
  match xss, hf with
  | [x], hf => exact ⟨x, rfl, hf.1⟩
theorem FitsAll.two (hf : FitsAll T h d [t, u] xss) : ∃ x y, xss = [x, y] /\ Fits T h d t x /\ Fits T h d u y := by
  match xss, hf with
  | [x, y], hf => exact ⟨x, y, rfl, hf.1, hf.2.1⟩
end
theorem Strs.at' {h : Heap} {v : V} {l : List ByteArray} (hs : Strs h v l) : StrsAt h v l := hs.at
theorem fits_bool {h : Heap} {d : Nat} {cs : List V} (hf : Fits X.ty h (d + 1) 4 cs) : ∃ b, cs = [.bool b] := by
  unfold Fits at hf
  rw [ty4] at hf
  exact hf
theorem fits_ref {h : Heap} {d : Nat} {cs : List V} (hf : Fits X.ty h (d + 2) 23 cs) : ∃ a b, cs = [.int .i64 a, .int .i64 b] /\ In64 a /\ In64 b := by
  unfold Fits at hf
  rw [ty23] at hf
  obtain ⟨hl, hf⟩ := hf
  match cs, hl with
  | [c0, c1], _ =>
    obtain ⟨a, h0, i0⟩ := fits_int (hf (0, 3) (by simp))
    obtain ⟨b, h1, i1⟩ := fits_int (hf (1, 3) (by simp))
    simp [ty3] at h0 h1
    subst h0 h1
    exact ⟨a, b, rfl, i0, i1⟩
theorem fits_refs {h : Heap} {d : Nat} {cs : List V} (hf : Fits X.ty h (d + 3) 29 cs) : ∃ v L, cs = [v] /\ RowAt h v L := by
  unfold Fits at hf
  rw [ty29] at hf
  have hmax : maxLen = 9223372036854775807 := by decide
  rw [hmax] at hf
  rcases hf with rfl | rfl | ⟨b, len, cap, full, rfl, h1, h2, h3, h4, h5, h6⟩
  · exact ⟨_, [], rfl, .nil, 0, 0, rfl, by simp, by decide, .inl rfl⟩
  · exact ⟨_, [], rfl, .any, 0, 1, rfl, by simp, by decide, .inl rfl⟩
  · have hsz : (X.ty 23).size = 2 := by rw [ty23]
    rw [hsz] at h5 h6
    have hx : ∀ i, ∃ x : RP, i < cap -> (full.drop (i * 2)).take 2 = [.int .i64 x.1, .int .i64 x.2] := by
      intro i
      by_cases hi : i < cap
      · obtain ⟨a, b, e, _, _⟩ := fits_ref (h6 i hi)
        exact ⟨(a, b), fun _ => e⟩
      · exact ⟨(0, 0), fun h' => absurd h' hi⟩
    obtain ⟨g, hg⟩ := Classical.axiomOfChoice hx
    have hlen : ((List.range len).map g).length = len := by rw [List.length_map, List.length_range]
    refine ⟨_, (List.range len).map g, rfl, .at b 0 0, cap, 0, by rw [hlen], by rw [hlen]; omega, by omega, .inr ⟨b, 0, 0, false, full, rfl, ?_, ?_, ?_⟩⟩
    · unfold hcells; rw [h4]; exact grd_t rfl _
    · intro i x hi
      rw [List.getElem?_map] at hi
      cases hr : (List.range len)[i]? with
      | none => rw [hr] at hi; cases hi
      | some j =>
        rw [hr] at hi
        have hj : i < len := by have := (List.getElem?_eq_some_iff.1 hr).1; simpa using this
        have : j = i := by rw [List.getElem?_range hj] at hr; exact (Option.some.inj hr).symm
        subst this
        simp only [Option.map_some, Option.some.injEq] at hi
        subst hi
        rw [Nat.zero_add]
        exact hg j (by omega)
    · rw [hlen, h5, Nat.zero_add]
      exact Nat.mul_le_mul_right 2 (by omega)
theorem fits_ballot {h : Heap} {d : Nat} {cs : List V} (hf : Fits X.ty h (d + 2) 25 cs) : ∃ a b, cs = [.int .i64 a, .int .i64 b] /\ In64 a /\ In64 b := by
  unfold Fits at hf
  rw [ty25] at hf
  obtain ⟨hl, hf⟩ := hf
  match cs, hl with
  | [c0, c1], _ =>
    obtain ⟨a, h0, i0⟩ := fits_int (hf (0, 3) (by simp))
    obtain ⟨b, h1, i1⟩ := fits_int (hf (1, 3) (by simp))
    simp [ty3] at h0 h1
    subst h0 h1
    exact ⟨a, b, rfl, i0, i1⟩
def In.Ok (x : In) : Prop := In64 x.l /\ In64 x.i /\ In64 x.bn /\ In64 x.bd /\ In64 x.vn /\ In64 x.vd /\ In64 x.st /\ In64 x.sq /\ In64 x.o /\ In64 x.c /\ In64 x.q /\ In64 x.f /\ In64 x.t
theorem fits_inst {h : Heap} {d : Nat} {cs : List V} (hf : Fits X.ty h (d + 4) 31 cs) : ∃ x : In, cs = inV x /\ InAt h x /\ x.Ok := by
  unfold Fits at hf
  rw [ty31] at hf
  obtain ⟨hl, hf⟩ := hf
  match cs, hl with
  | [c0, c1, c2, c3, c4, c5, c6, c7, c8, c9, c10, c11, c12, c13, c14, c15], _ =>
    obtain ⟨l, i, h0, i0, i1⟩ := fits_ref (hf (0, 23) (by simp))
    obtain ⟨bn, bd, h1, i2, i3⟩ := fits_ballot (hf (2, 25) (by simp))
    obtain ⟨vn, vd, h2, i4, i5⟩ := fits_ballot (hf (4, 25) (by simp))
    obtain ⟨st, h3, i6⟩ := fits_int (hf (6, 3) (by simp))
    obtain ⟨sm, h4⟩ := fits_bool (hf (7, 4) (by simp))
    obtain ⟨o, c, q, f, t, dv, dl, h5, j0, j1, j2, j3, j4, j5⟩ := fits_cmd (hf (8, 28) (by simp))
    obtain ⟨sq, h6, i7⟩ := fits_int (hf (14, 3) (by simp))
    obtain ⟨pv, pl, h7, i8⟩ := fits_refs (hf (15, 29) (by simp))
    simp [ty23] at h0
    simp [ty25] at h1 h2
    simp [ty3] at h3 h6
    simp [ty4] at h4
    simp [ty28] at h5
    simp [ty29] at h7
    obtain ⟨rfl, rfl⟩ := h0
    obtain ⟨rfl, rfl⟩ := h1
    obtain ⟨rfl, rfl⟩ := h2
    obtain ⟨rfl, rfl, rfl, rfl, rfl, rfl⟩ := h5
    subst h3 h4 h6 h7
    exact ⟨⟨l, i, bn, bd, vn, vd, st, sm, o, c, q, f, t, _, dl, sq, _, pl⟩, rfl, ⟨j5.at, i8⟩, i0, i1, i2, i3, i4, i5, i6, i7, j0, j1, j2, j3, j4⟩
end Go.Ev
