/-
Texts of this claim, one behind the other.
-/
import Derived.Test.YtidlajmifppcnaaAf
set_option linter.unusedSimpArgs false
set_option linter.unusedVariables false
set_option maxRecDepth 100000
set_option maxRecDepth 100000
namespace Go.Ev
open Go.Ev renaming exPure -> Ja, ofValue -> Jb, cellsV -> Jc, load -> Jd, store -> Je, binOp -> Jf, intOp -> Jg, rdV -> Jh, vsame -> Ji, vsames -> Jj, makeSliceV -> Jk, resV -> Jl, isCell -> Jm, nilCheckV -> Jn, allV -> Jo, builtinV -> Jp, lenV -> Jq, indexAddrV -> Jr, unOp -> Js, minmaxV -> Jt, minmax -> Ju, sliceV -> Jv, asInt -> Jw, appendV -> Jx, copyV -> Jy, clearV -> Jz, convV -> J0, sliceCells -> J1, shift -> J2
open Bool renaming true -> BT, false -> BF
open Nat renaming reduceEqDiff -> J3, reduceLT -> J4, reduceAdd -> J5, reduceBEq -> J6, reduceSub -> J7, reduceMul -> J8, reduceLeDiff -> JG
open Int renaming reduceLT -> J9, reduceLE -> JA, reduceAdd -> JB, reduceSub -> JC, reduceNeg -> JD, reduceToNat -> JE, reduceEq -> JF
open Go.Proofs
def mtB (o c f t : Int) (self : RP) (x : In) : Bool := decide (1 <= x.st) && !(decide (x.l = self.1) && decide (x.i = self.2)) && decide (meddleP o c f t x.o x.c x.f x.t)
theorem mtB_core (o c f t : Int) (self : RP) (x : In) : mtB o c f t self x.core = mtB o c f t self x := rfl
structure OrdRec (r : LoopR) : Prop where
  state : r.state = 0
  pending : r.pending = none
  fn : r.fn = 23
  params : r.params = [13]
  code : (rangesOf c23)[0]? = some (r.assign, r.body)
  lent : r.lent = false
  len : r.e.length = 41
  t4 : tv r.e 4 = .lp 0 1 0
  t5 : tv r.e 5 = .lp 1 1 0
  t8 : tv r.e 8 = .lp 2 1 0
  t9 : tv r.e 9 = .lp 3 1 0
theorem GroR.keeps {h g g' : Heap} {w : V} {l : List RP} {F : List Nat} (hG : Gro h g w l) (k : Keeps F g g') (hF : ∀ i ∈ F, i < h.length) : Gro h g' w l := by
  rcases hG with ⟨h1, h2⟩ | ⟨b, q, h1, h2, h3⟩
  · exact .inl ⟨h1, h2⟩
  · exact .inr ⟨b, q, h1, h2, k.cells h3 fun hm => by have := hF b hm; omega⟩
set_option maxHeartbeats 8000000 in
theorem ord_round {H H1 : Heap} {lp : Nat} {r : LoopR} (hL : loopAt H lp = some r) (hr : OrdRec r) {o c q f t : Int} {v dv : V} {self : RP} {sq : Int} {x4 x5 : Nat × List V} {dl : List RP}
    (hl : r.l = [(1, [.int .i64 o, .int .i64 c, .int .i64 q, .int .i64 f, .int .i64 t, v]), (1, [.int .i64 self.1, .int .i64 self.2]), (1, [.int .i64 sq]), (1, [dv]), x4, x5]) (hlp : lp < H1.length) (hH : H1.length <= H.length)
    (hG : Gro H1 H dv dl) (hdl : dl.length <= 10000) (x : In) :
    Ev.Ok (D X (.yld lp) [.agg (inV x)] H) fun y => ∃ H' dv' x4' x5', y = (.bool true, H') /\
      loopAt H' lp = some { r with l := [(1, [.int .i64 o, .int .i64 c, .int .i64 q, .int .i64 f, .int .i64 t, v]), (1, [.int .i64 self.1, .int .i64 self.2]), (1, [.int .i64 (if mtB o c f t self x then (if sq < x.sq then x.sq else sq) else sq)]), (1, [dv']), x4', x5'] } /\
      Gro H1 H' dv' (if mtB o c f t self x then dl ++ [x.key] else dl) /\ H.length <= H'.length /\ ∀ i, i < H1.length -> i ≠ lp -> H'[i]? = H[i]? := by
  refine Ok.aim fun Q hQ => ?_
  have hmd := fun H => meddle_at o c q f t x.o x.c x.q x.f x.t v x.dv H
  have hLl := loopAt_lt hL
  obtain ⟨st, pe, fn, e, l, ps, asg, bd, le⟩ := r
  obtain ⟨k1, k2, k3, k4, k5, k6, k7, k8, k9, k10, k11⟩ := hr
  dsimp only at k1 k2 k3 k4 k5 k6 k7 k8 k9 k10 k11 hl
  subst k1 k2 k3 k4 k6 hl
  have hfin : ∀ (b : Bool) H' dv' x4' x5' sq', mtB o c f t self x = b -> (if b then (if sq < x.sq then x.sq else sq) else sq) = sq' ->
      loopAt H' lp = some ⟨0, none, 23, e, [(1, [.int .i64 o, .int .i64 c, .int .i64 q, .int .i64 f, .int .i64 t, v]), (1, [.int .i64 self.1, .int .i64 self.2]), (1, [.int .i64 sq']), (1, [dv']), x4', x5'], [13], asg, bd, false⟩ ->
      Gro H1 H' dv' (if b then dl ++ [x.key] else dl) -> H.length <= H'.length -> (∀ i, i < H1.length -> i ≠ lp -> H'[i]? = H[i]?) -> Q (.bool true, H') := by
    intro b H' dv' x4' x5' sq' e1 e2 e3 e4 e5 e6
    subst e1
    subst e2
    exact hQ _ ⟨H', dv', x4', x5', rfl, e3, e4, e5, e6⟩
  have hfin' := Hid.mk hfin
  clear hQ hfin
  simp only [c23, Try.f23, Option.getD_some, rangesOf, List.nil_append, List.append_nil, List.cons_append, List.getElem?_cons_zero, List.getElem?_cons_succ, Option.some.injEq, Prod.mk.injEq] at k5
  obtain ⟨rfl, rfl⟩ := k5
  have he := congrArg (fun e => setArgs e [13] [.agg (inV x)]) (expand' k7)
  simp only [List.replicate, spread_t, spread_f, spread_n, Nat.zero_add, Nat.reduceAdd, setArgs, List.set_cons_zero, List.set_cons_succ, k8, k9, k10, k11] at he
  refine Ok.round hL rfl rfl ?_
  simp only [setArgs]
  rw [he]
  clear he
  have hmt : mtB o c f t self x = (decide (1 <= x.st) && !(decide (x.l = self.1) && decide (x.i = self.2)) && decide (meddleP o c f t x.o x.c x.f x.t)) := rfl
  generalize decide (meddleP o c f t x.o x.c x.f x.t) = mb at hmd hmt
  simp only [inV]
  obtain ⟨s1, s2⟩ := self
  dsimp only at *
  have hmt' := Hid.mk hmt
  clear hmt
  have hG' := Hid.mk hG
  have hsame : Hid (∀ (y : Blk) i, i < H1.length -> i ≠ lp -> (H.set lp y)[i]? = H[i]?) := ⟨fun y i _ hi => by rw [List.getElem?_set_ne (Ne.symm hi)]⟩
  have hGs : Hid (∀ y, Gro H1 (H.set lp y) dv dl) := ⟨fun y => GroR.keeps hG'.out (Keeps.set (F := [lp]) (.refl _ _) (.inl (by simp)) y) (by simpa using hlp)⟩
  clear hG
  cases d0 : decide (1 <= x.st) with
  | false =>
    (repeat' (first | (simp -implicitDefEqProofs (maxSteps := 1000000) (disch := first | assumption | omega | (simp only [ZDI]; omega)) only [*, G23, Za, Zb, Zc, Zd, Ze, Zf, Zg, Zh, Zi, Zj, Zk, Zl, Zm, Zn, Zo, Ja, Jb, Jc, J3, Jd, Je, J4, J5, Jf, Jg, Jh, Ji, Jj, Jk, J6, Jl, Jm, wr, Jn, J7, J8, Jo, Jp, Jq, Jr, Js, Jt, Ju, Jv, Jw, Jx, Jy, Jz, J0, J1, J2, reduceCtorEq, J9, JA, JB, JC, JD, JE, JF, JG]) | ((with_reducible (first | apply Ok.br | apply Ok.gd | apply Ok.ld)) <;> (intro g; (try simp only [ZGS] at g); try (exfalso; omega)))))
    exact hfin'.out false _ dv _ _ _ (by rw [hmt'.out, d0]; rfl) rfl (loopAt_set_eq hLl) (hGs.out _) (by simp) (hsame.out _)
  | true =>
    have key : ∀ P : Prop, (decide (x.l = s1) = true -> decide (x.i = s2) = true -> P) -> ((decide (x.l = s1) && decide (x.i = s2)) = false -> decide (x.l = s1) = false -> P) -> ((decide (x.l = s1) && decide (x.i = s2)) = false -> decide (x.l = s1) = true -> decide (x.i = s2) = false -> P) -> P := by
      intro P p1 p2 p3
      cases h1 : decide (x.l = s1) with
      | false => exact p2 (by rw [h1]; rfl) h1
      | true => cases h2 : decide (x.i = s2) with
        | false => exact p3 (by rw [h1, h2]; rfl) h1 h2
        | true => exact p1 h1 h2
    apply key <;> clear key
    · intro d1 d2
      (repeat' (first | (simp -implicitDefEqProofs (maxSteps := 1000000) (disch := first | assumption | omega | (simp only [ZDI]; omega)) only [*, G23, Za, Zb, Zc, Zd, Ze, Zf, Zg, Zh, Zi, Zj, Zk, Zl, Zm, Zn, Zo, Ja, Jb, Jc, J3, Jd, Je, J4, J5, Jf, Jg, Jh, Ji, Jj, Jk, J6, Jl, Jm, wr, Jn, J7, J8, Jo, Jp, Jq, Jr, Js, Jt, Ju, Jv, Jw, Jx, Jy, Jz, J0, J1, J2, reduceCtorEq, J9, JA, JB, JC, JD, JE, JF, JG]) | ((with_reducible (first | apply Ok.br | apply Ok.gd | apply Ok.ld)) <;> (intro g; (try simp only [ZGS] at g); try (exfalso; omega)))))
      exact hfin'.out false _ dv _ _ _ (by rw [hmt'.out, d0, d1, d2]; rfl) rfl (loopAt_set_eq hLl) (hGs.out _) (by simp) (hsame.out _)
    all_goals
      intro hd
      have hd' := Hid.mk hd
      clear hd
      intros
      cases mb with
      | false =>
        (repeat' (first | (simp -implicitDefEqProofs (maxSteps := 1000000) (disch := first | assumption | omega | (simp only [ZDI]; omega)) only [*, G23, Za, Zb, Zc, Zd, Ze, Zf, Zg, Zh, Zi, Zj, Zk, Zl, Zm, Zn, Zo, Ja, Jb, Jc, J3, Jd, Je, J4, J5, Jf, Jg, Jh, Ji, Jj, Jk, J6, Jl, Jm, wr, Jn, J7, J8, Jo, Jp, Jq, Jr, Js, Jt, Ju, Jv, Jw, Jx, Jy, Jz, J0, J1, J2, reduceCtorEq, J9, JA, JB, JC, JD, JE, JF, JG]) | ((with_reducible (first | apply Ok.br | apply Ok.gd | apply Ok.ld)) <;> (intro g; (try simp only [ZGS] at g); try (exfalso; omega)))))
        exact hfin'.out false _ dv _ _ _ (by rw [hmt'.out, d0, hd'.out]; rfl) rfl (loopAt_set_eq hLl) (hGs.out _) (by simp) (hsame.out _)
      | true =>
        have htt' : Hid (mtB o c f t (s1, s2) x = true) := ⟨by rw [hmt'.out, d0, hd'.out]; rfl⟩
        have hL : (dl.length + 2) * 16 <= 35184372088832 /\ dl.length + 2 <= 35184372088832 := by omega
        have hn1 : ¬ (dl.length + 1 <= dl.length) := by omega
        have hlp' := Hid.mk hlp
        have hH' := Hid.mk hH
        clear hsame hGs hd' hmt' hlp hH hdl
        rcases hG'.out with ⟨rfl, rfl⟩ | ⟨b3, q3, rfl, hbl, hcl⟩
        · clear hG'
          by_cases hs : sq < x.sq
          · (repeat' (first | (simp -implicitDefEqProofs (maxSteps := 1000000) (disch := first | assumption | omega | (simp only [ZDI]; omega)) only [*, minmaxV, minmax, itT, if_true, flL_len, fl_snoc, fl_snoc2, List.drop_zero, Nat.zero_add, List.length_append, List.length_cons, List.length_nil, G23, Za, Zb, Zc, Zd, Ze, Zf, Zg, Zh, Zi, Zj, Zk, Zl, Zm, Zn, Zo, Ja, Jb, Jc, J3, Jd, Je, J4, J5, Jf, Jg, Jh, Ji, Jj, Jk, J6, Jl, Jm, wr, Jn, J7, J8, Jo, Jp, Jq, Jr, Js, Jt, Ju, Jv, Jw, Jx, Jy, Jz, J0, J1, J2, reduceCtorEq, J9, JA, JB, JC, JD, JE, JF, JG]) | ((with_reducible (first | apply Ok.br | apply Ok.gd | apply Ok.ld)) <;> (intro g; (try simp only [ZGS] at g); try (exfalso; omega)))))
            exact hfin'.out true _ _ _ _ x.sq htt'.out (by rw [if_pos rfl, if_pos hs]) (by rw [loopAt_app (by simpa using hLl)]; exact loopAt_set_eq hLl) (.inr ⟨H.length, _, rfl, hH'.out, by rw [hcells_at (by simp)]; exact grd_t rfl _⟩) (by simp) fun i h1 h2 => by rw [List.getElem?_append_left (by simp; have := hH'.out; omega), List.getElem?_set_ne (Ne.symm h2)]
          · (repeat' (first | (simp -implicitDefEqProofs (maxSteps := 1000000) (disch := first | assumption | omega | (simp only [ZDI]; omega)) only [*, minmaxV, minmax, itF, if_false, flL_len, fl_snoc, fl_snoc2, List.drop_zero, Nat.zero_add, List.length_append, List.length_cons, List.length_nil, G23, Za, Zb, Zc, Zd, Ze, Zf, Zg, Zh, Zi, Zj, Zk, Zl, Zm, Zn, Zo, Ja, Jb, Jc, J3, Jd, Je, J4, J5, Jf, Jg, Jh, Ji, Jj, Jk, J6, Jl, Jm, wr, Jn, J7, J8, Jo, Jp, Jq, Jr, Js, Jt, Ju, Jv, Jw, Jx, Jy, Jz, J0, J1, J2, reduceCtorEq, J9, JA, JB, JC, JD, JE, JF, JG]) | ((with_reducible (first | apply Ok.br | apply Ok.gd | apply Ok.ld)) <;> (intro g; (try simp only [ZGS] at g); try (exfalso; omega)))))
            exact hfin'.out true _ _ _ _ sq htt'.out (by rw [if_pos rfl, if_neg hs]) (by rw [loopAt_app (by simpa using hLl)]; exact loopAt_set_eq hLl) (.inr ⟨H.length, _, rfl, hH'.out, by rw [hcells_at (by simp)]; exact grd_t rfl _⟩) (by simp) fun i h1 h2 => by rw [List.getElem?_append_left (by simp; have := hH'.out; omega), List.getElem?_set_ne (Ne.symm h2)]
        · clear hG'
          have hcl2 := hcells_lt hcl
          have hne : b3 ≠ lp := by have := hlp'.out; omega
          have hbl' := Hid.mk hbl
          clear hbl
          by_cases hs : sq < x.sq
          · (repeat' (first | (simp -implicitDefEqProofs (maxSteps := 1000000) (disch := first | assumption | omega | (simp only [ZDI]; omega)) only [*, minmaxV, minmax, itT, if_true, flL_len, fl_snoc, fl_snoc2, List.drop_zero, Nat.zero_add, List.length_append, List.length_cons, List.length_nil, G23, Za, Zb, Zc, Zd, Ze, Zf, Zg, Zh, Zi, Zj, Zk, Zl, Zm, Zn, Zo, Ja, Jb, Jc, J3, Jd, Je, J4, J5, Jf, Jg, Jh, Ji, Jj, Jk, J6, Jl, Jm, wr, Jn, J7, J8, Jo, Jp, Jq, Jr, Js, Jt, Ju, Jv, Jw, Jx, Jy, Jz, J0, J1, J2, reduceCtorEq, J9, JA, JB, JC, JD, JE, JF, JG]) | ((with_reducible (first | apply Ok.br | apply Ok.gd | apply Ok.ld)) <;> (intro g; (try simp only [ZGS] at g); try (exfalso; omega)))))
            exact hfin'.out true _ (.sl (.at b3 (q3 + 1) 0) (dl.length + 1) (dl.length + 1) 2) _ _ x.sq htt'.out (by rw [if_pos rfl, if_pos hs]) (loopAt_set_eq (by simpa using hLl)) (.inr ⟨b3, q3 + 1, by simp [In.key], hbl'.out, by rw [hcells_set_ne hne]; exact hcells_set_eq (by simpa using hcl2)⟩) (by simp) fun i h1 h2 => by rw [List.getElem?_set_ne (Ne.symm h2), List.getElem?_set_ne (by have := hbl'.out; omega), List.getElem?_set_ne (Ne.symm h2)]
          · (repeat' (first | (simp -implicitDefEqProofs (maxSteps := 1000000) (disch := first | assumption | omega | (simp only [ZDI]; omega)) only [*, minmaxV, minmax, itF, if_false, flL_len, fl_snoc, fl_snoc2, List.drop_zero, Nat.zero_add, List.length_append, List.length_cons, List.length_nil, G23, Za, Zb, Zc, Zd, Ze, Zf, Zg, Zh, Zi, Zj, Zk, Zl, Zm, Zn, Zo, Ja, Jb, Jc, J3, Jd, Je, J4, J5, Jf, Jg, Jh, Ji, Jj, Jk, J6, Jl, Jm, wr, Jn, J7, J8, Jo, Jp, Jq, Jr, Js, Jt, Ju, Jv, Jw, Jx, Jy, Jz, J0, J1, J2, reduceCtorEq, J9, JA, JB, JC, JD, JE, JF, JG]) | ((with_reducible (first | apply Ok.br | apply Ok.gd | apply Ok.ld)) <;> (intro g; (try simp only [ZGS] at g); try (exfalso; omega)))))
            exact hfin'.out true _ (.sl (.at b3 (q3 + 1) 0) (dl.length + 1) (dl.length + 1) 2) _ _ sq htt'.out (by rw [if_pos rfl, if_neg hs]) (loopAt_set_eq (by simpa using hLl)) (.inr ⟨b3, q3 + 1, by simp [In.key], hbl'.out, by rw [hcells_set_ne hne]; exact hcells_set_eq (by simpa using hcl2)⟩) (by simp) fun i h1 h2 => by rw [List.getElem?_set_ne (Ne.symm h2), List.getElem?_set_ne (by have := hbl'.out; omega), List.getElem?_set_ne (Ne.symm h2)]
end Go.Ev
set_option maxRecDepth 100000
namespace Go.Ev
open Go.Ev renaming exPure -> Ja, ofValue -> Jb, cellsV -> Jc, load -> Jd, store -> Je, binOp -> Jf, intOp -> Jg, rdV -> Jh, vsame -> Ji, vsames -> Jj, makeSliceV -> Jk, resV -> Jl, isCell -> Jm, nilCheckV -> Jn, allV -> Jo, builtinV -> Jp, lenV -> Jq, indexAddrV -> Jr, unOp -> Js, minmaxV -> Jt, minmax -> Ju, sliceV -> Jv, asInt -> Jw, appendV -> Jx, copyV -> Jy, clearV -> Jz, convV -> J0, sliceCells -> J1, shift -> J2
open Bool renaming true -> BT, false -> BF
open Nat renaming reduceEqDiff -> J3, reduceLT -> J4, reduceAdd -> J5, reduceBEq -> J6, reduceSub -> J7, reduceMul -> J8, reduceLeDiff -> JG
open Int renaming reduceLT -> J9, reduceLE -> JA, reduceAdd -> JB, reduceSub -> JC, reduceNeg -> JD, reduceToNat -> JE, reduceEq -> JF
open Go.Proofs
def ordS (o c f t : Int) (self : RP) (S : List In) : List In := S.filter (mtB o c f t self)
def ordQ (o c f t : Int) (self : RP) (S : List In) : Int := mxR 1 ((ordS o c f t self S).map fun x => ((1 : Int), x.sq))
def ordK (o c f t : Int) (self : RP) (S : List In) : List RP := (ordS o c f t self S).map In.key
theorem ordS_snoc {o c f t : Int} {self : RP} {S : List In} {k : Nat} {x : In} (hx : S[k]? = some x) : ordS o c f t self (S.take (k + 1)) = ordS o c f t self (S.take k) ++ (if mtB o c f t self x then [x] else []) := by
  unfold ordS
  rw [List.take_add_one, hx, List.filter_append]
  congr 1
  cases h : mtB o c f t self x <;> simp [h]
theorem ordQ_snoc {o c f t : Int} {self : RP} {S : List In} {k : Nat} {x : In} (hx : S[k]? = some x) : ordQ o c f t self (S.take (k + 1)) = if mtB o c f t self x then (if ordQ o c f t self (S.take k) < x.sq then x.sq else ordQ o c f t self (S.take k)) else ordQ o c f t self (S.take k) := by
  unfold ordQ
  rw [ordS_snoc hx]
  cases h : mtB o c f t self x with
  | false => simp
  | true =>
    rw [if_pos rfl, if_pos rfl, List.map_append]
    unfold mxR
    rw [List.foldl_append]
    show mxS 1 _ (1, x.sq) = _
    unfold mxS
    rw [if_pos rfl]
theorem ordK_snoc {o c f t : Int} {self : RP} {S : List In} {k : Nat} {x : In} (hx : S[k]? = some x) : ordK o c f t self (S.take (k + 1)) = if mtB o c f t self x then ordK o c f t self (S.take k) ++ [x.key] else ordK o c f t self (S.take k) := by
  unfold ordK
  rw [ordS_snoc hx]
  cases h : mtB o c f t self x <;> simp
theorem ordK_len (o c f t : Int) (self : RP) (S : List In) : (ordK o c f t self S).length <= S.length := by
  unfold ordK ordS
  rw [List.length_map]
  exact List.length_filter_le _ _
structure OrdI (o c q f t : Int) (v : V) (sf : RP) (lp : Nat) (r : LoopR) (H1 : Heap) (S : List In) (k : Nat) (H : Heap) : Prop where
  len : H1.length <= H.length
  old : ∀ i, i < H1.length -> i ≠ lp -> H[i]? = H1[i]?
  lp1 : loopAt H1 lp = some r
  all : ∃ dv x4 x5, loopAt H lp = some { r with l := [(1, [.int .i64 o, .int .i64 c, .int .i64 q, .int .i64 f, .int .i64 t, v]), (1, [.int .i64 sf.1, .int .i64 sf.2]), (1, [.int .i64 (ordQ o c f t sf (S.take k))]), (1, [dv]), x4, x5] } /\ Gro H1 H dv (ordK o c f t sf (S.take k))
theorem OrdI.keep {o c q f t : Int} {v : V} {self : RP} {lp : Nat} {r : LoopR} {H1 H : Heap} {S : List In} {k : Nat} (h : OrdI o c q f t v self lp r H1 S k H) : KeepC H1 H := by
  refine ⟨h.len, fun i g p hc => ?_⟩
  have hi := hcells_lt hc
  have hne : i ≠ lp := by
    rintro rfl
    have := loopAt_get h.lp1
    unfold hcells at hc
    rw [this] at hc; cases hc
  unfold hcells at hc ⊢
  rw [h.old i hi hne]; exact hc
theorem eachF_at (b : Nat) (h : Heap) : D X (.fn 31 []) [.ptr b 0 0] h = some (.fn 59 [.ptr h.length 0 0], h ++ [.cells 0 true [.ptr b 0 0]]) := by
  refine Ok.eq ?_
  (refine Ok.body body31 pin31 ?_; simp only [c31, Try.f31, Option.getD_some, nslot31, List.append_nil, List.map, List.replicate, List.length_cons, List.length_nil, Nat.reduceAdd, Nat.reduceSub, List.cons_append, List.nil_append])
  (repeat' (first | (simp -implicitDefEqProofs (maxSteps := 1000000) (disch := first | assumption | omega | (simp only [ZDI]; omega)) only [*, G31, Za, Zb, Zc, Zd, Ze, Zf, Zg, Zh, Zi, Zj, Zk, Zl, Zm, Zn, Zo, Ja, Jb, Jc, J3, Jd, Je, J4, J5, Jf, Jg, Jh, Ji, Jj, Jk, J6, Jl, Jm, wr, Jn, J7, J8, Jo, Jp, Jq, Jr, Js, Jt, Ju, Jv, Jw, Jx, Jy, Jz, J0, J1, J2, reduceCtorEq, J9, JA, JB, JC, JD, JE, JF, JG]) | ((with_reducible (first | apply Ok.br | apply Ok.gd | apply Ok.ld)) <;> (intro g; (try simp only [ZGS] at g); try (exfalso; omega)))))
end Go.Ev
set_option maxRecDepth 100000
namespace Go.Ev
open Go.Ev renaming exPure -> Ja, ofValue -> Jb, cellsV -> Jc, load -> Jd, store -> Je, binOp -> Jf, intOp -> Jg, rdV -> Jh, vsame -> Ji, vsames -> Jj, makeSliceV -> Jk, resV -> Jl, isCell -> Jm, nilCheckV -> Jn, allV -> Jo, builtinV -> Jp, lenV -> Jq, indexAddrV -> Jr, unOp -> Js, minmaxV -> Jt, minmax -> Ju, sliceV -> Jv, asInt -> Jw, appendV -> Jx, copyV -> Jy, clearV -> Jz, convV -> J0, sliceCells -> J1, shift -> J2
open Bool renaming true -> BT, false -> BF
open Nat renaming reduceEqDiff -> J3, reduceLT -> J4, reduceAdd -> J5, reduceBEq -> J6, reduceSub -> J7, reduceMul -> J8, reduceLeDiff -> JG
open Int renaming reduceLT -> J9, reduceLE -> JA, reduceAdd -> JB, reduceSub -> JC, reduceNeg -> JD, reduceToNat -> JE, reduceEq -> JF
open Go.Proofs
theorem order_loop2 {pb b m lp : Nat} {H0 : Heap} {L : List In} {r : LoopR} (hpb : hcells H0 pb 0 = some (true, [.ptr b 0 0])) (ht : TabAt H0 b m L) (hl : L.length <= 5000) (hL : loopAt H0 lp = some r) (hr : OrdRec r)
    {o c q f t : Int} {v : V} {self : RP} {x4 x5 : Nat × List V} (hrl : r.l = [(1, [.int .i64 o, .int .i64 c, .int .i64 q, .int .i64 f, .int .i64 t, v]), (1, [.int .i64 self.1, .int .i64 self.2]), (1, [.int .i64 0]), (1, [.sl .nil 0 0 0]), x4, x5]) :
    Ev.Ok (D X (.fn 59 [.ptr pb 0 0]) [.yld lp] H0) fun y => ∃ H' S dv x4' x5' H1, y = (.tup [], H') /\ SeqOf H1 L S /\ KeepC H0 H' /\ lp < H1.length /\
      loopAt H' lp = some { r with l := [(1, [.int .i64 o, .int .i64 c, .int .i64 q, .int .i64 f, .int .i64 t, v]), (1, [.int .i64 self.1, .int .i64 self.2]), (1, [.int .i64 (ordQ o c f t self S)]), (1, [dv]), x4', x5'] } /\ Gro H1 H' dv (ordK o c f t self S) /\ (H0.length <= H'.length /\ ∀ i, i < H0.length -> i ≠ lp -> H'[i]? = H0[i]?) := by
  have hlp := loopAt_lt hL
  refine (each_at hpb ht hl (OrdI o c q f t v self lp r) ?_ ?_ ?_).mono ?_
  · intro l S hS
    refine ⟨Nat.le_refl _, fun _ _ _ => rfl, by rw [loopAt_app hlp]; exact hL, .sl .nil 0 0 0, x4, x5, ?_, .inl ⟨rfl, rfl⟩⟩
    rw [loopAt_app hlp, hL]
    obtain ⟨st, pe, fn, e, l, ps, asg, bd, le⟩ := r
    dsimp only at hrl
    subst hrl
    rfl
  · intro H1 S k H h
    exact ⟨h.keep, fun i h1 h2 => h.old i h2 (by omega)⟩
  · intro l S k x H hS hx h hxa
    obtain ⟨h1, h2, h3, dv, y4, y5, h4, h5⟩ := h
    have hkl : (ordK o c f t self (S.take k)).length <= 10000 := by
      have := ordK_len o c f t self (S.take k)
      have h6 := hS.len
      rw [List.length_take] at this
      omega
    have hl1 : lp < (H0 ++ l).length := by rw [List.length_append]; omega
    refine (ord_round h4 ⟨hr.state, hr.pending, hr.fn, hr.params, hr.code, hr.lent, hr.len, hr.t4, hr.t5, hr.t8, hr.t9⟩ rfl hl1 h1 h5 hkl x).mono ?_
    rintro y ⟨H', dv', z4, z5, rfl, g1, g2, g3, g4⟩
    refine ⟨H', rfl, by omega, fun i i1 i2 => by rw [g4 i i1 i2, h2 i i1 i2], h3, dv', z4, z5, ?_, ?_⟩
    · rw [g1, ordQ_snoc hx]
    · rw [ordK_snoc hx]; exact g2
  · rintro y ⟨l, S, H', rfl, hS, h⟩
    have hk := h.keep
    obtain ⟨h1, h2, h3, dv, y4, y5, h4, h5⟩ := h
    rw [List.take_length] at h4 h5
    exact ⟨H', S, dv, y4, y5, _, rfl, hS, (KeepC.app _ _).trans hk, by rw [List.length_append]; omega, h4, h5, by rw [List.length_append] at h1; omega, fun i hi hne => by rw [h2 i (by rw [List.length_append]; omega) hne, List.getElem?_append_left hi]⟩
set_option maxHeartbeats 8000000 in
theorem order_at2 {h : Heap} {b m : Nat} {L : List In} (ht : TabAt h b m L) (hl : L.length <= 5000) (hq : ∀ x ∈ L, x.sq <= 1099511627776) (o c q f t : Int) (v : V) (self : RP) :
    Ev.Ok (D X (.fn 23 []) [.ptr b 0 0, .agg [.int .i64 o, .int .i64 c, .int .i64 q, .int .i64 f, .int .i64 t, v], .agg [.int .i64 self.1, .int .i64 self.2]] h) fun y => ∃ S H1 w g, y = (.tup [.int .i64 (ordQ o c f t self S + 1), w], g) /\ SeqOf H1 L S /\ KeepC h g /\ RowAt g w (ordK o c f t self S) /\ (∀ i z, i < h.length -> RowAt (g.set i z) w (ordK o c f t self S)) /\ Keeps [] h g := by
  refine Ok.aim fun Q hQ => ?_
  have hQ' := Hid.mk hQ
  clear hQ
  have hbd : ∀ S H1, SeqOf H1 L S -> 0 <= ordQ o c f t self S /\ ordQ o c f t self S <= 1099511627776 := by
    intro S H1 hS
    refine mxR_le (by decide) fun k hk => ?_
    obtain ⟨x, hx, rfl⟩ := List.mem_map.1 hk
    obtain ⟨y, hy, he⟩ := hS.core x (List.mem_filter.1 hx).1
    have := hq y hy
    have e : y.sq = x.sq := by have := congrArg In.sq he; exact this
    show x.sq <= _
    omega
  have hbd' := Hid.mk hbd
  have ht' := Hid.mk ht
  clear hbd hq ht
  (refine Ok.body body23 pin23 ?_; simp only [c23, Try.f23, Option.getD_some, nslot23, List.append_nil, List.map, List.replicate, List.length_cons, List.length_nil, Nat.reduceAdd, Nat.reduceSub, List.cons_append, List.nil_append])
  have hef := eachF_at b h
  (repeat' (first | (simp -implicitDefEqProofs (maxSteps := 1000000) (disch := first | assumption | omega | (simp only [ZDI]; omega)) only [*, G23, Za, Zb, Zc, Zd, Ze, Zf, Zg, Zh, Zi, Zj, Zk, Zl, Zm, Zn, Zo, Ja, Jb, Jc, J3, Jd, Je, J4, J5, Jf, Jg, Jh, Ji, Jj, Jk, J6, Jl, Jm, wr, Jn, J7, J8, Jo, Jp, Jq, Jr, Js, Jt, Ju, Jv, Jw, Jx, Jy, Jz, J0, J1, J2, reduceCtorEq, J9, JA, JB, JC, JD, JE, JF, JG]) | ((with_reducible (first | apply Ok.br | apply Ok.gd | apply Ok.ld)) <;> (intro g; (try simp only [ZGS] at g); try (exfalso; omega)))))
  clear hef
  have hm := Hid.mk ht'.out.map
  refine Ok.bnd2 (order_loop2 (lp := h.length + 1) (pb := h.length) (b := b) (m := m) (L := L) (r := ?rr) (x4 := ?x4) (x5 := ?x5) (o := o) (c := c) (q := q) (f := f) (t := t) (v := v) (self := self) ?hpb (ht'.out.keep (KeepC.app h _) ?hmm) hl ?hL ?hr ?hl) ?_
  case hpb => rw [hcells_ge (Nat.le_refl _), Nat.sub_self]; exact grd_t rfl _
  case hmm =>
    obtain ⟨_, _, _, h2, _⟩ := hm.out
    exact List.getElem?_append_left (List.getElem?_eq_some_iff.1 h2).1
  case hL => rw [loopAt_ge (by omega)]; simp only [Nat.add_sub_cancel_left]; rfl
  case hr => exact ⟨rfl, rfl, rfl, rfl, by simp only [c23, Try.f23, Option.getD_some, rangesOf, List.nil_append, List.append_nil, List.cons_append, List.getElem?_cons_zero], rfl, rfl, rfl, rfl, rfl, rfl⟩
  case hl => rfl
  rintro v' H2 ⟨H3, S, dv, y4, y5, H1, e3, hS, hk, hlp, hrec, hG, hnl, hnew⟩
  simp only [Prod.mk.injEq] at e3
  obtain ⟨rfl, rfl⟩ := e3
  have hb := hbd'.out S H1 hS
  have hkl := ordK_len o c f t self S
  have hSl := hS.len
  have hrow := hG.row (by omega)
  have hkp : ∀ x, Keeps [] h (H2.set (h.length + 1) x) := by
    intro x
    refine ⟨by rw [List.length_set]; have := hk.1; rw [List.length_append] at this; omega, fun i hi _ => ?_⟩
    rw [List.getElem?_set_ne (by omega), hnew i (by rw [List.length_append]; omega) (by omega), List.getElem?_append_left hi]
  have hrw : ∀ x i z, i < h.length -> RowAt ((H2.set (h.length + 1) x).set i z) dv (ordK o c f t self S) := by
    intro x i z hi
    rcases hG with ⟨e1, e2⟩ | ⟨b3, q3, e1, e2, e3⟩
    · rw [e1, e2]; exact ⟨_, _, _, rfl, Nat.le_refl _, by decide, .inl rfl⟩
    · exact Gro.row (h := []) (.inr ⟨b3, q3, e1, Nat.zero_le _, by rw [hcells_set_ne (by omega), hcells_set_ne (by omega)]; exact e3⟩) (by omega)
  have hks : ∀ x, KeepC H2 (H2.set (h.length + 1) x) := by
    intro x
    refine ⟨by simp, fun i g p hc => ?_⟩
    rw [hcells_set_ne]
    · exact hc
    · rintro rfl
      have := loopAt_get hrec
      unfold hcells at hc
      rw [this] at hc; cases hc
  have hQ2 : Hid (∀ x, Q (.tup [.int .i64 (ordQ o c f t self S + 1), dv], H2.set (h.length + 1) x)) := ⟨fun x => hQ'.out _ ⟨S, H1, dv, _, rfl, hS, (KeepC.app h _).trans (hk.trans (hks x)), hrow.keep (hks x), hrw x, hkp x⟩⟩
  have hdv : ∃ a n cc z, dv = .sl a n cc z := by
    obtain ⟨a, cap, z, rfl, _⟩ := hrow
    exact ⟨_, _, _, _, rfl⟩
  clear hS hk hG hrow hrw hks hkp hnl hnew hQ' hbd' ht' hm hkl hSl
  generalize ordQ o c f t self S = n at *
  simp -implicitDefEqProofs (maxSteps := 1000000) (disch := first | assumption | omega | (simp only [ZDI]; omega)) only [*, G23, Za, Zb, Zc, Zd, Ze, Zf, Zg, Zh, Zi, Zj, Zk, Zl, Zm, Zn, Zo, Ja, Jb, Jc, J3, Jd, Je, J4, J5, Jf, Jg, Jh, Ji, Jj, Jk, J6, Jl, Jm, wr, Jn, J7, J8, Jo, Jp, Jq, Jr, Js, Jt, Ju, Jv, Jw, Jx, Jy, Jz, J0, J1, J2, reduceCtorEq, J9, JA, JB, JC, JD, JE, JF, JG]
  exact hQ2.out _
end Go.Ev
set_option maxRecDepth 100000
namespace Go.Ev
open Go.Ev renaming exPure -> Ja, ofValue -> Jb, cellsV -> Jc, load -> Jd, store -> Je, binOp -> Jf, intOp -> Jg, rdV -> Jh, vsame -> Ji, vsames -> Jj, makeSliceV -> Jk, resV -> Jl, isCell -> Jm, nilCheckV -> Jn, allV -> Jo, builtinV -> Jp, lenV -> Jq, indexAddrV -> Jr, unOp -> Js, minmaxV -> Jt, minmax -> Ju, sliceV -> Jv, asInt -> Jw, appendV -> Jx, copyV -> Jy, clearV -> Jz, convV -> J0, sliceCells -> J1, shift -> J2
open Bool renaming true -> BT, false -> BF
open Nat renaming reduceEqDiff -> J3, reduceLT -> J4, reduceAdd -> J5, reduceBEq -> J6, reduceSub -> J7, reduceMul -> J8, reduceLeDiff -> JG
open Int renaming reduceLT -> J9, reduceLE -> JA, reduceAdd -> JB, reduceSub -> JC, reduceNeg -> JD, reduceToNat -> JE, reduceEq -> JF
open Go.Proofs
theorem ownSl_strs2 {h : Heap} {v : V} {l : List ByteArray} (hs : StrsAt h v l) (hl : l.length <= 5000) (nx : Nat) : ∃ v' bl, ownSl h nx 1 v = some (v', bl) /\ ∀ h' : Heap, (∀ k, k < bl.length -> h'[nx + k]? = bl[k]?) -> StrsAt h' v' l := by
  obtain ⟨a, cap, z, rfl, h1, _, h2⟩ := hs
  rcases h2 with rfl | ⟨b, g, o, rw, full, rfl, hc, hf⟩
  · cases a with
    | nil => exact ⟨_, _, rfl, fun h' _ => ⟨_, _, _, rfl, by decide, trivial, .inl rfl⟩⟩
    | any => exact ⟨_, _, rfl, fun h' _ => ⟨_, _, _, rfl, by decide, trivial, .inl rfl⟩⟩
    | «at» b g o => exact ⟨_, _, rfl, fun h' _ => ⟨_, _, _, rfl, by decide, trivial, .inl rfl⟩⟩
  · by_cases h0 : l.length = 0
    · obtain rfl : l = [] := List.length_eq_zero_iff.1 h0
      exact ⟨_, _, rfl, fun h' _ => ⟨_, _, _, rfl, by decide, trivial, .inl rfl⟩⟩
    · have hlen : o + l.length * 1 <= full.length := by
        have := hf (l.length - 1) _ (List.getElem?_eq_getElem (by omega))
        have := (List.getElem?_eq_some_iff.1 this).1
        omega
      refine ⟨_, _, ownSl_at (by omega) hl hc hlen, fun h' hb => ⟨_, _, _, rfl, h1, trivial, .inr ⟨nx + 1, 0, 0, true, (full.drop o).take (l.length * 1), rfl, ?_, fun i s hi => ?_⟩⟩⟩
      · have := hb 1 (by simp)
        unfold hcells
        rw [this]
        exact grd_t rfl _
      · have hi2 := (List.getElem?_eq_some_iff.1 hi).1
        rw [Nat.zero_add, List.getElem?_take, if_pos (by omega), List.getElem?_drop]
        exact hf i s hi
theorem ownSl_row2 {h : Heap} {v : V} {l : List RP} (hs : RowAt h v l) (hl : l.length <= 5000) (nx : Nat) : ∃ v' bl, ownSl h nx 2 v = some (v', bl) /\ ∀ h' : Heap, (∀ k, k < bl.length -> h'[nx + k]? = bl[k]?) -> RowAt h' v' l := by
  obtain ⟨a, cap, z, rfl, h1, h1', h2⟩ := hs
  rcases h2 with rfl | ⟨b, g, o, rw, full, rfl, hc, hf, ho⟩
  · cases a with
    | nil => exact ⟨_, _, rfl, fun h' _ => ⟨_, _, _, rfl, by decide, by decide, .inl rfl⟩⟩
    | any => exact ⟨_, _, rfl, fun h' _ => ⟨_, _, _, rfl, by decide, by decide, .inl rfl⟩⟩
    | «at» b g o => exact ⟨_, _, rfl, fun h' _ => ⟨_, _, _, rfl, by decide, by decide, .inl rfl⟩⟩
  · by_cases h0 : l.length = 0
    · obtain rfl : l = [] := List.length_eq_zero_iff.1 h0
      exact ⟨_, _, rfl, fun h' _ => ⟨_, _, _, rfl, by decide, by decide, .inl rfl⟩⟩
    · refine ⟨_, _, ownSl_at (by omega) hl hc ho, fun h' hb => ⟨_, _, _, rfl, Nat.le_refl _, by omega, .inr ⟨nx + 1, 0, 0, true, (full.drop o).take (l.length * 2), rfl, ?_, fun i s hi => ?_, ?_⟩⟩⟩
      · have := hb 1 (by simp)
        unfold hcells
        rw [this]
        exact grd_t rfl _
      · have hi2 := (List.getElem?_eq_some_iff.1 hi).1
        rw [Nat.zero_add, List.drop_take, List.take_take, List.drop_drop, Nat.min_eq_left (by omega)]
        exact hf i s hi
      · rw [List.length_take, List.length_drop]; omega
theorem own_in2 {h : Heap} {x : In} (hx : InAt h x) (h1 : x.dl.length <= 5000) (h2 : x.pl.length <= 5000) (nx : Nat) : ∃ (x' : In) (bl : List Blk), ownG h nx (.agg (inV x)) = some (.agg (inV x'), bl) /\ x'.core = x.core /\
    ∀ h' : Heap, (∀ k, k < bl.length -> h'[nx + k]? = bl[k]?) -> InAt h' x' := by
  obtain ⟨dv', bd, e1, k1⟩ := ownSl_strs2 hx.1 h1 nx
  obtain ⟨pv', bp, e2, k2⟩ := ownSl_row2 hx.2 h2 (nx + bd.length)
  refine ⟨{ x with dv := dv', pv := pv' }, bd ++ bp, ownG_mk rfl rfl rfl e1 e2, rfl, fun h' hb => ⟨k1 h' fun j hj => ?_, k2 h' fun j hj => ?_⟩⟩
  · rw [hb j (by rw [List.length_append]; omega), List.getElem?_append_left hj]
  · rw [Nat.add_assoc, hb (bd.length + j) (by rw [List.length_append]; omega), List.getElem?_append_right (by omega)]
    congr 1; omega
set_option maxHeartbeats 8000000 in
theorem put_at2 {h : Heap} {b m : Nat} {L : List In} (ht : TabAt h b m L) {x : In} (hx : InAt h x) :
    ∃ (h' : Heap) (x' : In), D X (.fn 24 []) [.ptr b 0 0, .agg (inV x)] h = some (.int .i64 (putE L x), h') /\ x'.core = x.core /\ TabAt h' b m (if putE L x = 0 then putL L x' else L) /\ KeepC h h' /\ Keeps [m] h h' /\ (putE L x = 0 -> ∀ i z, i < h.length -> InAt (h'.set i z) x') := by
  obtain ⟨ex, es, c, hm, he⟩ := ht.map
  have hml := (List.getElem?_eq_some_iff.1 hm).1
  have hmay := mayI_at hx
  cases hmb : mayB x with
  | false =>
    rw [hmb] at hmay
    have hpe : putE L x = 1 := by unfold putE; rw [hmb]; rfl
    rw [hpe]
    refine ⟨h, x, ?_, rfl, by rw [if_neg (by decide)]; exact ht, KeepC.refl h, Keeps.refl _ h, fun e => absurd e (by decide)⟩
    obtain ⟨a, cap, z, e1⟩ := hx.1.sl
    obtain ⟨a3, cap3, z3, e3⟩ := hx.2.sl
    simp only [inV, e1, e3] at hmay ⊢
    clear e1 e3 hx
    refine Ok.eq ?_
    (refine Ok.body body24 pin24 ?_; simp only [c24, Try.f24, Option.getD_some, nslot24, List.append_nil, List.map, List.replicate, List.length_cons, List.length_nil, Nat.reduceAdd, Nat.reduceSub, List.cons_append, List.nil_append])
    (repeat' (first | (simp -implicitDefEqProofs (maxSteps := 1000000) (disch := first | assumption | omega | (simp only [ZDI]; omega)) only [*, G24, Za, Zb, Zc, Zd, Ze, Zf, Zg, Zh, Zi, Zj, Zk, Zl, Zm, Zn, Zo, Ja, Jb, Jc, J3, Jd, Je, J4, J5, Jf, Jg, Jh, Ji, Jj, Jk, J6, Jl, Jm, wr, Jn, J7, J8, Jo, Jp, Jq, Jr, Js, Jt, Ju, Jv, Jw, Jx, Jy, Jz, J0, J1, J2, reduceCtorEq, J9, JA, JB, JC, JD, JE, JF, JG]) | ((with_reducible (first | apply Ok.br | apply Ok.gd | apply Ok.ld)) <;> (intro g; (try simp only [ZGS] at g); try (exfalso; omega)))))
  | true =>
    rw [hmb] at hmay
    obtain ⟨hd1, hd2⟩ := mayB_dl hmb
    have hlk := fun e l => lookup_tab hm he x.key true e l
    rw [isL_iff] at hlk
    generalize hd : decide (x.key ∈ L.map In.key) = is at hlk
    by_cases hfree : x.key ∈ L.map In.key \/ L.length < 4096
    · have hpe : putE L x = 0 := by unfold putE; rw [hmb, if_pos rfl, if_pos hfree]
      rw [hpe]
      obtain ⟨x', bl, h1, h2, h3⟩ := own_in2 hx hd1 hd2 h.length
      have hown := own_at h1
      have hkx : x'.key = x.key := by have := congrArg In.key h2; exact this
      have hko := keyOk_ref x.key (TabAt.keysM (h := h) he)
      have hkc : KeepC h ((h ++ bl).set m (.map ex (putM (elt x.key) (.agg (inV x')) es c).1 (putM (elt x.key) (.agg (inV x')) es c).2)) :=
        (KeepC.app h bl).trans (.setMap (by rw [List.getElem?_append_left hml]; exact hm))
      refine ⟨(h ++ bl).set m (.map ex (putM (elt x.key) (.agg (inV x')) es c).1 (putM (elt x.key) (.agg (inV x')) es c).2), x', ?_, h2, ?_, hkc, (Keeps.app [m] h bl).set (.inl (by simp)) _, fun _ i z hi => h3 _ fun j hj => by rw [List.getElem?_set_ne (by omega), List.getElem?_set_ne (by omega), List.getElem?_append_right (by omega), Nat.add_sub_cancel_left]⟩
      · have hc := ht.cell
        have hlen := TabAt.len (L := L) he
        have hmm : ∀ y, (h ++ y)[m]? = some (.map ex es c) := fun y => by rw [List.getElem?_append_left hml]; exact hm
        have hbl := hcells_lt hc
        obtain ⟨a, cap, z, e1⟩ := hx.1.sl
        obtain ⟨a3, cap3, z3, e3⟩ := hx.2.sl
        obtain ⟨pm, hpm⟩ : ∃ pm, putM (elt x.key) (.agg (inV x')) es c = pm := ⟨_, rfl⟩
        rw [hpm]
        unfold elt at hpm hko
        simp only [inV, e1, e3, In.key, outV, cond_true] at hmay hown hlk hpm hko ⊢
        clear e1 e3 hx h1 h2 h3 hd1 hd2 hkc he ht
        generalize getL L (x.l, x.i) = y at hlk
        refine Ok.eq ?_
        by_cases hk : x.key ∈ L.map In.key
        · rw [decide_eq_true hk] at hd
          subst hd
          clear hk hfree
          (refine Ok.body body24 pin24 ?_; simp only [c24, Try.f24, Option.getD_some, nslot24, List.append_nil, List.map, List.replicate, List.length_cons, List.length_nil, Nat.reduceAdd, Nat.reduceSub, List.cons_append, List.nil_append])
          (repeat' (first | (simp -implicitDefEqProofs (maxSteps := 1000000) (disch := first | assumption | omega | (simp only [ZDI]; omega)) only [*, exOp_lookup, exOp_mapUpdate, updateV, G24, Za, Zb, Zc, Zd, Ze, Zf, Zg, Zh, Zi, Zj, Zk, Zl, Zm, Zn, Zo, Ja, Jb, Jc, J3, Jd, Je, J4, J5, Jf, Jg, Jh, Ji, Jj, Jk, J6, Jl, Jm, wr, Jn, J7, J8, Jo, Jp, Jq, Jr, Js, Jt, Ju, Jv, Jw, Jx, Jy, Jz, J0, J1, J2, reduceCtorEq, J9, JA, JB, JC, JD, JE, JF, JG]) | ((with_reducible (first | apply Ok.br | apply Ok.gd | apply Ok.ld)) <;> (intro g; (try simp only [ZGS] at g); try (exfalso; omega)))))
        · rw [decide_eq_false hk] at hd
          subst hd
          have hlt : ¬ (4096 : Int) <= (es.length : Int) := by
            rcases hfree with h | h
            · exact absurd h hk
            · omega
          clear hk hfree
          (refine Ok.body body24 pin24 ?_; simp only [c24, Try.f24, Option.getD_some, nslot24, List.append_nil, List.map, List.replicate, List.length_cons, List.length_nil, Nat.reduceAdd, Nat.reduceSub, List.cons_append, List.nil_append])
          (repeat' (first | (simp -implicitDefEqProofs (maxSteps := 1000000) (disch := first | assumption | omega | (simp only [ZDI]; omega)) only [*, exOp_lookup, exOp_mapUpdate, updateV, lenV, G24, Za, Zb, Zc, Zd, Ze, Zf, Zg, Zh, Zi, Zj, Zk, Zl, Zm, Zn, Zo, Ja, Jb, Jc, J3, Jd, Je, J4, J5, Jf, Jg, Jh, Ji, Jj, Jk, J6, Jl, Jm, wr, Jn, J7, J8, Jo, Jp, Jq, Jr, Js, Jt, Ju, Jv, Jw, Jx, Jy, Jz, J0, J1, J2, reduceCtorEq, J9, JA, JB, JC, JD, JE, JF, JG]) | ((with_reducible (first | apply Ok.br | apply Ok.gd | apply Ok.ld)) <;> (intro g; (try simp only [ZGS] at g); try (exfalso; omega)))))
      · rw [if_pos rfl]
        have hm2 : (((h ++ bl).set m (.map ex (putM (elt x.key) (.agg (inV x')) es c).1 (putM (elt x.key) (.agg (inV x')) es c).2)))[m]? = some (.map ex (putM (elt x.key) (.agg (inV x')) es c).1 (putM (elt x.key) (.agg (inV x')) es c).2) :=
          List.getElem?_set_self (by simp; omega)
        refine ⟨hkc.2 _ _ _ ht.cell, ⟨_, _, _, hm2, ?_⟩, fun y hy => ?_, putL_nodup ht.keys⟩
        · rw [<- hkx]; exact putM_tab he
        · rcases putL_mem hy with rfl | hy
          · have hl1 : y.dl = x.dl := by have := congrArg In.dl h2; exact this
            have hl2 : y.pl = x.pl := by have := congrArg In.pl h2; exact this
            refine ⟨?_, by rw [hl1]; exact hd1, by rw [hl2]; exact hd2⟩
            exact (h3 (h ++ bl) fun j hj => by rw [List.getElem?_append_right (by omega), Nat.add_sub_cancel_left]).keep (.setMap (by rw [List.getElem?_append_left hml]; exact hm))
          · exact ⟨(ht.at_ y hy).1.keep hkc, (ht.at_ y hy).2⟩
    · have hpe : putE L x = 2 := by unfold putE; rw [hmb, if_pos rfl, if_neg hfree]
      rw [hpe]
      refine ⟨h, x, ?_, rfl, by rw [if_neg (by decide)]; exact ht, KeepC.refl h, Keeps.refl _ h, fun e => absurd e (by decide)⟩
      have hk : x.key ∉ L.map In.key := fun h => hfree (.inl h)
      rw [decide_eq_false hk] at hd
      subst hd
      have hc := ht.cell
      have hlen := TabAt.len (L := L) he
      have hge : (4096 : Int) <= (es.length : Int) := by
        have : ¬ L.length < 4096 := fun h => hfree (.inr h)
        omega
      obtain ⟨a, cap, z, e1⟩ := hx.1.sl
      obtain ⟨a3, cap3, z3, e3⟩ := hx.2.sl
      simp only [inV, e1, e3, In.key, outV, cond_true] at hmay hlk ⊢
      clear e1 e3 hx hfree he ht hk
      generalize getL L (x.l, x.i) = y at hlk
      refine Ok.eq ?_
      (refine Ok.body body24 pin24 ?_; simp only [c24, Try.f24, Option.getD_some, nslot24, List.append_nil, List.map, List.replicate, List.length_cons, List.length_nil, Nat.reduceAdd, Nat.reduceSub, List.cons_append, List.nil_append])
      (repeat' (first | (simp -implicitDefEqProofs (maxSteps := 1000000) (disch := first | assumption | omega | (simp only [ZDI]; omega)) only [*, exOp_lookup, lenV, G24, Za, Zb, Zc, Zd, Ze, Zf, Zg, Zh, Zi, Zj, Zk, Zl, Zm, Zn, Zo, Ja, Jb, Jc, J3, Jd, Je, J4, J5, Jf, Jg, Jh, Ji, Jj, Jk, J6, Jl, Jm, wr, Jn, J7, J8, Jo, Jp, Jq, Jr, Js, Jt, Ju, Jv, Jw, Jx, Jy, Jz, J0, J1, J2, reduceCtorEq, J9, JA, JB, JC, JD, JE, JF, JG]) | ((with_reducible (first | apply Ok.br | apply Ok.gd | apply Ok.ld)) <;> (intro g; (try simp only [ZGS] at g); try (exfalso; omega)))))
end Go.Ev
set_option maxRecDepth 100000
namespace Go.Ev
open Go.Ev renaming exPure -> Ja, ofValue -> Jb, cellsV -> Jc, load -> Jd, store -> Je, binOp -> Jf, intOp -> Jg, rdV -> Jh, vsame -> Ji, vsames -> Jj, makeSliceV -> Jk, resV -> Jl, isCell -> Jm, nilCheckV -> Jn, allV -> Jo, builtinV -> Jp, lenV -> Jq, indexAddrV -> Jr, unOp -> Js, minmaxV -> Jt, minmax -> Ju, sliceV -> Jv, asInt -> Jw, appendV -> Jx, copyV -> Jy, clearV -> Jz, convV -> J0, sliceCells -> J1, shift -> J2
open Bool renaming true -> BT, false -> BF
open Nat renaming reduceEqDiff -> J3, reduceLT -> J4, reduceAdd -> J5, reduceBEq -> J6, reduceSub -> J7, reduceMul -> J8, reduceLeDiff -> JG
open Int renaming reduceLT -> J9, reduceLE -> JA, reduceAdd -> JB, reduceSub -> JC, reduceNeg -> JD, reduceToNat -> JE, reduceEq -> JF
open Go.Proofs Go.Sort
end Go.Ev
set_option maxRecDepth 100000
namespace Go.Ev
open Go.Ev renaming exPure -> Ja, ofValue -> Jb, cellsV -> Jc, load -> Jd, store -> Je, binOp -> Jf, intOp -> Jg, rdV -> Jh, vsame -> Ji, vsames -> Jj, makeSliceV -> Jk, resV -> Jl, isCell -> Jm, nilCheckV -> Jn, allV -> Jo, builtinV -> Jp, lenV -> Jq, indexAddrV -> Jr, unOp -> Js, minmaxV -> Jt, minmax -> Ju, sliceV -> Jv, asInt -> Jw, appendV -> Jx, copyV -> Jy, clearV -> Jz, convV -> J0, sliceCells -> J1, shift -> J2
open Bool renaming true -> BT, false -> BF
open Nat renaming reduceEqDiff -> J3, reduceLT -> J4, reduceAdd -> J5, reduceBEq -> J6, reduceSub -> J7, reduceMul -> J8, reduceLeDiff -> JG
open Int renaming reduceLT -> J9, reduceLE -> JA, reduceAdd -> JB, reduceSub -> JC, reduceNeg -> JD, reduceToNat -> JE, reduceEq -> JF
open Go.Proofs
end Go.Ev
set_option maxRecDepth 100000
namespace Go.Ev
open Go.Ev renaming exPure -> Ja, ofValue -> Jb, cellsV -> Jc, load -> Jd, store -> Je, binOp -> Jf, intOp -> Jg, rdV -> Jh, vsame -> Ji, vsames -> Jj, makeSliceV -> Jk, resV -> Jl, isCell -> Jm, nilCheckV -> Jn, allV -> Jo, builtinV -> Jp, lenV -> Jq, indexAddrV -> Jr, unOp -> Js, minmaxV -> Jt, minmax -> Ju, sliceV -> Jv, asInt -> Jw, appendV -> Jx, copyV -> Jy, clearV -> Jz, convV -> J0, sliceCells -> J1, shift -> J2
open Bool renaming true -> BT, false -> BF
open Nat renaming reduceEqDiff -> J3, reduceLT -> J4, reduceAdd -> J5, reduceBEq -> J6, reduceSub -> J7, reduceMul -> J8, reduceLeDiff -> JG
open Int renaming reduceLT -> J9, reduceLE -> JA, reduceAdd -> JB, reduceSub -> JC, reduceNeg -> JD, reduceToNat -> JE, reduceEq -> JF
open Go.Proofs
theorem key_inj : ∀ {L : List In}, (L.map In.key).Nodup -> ∀ x ∈ L, ∀ y ∈ L, x.key = y.key -> x = y
  | [], _, x, hx, _, _, _ => nomatch hx
  | z :: L, h, x, hx, y, hy, e => by
    rw [List.map_cons, List.nodup_cons] at h
    rcases List.mem_cons.1 hx with hx1 | hx <;> rcases List.mem_cons.1 hy with hy1 | hy
    · rw [hx1, hy1]
    · exact absurd (List.mem_map.2 ⟨y, hy, by rw [<- e, hx1]⟩) h.1
    · exact absurd (List.mem_map.2 ⟨x, hx, by rw [e, hy1]⟩) h.1
    · exact key_inj h.2 x hx y hy e
theorem SeqOf.back {H1 : Heap} {L S : List In} (hS : SeqOf H1 L S) (hn : (L.map In.key).Nodup) : ∀ y ∈ L, ∃ x ∈ S, x.core = y.core := by
  intro y hy
  have h1 : y.key ∈ S.map In.key := by rw [hS.keys, addsR_mem]; exact .inr (List.mem_map.2 ⟨y, hy, rfl⟩)
  obtain ⟨x, hx, e⟩ := List.mem_map.1 h1
  obtain ⟨z, hz, e2⟩ := hS.core x hx
  have e3 : z.key = y.key := by rw [<- e]; have := congrArg In.key e2; exact this
  rw [key_inj hn z hz y hy e3] at e2
  exact ⟨x, hx, e2.symm⟩
def SameC (S M : List In) : Prop := (∀ x ∈ S, ∃ y ∈ M, y.core = x.core) /\ ∀ y ∈ M, ∃ x ∈ S, x.core = y.core
theorem SameC.of {L M : List In} (h : L.map In.core = M.map In.core) : SameC L M := by
  refine ⟨fun x hx => ?_, fun y hy => ?_⟩
  · have : x.core ∈ L.map In.core := List.mem_map.2 ⟨x, hx, rfl⟩
    rw [h] at this
    exact List.mem_map.1 this
  · have : y.core ∈ M.map In.core := List.mem_map.2 ⟨y, hy, rfl⟩
    rw [<- h] at this
    exact List.mem_map.1 this
theorem SameC.trans {A B C : List In} (h : SameC A B) (k : SameC B C) : SameC A C := by
  refine ⟨fun x hx => ?_, fun z hz => ?_⟩
  · obtain ⟨y, hy, e⟩ := h.1 x hx
    obtain ⟨z, hz, e2⟩ := k.1 y hy
    exact ⟨z, hz, e2.trans e⟩
  · obtain ⟨y, hy, e⟩ := k.2 z hz
    obtain ⟨x, hx, e2⟩ := h.2 y hy
    exact ⟨x, hx, e2.trans e⟩
theorem SeqOf.same {H1 : Heap} {L S M : List In} (hS : SeqOf H1 L S) (hn : (L.map In.key).Nodup) (h : L.map In.core = M.map In.core) : SameC S M :=
  SameC.trans ⟨hS.core, hS.back hn⟩ (.of h)
theorem SameC.filt {S M : List In} (h : SameC S M) {β : Type} {P : In -> Bool} {g : In -> β} (hP : ∀ x, P x.core = P x) (hg : ∀ x, g x.core = g x) (k : β) : k ∈ (S.filter P).map g ↔ k ∈ (M.filter P).map g := by
  constructor
  · intro hk
    obtain ⟨x, hx, rfl⟩ := List.mem_map.1 hk
    obtain ⟨h1, h2⟩ := List.mem_filter.1 hx
    obtain ⟨y, hy, e⟩ := h.1 x h1
    exact List.mem_map.2 ⟨y, List.mem_filter.2 ⟨hy, by rw [<- hP, e, hP]; exact h2⟩, by rw [<- hg, e, hg]⟩
  · intro hk
    obtain ⟨x, hx, rfl⟩ := List.mem_map.1 hk
    obtain ⟨h1, h2⟩ := List.mem_filter.1 hx
    obtain ⟨y, hy, e⟩ := h.2 x h1
    exact List.mem_map.2 ⟨y, List.mem_filter.2 ⟨hy, by rw [<- hP, e, hP]; exact h2⟩, by rw [<- hg, e, hg]⟩
theorem ordQ_same {S M : List In} (h : SameC S M) (o c f t : Int) (self : RP) : ordQ o c f t self S = ordQ o c f t self M :=
  mxR_eq fun k => h.filt (P := mtB o c f t self) (g := fun x => ((1 : Int), x.sq)) (fun x => mtB_core o c f t self x) (fun _ => rfl) k
theorem ordK_same {H1 : Heap} {L S M : List In} (hS : SeqOf H1 L S) (h : SameC S M) (o c f t : Int) (self : RP) : ordK o c f t self S = addsR [] (ordK o c f t self M) := by
  refine strict_eq _ _ ?_ (addsR_strict _ _ List.Pairwise.nil) fun k => ?_
  · have h1 : Strict (S.map In.key) := by rw [hS.keys]; exact addsR_strict _ _ List.Pairwise.nil
    exact List.Pairwise.sublist (List.Sublist.map _ List.filter_sublist) h1
  · rw [addsR_mem]
    have := h.filt (P := mtB o c f t self) (g := In.key) (fun x => mtB_core o c f t self x) (fun _ => rfl) k
    unfold ordK ordS
    rw [this]
    simp
end Go.Ev
set_option maxRecDepth 100000
namespace Go.Ev
open Go.Proofs
structure SeeR (R : List In) : Prop where
  st : ∀ x ∈ R, x.st = 1 /\ (0 <= x.l /\ x.l <= 2) /\ (1 <= x.i /\ x.i <= R.length) /\ 1 <= x.sq /\ x.sq <= R.length
  deps : ∀ x ∈ R, ∀ k ∈ x.pl, k ∈ R.map In.key
theorem SeeR.nil : SeeR [] := ⟨fun x hx => (nomatch hx), fun x hx => (nomatch hx)⟩
theorem mxR_ge {lead : Int} {ks : List RP} {k : RP} (hk : k ∈ ks) (hl : k.1 = lead) : k.2 <= mxR lead ks := (mxS_fold lead ks 0).2.1 k hk hl
theorem see_new {ks : List RP} {lead : Int} : (lead, mxR lead ks + 1) ∉ ks := fun h => by
  have := mxR_ge h rfl
  dsimp only at this
  omega
theorem risB_strict : ∀ (l : List RP), Strict l -> (∀ k ∈ l, refP k.1 k.2) -> ∀ p : Option RP, (∀ q, p = some q -> ∀ k ∈ l, ltR q k = true) -> risB p l = true
  | [], _, _, p, _ => by simp [risB]
  | k :: l, hs, hr, p, hp => by
    obtain ⟨h1, h2⟩ := List.pairwise_cons.1 hs
    have ih := risB_strict l h2 (fun y hy => hr y (by simp [hy])) (some k) (fun q e y hy => by cases e; exact h1 y hy)
    unfold risB
    rw [ih, decide_eq_true (hr k (by simp))]
    cases p with
    | none => rfl
    | some q =>
      show ((true && ltR q k) && true) = true
      rw [hp q rfl k (by simp)]; rfl
theorem see_dep {H1 : Heap} {L S R : List In} (hS : SeqOf H1 L S) (hn : (L.map In.key).Nodup) (hc : L.map In.core = R.map In.core) (hR : SeeR R) {o c f t : Int} {r : RP} (hr : r ∉ R.map In.key) {y : In} (hy : y ∈ R) :
    decide (y.key ∈ ordK o c f t r S) = decide (meddleP o c f t y.o y.c y.f y.t) /\ (meddleP o c f t y.o y.c y.f y.t -> y.sq <= ordQ o c f t r S) := by
  have hsm := hS.same hn hc
  have hnR : (R.map In.key).Nodup := by rw [<- core_keys hc]; exact hn
  have hm : mtB o c f t r y = decide (meddleP o c f t y.o y.c y.f y.t) := by
    unfold mtB
    have h1 := (hR.st y hy).1
    have h2 : (decide (y.l = r.1) && decide (y.i = r.2)) = false := by
      cases hd : (decide (y.l = r.1) && decide (y.i = r.2)) with
      | false => rfl
      | true =>
        simp only [Bool.and_eq_true, decide_eq_true_eq] at hd
        exact absurd (List.mem_map.2 ⟨y, hy, by unfold In.key; rw [hd.1, hd.2]⟩) hr
    rw [h2, decide_eq_true (by omega : (1 : Int) <= y.st)]
    rfl
  constructor
  · rw [<- hm]
    have := hsm.filt (P := mtB o c f t r) (g := In.key) (fun x => mtB_core o c f t r x) (fun _ => rfl) y.key
    cases hd : mtB o c f t r y with
    | true =>
      rw [decide_eq_true_iff]
      exact this.2 (List.mem_map.2 ⟨y, List.mem_filter.2 ⟨hy, hd⟩, rfl⟩)
    | false =>
      rw [decide_eq_false_iff_not]
      intro hk
      obtain ⟨u, hu, e⟩ := List.mem_map.1 (this.1 hk)
      obtain ⟨h1, h2⟩ := List.mem_filter.1 hu
      rw [key_inj hnR u h1 y hy e, hd] at h2
      cases h2
  · intro hmd
    have h1 : ((1 : Int), y.sq) ∈ (ordS o c f t r S).map fun x => ((1 : Int), x.sq) :=
      (hsm.filt (P := mtB o c f t r) (g := fun x => ((1 : Int), x.sq)) (fun x => mtB_core o c f t r x) (fun _ => rfl) _).2 (List.mem_map.2 ⟨y, List.mem_filter.2 ⟨hy, by rw [hm]; exact decide_eq_true hmd⟩, rfl⟩)
    exact mxR_ge h1 rfl
def seeI (lead i o c q f t : Int) (v : V) (dl : List ByteArray) (sq : Int) (pv : V) (pl : List RP) : In := ⟨lead, i, 0, 0, 0, 0, 1, false, o, c, q, f, t, v, dl, sq, pv, pl⟩
theorem see_next {H1 : Heap} {L S R : List In} (hS : SeqOf H1 L S) (hn : (L.map In.key).Nodup) (hc : L.map In.core = R.map In.core) (hR : SeeR R) (h30 : R.length < 30) {lead o c q f t : Int} (hl : 0 <= lead /\ lead <= 2) {v pv : V} {dl : List ByteArray} (hm : mayP o c q f t dl) :
    mayB (seeI lead (mxR lead (R.map In.key) + 1) o c q f t v dl (ordQ o c f t (lead, mxR lead (R.map In.key) + 1) S + 1) pv (ordK o c f t (lead, mxR lead (R.map In.key) + 1) S)) = true /\
      ∀ pl, pl = ordK o c f t (lead, mxR lead (R.map In.key) + 1) S -> SeeR (R ++ [seeI lead (mxR lead (R.map In.key) + 1) o c q f t v dl (ordQ o c f t (lead, mxR lead (R.map In.key) + 1) S + 1) pv pl]) := by
  obtain ⟨r, hr⟩ : ∃ r : RP, (lead, mxR lead (R.map In.key) + 1) = r := ⟨_, rfl⟩
  have hx := mxR_le (lead := lead) (p := R.map In.key) (B := (R.length : Int)) (by omega) fun k hk => by
    obtain ⟨y, hy, rfl⟩ := List.mem_map.1 hk
    exact (hR.st y hy).2.2.1.2
  have hsm := hS.same hn hc
  have hsq : 0 <= ordQ o c f t r S /\ ordQ o c f t r S <= (R.length : Int) := by
    rw [ordQ_same hsm]
    refine mxR_le (by omega) fun k hk => ?_
    obtain ⟨y, hy, rfl⟩ := List.mem_map.1 hk
    exact (hR.st y (List.mem_filter.1 hy).1).2.2.2.2
  have hdk : ∀ k ∈ ordK o c f t r S, k ∈ R.map In.key := by
    intro k hk
    rw [ordK_same hS hsm, addsR_mem] at hk
    rcases hk with hk | hk
    · cases hk
    · obtain ⟨y, hy, rfl⟩ := List.mem_map.1 hk
      exact List.mem_map.2 ⟨y, (List.mem_filter.1 hy).1, rfl⟩
  have hst : Strict (ordK o c f t r S) := by rw [ordK_same hS hsm]; exact addsR_strict _ _ List.Pairwise.nil
  have hpl : (ordK o c f t r S).length <= 30 := by
    have h1 := ordK_len o c f t r S
    have h2 := hS.len
    have h3 := core_len hc
    omega
  rw [hr]
  refine ⟨?_, ?_⟩
  · have h1 : hdB (seeI lead (mxR lead (R.map In.key) + 1) o c q f t v dl (ordQ o c f t r S + 1) pv (ordK o c f t r S)) = true := by
      unfold hdB
      simp only [Bool.and_eq_true, decide_eq_true_eq, Bool.not_eq_true', decide_eq_false_iff_not]
      have a1 : refP lead (mxR lead (R.map In.key) + 1) := by unfold refP; omega
      have a2 : balP 0 0 := by decide
      have a3 : ¬ lsP 0 0 0 0 := by decide
      have a4 : stP (seeI lead (mxR lead (R.map In.key) + 1) o c q f t v dl (ordQ o c f t r S + 1) pv (ordK o c f t r S)) := ⟨by show (0 : Int) <= 1 /\ (1 : Int) <= 3; omega, by show 0 <= ordQ o c f t r S + 1 /\ ordQ o c f t r S + 1 <= 1099511627776; omega⟩
      exact ⟨⟨⟨⟨a1, a2⟩, a2⟩, a3⟩, a4⟩
    have h2 : bodB (seeI lead (mxR lead (R.map In.key) + 1) o c q f t v dl (ordQ o c f t r S + 1) pv (ordK o c f t r S)) = true := by
      unfold bodB
      simp only [Bool.and_eq_true, decide_eq_true_eq]
      refine ⟨hm, risB_strict _ hst (fun k hk => ?_) none (fun q e => by cases e), by show ((ordK o c f t r S).length : Int) <= 4096; omega⟩
      obtain ⟨y, hy, rfl⟩ := List.mem_map.1 (hdk k hk)
      have := hR.st y hy
      unfold refP In.key
      dsimp only
      omega
    unfold mayB
    rw [h1, h2]
    rfl
  · intro pl hpl2
    subst hpl2
    refine ⟨fun x hx => ?_, fun x hx k hk => ?_⟩
    · rw [List.length_append, List.length_singleton]
      rcases List.mem_append.1 hx with hx | hx
      · have := hR.st x hx
        omega
      · rw [List.mem_singleton.1 hx]
        unfold seeI
        dsimp only
        omega
    · rw [List.map_append, List.mem_append]
      rcases List.mem_append.1 hx with hx | hx
      · exact .inl (hR.deps x hx k hk)
      · rw [List.mem_singleton.1 hx] at hk
        exact .inl (hdk k hk)
end Go.Ev
set_option maxRecDepth 100000
namespace Go.Ev
open Go.Proofs
structure SeeP (h0 : Heap) (b m : Nat) (L R : List In) (g : Heap) : Prop where
  tab : TabAt g b m L
  ins : ∀ x ∈ R, InAt g x
  kp : KeepC h0 g
def RowS (h0 g : Heap) (w : V) (R : List In) (b m : Nat) (L : List In) : Prop :=
  (R = [] /\ w = .sl .nil 0 0 0 /\ SeeP h0 b m L R g) \/ ∃ rb q, w = .sl (.at rb q 0) R.length R.length 16 /\ h0.length <= rb /\ hcells g rb q = some (true, flI R) /\ ∀ z, SeeP h0 b m L R (g.set rb z)
def RowX (h0 g : Heap) (w : V) (x : In) : Prop := InAt g x /\ ∀ rb q n c z', w = .sl (.at rb q 0) n c z' -> h0.length <= rb -> rb < g.length -> ∀ z, InAt (g.set rb z) x
theorem Keeps.keepC' {h g : Heap} (k : Keeps [] h g) : KeepC h g := ⟨k.1, fun _ _ _ e => k.cells e (by simp)⟩
theorem Keeps.set2 {a c : Heap} (k : Keeps [] a c) {i : Nat} (hi : i < a.length) (z : Blk) : Keeps [] (a.set i z) (c.set i z) := by
  refine ⟨by simpa using k.1, fun j hj _ => ?_⟩
  by_cases h : i = j
  · subst h
    rw [List.getElem?_set_self hi, List.getElem?_set_self (by have := k.1; omega)]
  · rw [List.getElem?_set_ne h, List.getElem?_set_ne h]
    exact k.2 j (by simpa using hj) (by simp)
theorem SeeP.keeps {h0 g g' : Heap} {b m : Nat} {L R : List In} (h : SeeP h0 b m L R g) (k : Keeps [] g g') : SeeP h0 b m L R g' := by
  refine ⟨?_, fun x hx => (h.ins x hx).keep k.keepC', h.kp.trans k.keepC'⟩
  obtain ⟨_, _, _, hm, _⟩ := h.tab.map
  exact h.tab.keep k.keepC' (k.2 m (List.getElem?_eq_some_iff.1 hm).1 (by simp))
theorem RowS.p {h0 g : Heap} {w : V} {R : List In} {b m : Nat} {L : List In} (h : RowS h0 g w R b m L) : SeeP h0 b m L R g := by
  rcases h with ⟨_, _, h⟩ | ⟨rb, q, _, _, h1, h2⟩
  · exact h
  · have := h2 (.cells q true (flI R))
    rwa [set_same' h1] at this
theorem RowS.keeps {h0 g g' : Heap} {w : V} {R : List In} {b m : Nat} {L : List In} (h : RowS h0 g w R b m L) (k : Keeps [] g g') : RowS h0 g' w R b m L := by
  rcases h with ⟨h1, h2, h⟩ | ⟨rb, q, e, h0', h1, h2⟩
  · exact .inl ⟨h1, h2, h.keeps k⟩
  · exact .inr ⟨rb, q, e, h0', k.cells h1 (by simp), fun z => (h2 z).keeps (k.set2 (hcells_lt h1) z)⟩
theorem RowS.sl {h0 g : Heap} {w : V} {R : List In} {b m : Nat} {L : List In} (h : RowS h0 g w R b m L) : ∃ a cap z, w = .sl a R.length cap z := by
  rcases h with ⟨rfl, h2, _⟩ | ⟨rb, q, e, _⟩
  · exact ⟨_, _, _, h2⟩
  · exact ⟨_, _, _, e⟩
theorem put_set {g g3 : Heap} {b m rb : Nat} {L : List In} {z : Blk} (ht : TabAt (g.set rb z) b m L) (hne : m ≠ rb) (hrb : rb < g.length) (k : Keeps [m] g g3) : KeepC (g.set rb z) (g3.set rb z) := by
  refine ⟨by simpa using k.1, fun i q p hc => ?_⟩
  have hi := hcells_lt hc
  have him : i ≠ m := by
    rintro rfl
    obtain ⟨_, _, _, hm, _⟩ := ht.map
    unfold hcells at hc
    rw [hm] at hc; cases hc
  have e : (g3.set rb z)[i]? = (g.set rb z)[i]? := by
    by_cases h : rb = i
    · subst h
      rw [List.getElem?_set_self hrb, List.getElem?_set_self (by have := k.1; omega)]
    · rw [List.getElem?_set_ne h, List.getElem?_set_ne h]
      exact k.2 i (by simpa using hi) (by simpa using him)
  unfold hcells at hc ⊢
  rw [e]; exact hc
theorem see_put {h0 g : Heap} {w : V} {R : List In} {b m : Nat} {L : List In} (h : RowS h0 g w R b m L) {x : In} (hx : RowX h0 g w x) (he : putE L x = 0) :
    ∃ (g3 : Heap) (x' : In), D X (.fn 24 []) [.ptr b 0 0, .agg (inV x)] g = some (.int .i64 0, g3) /\ x'.core = x.core /\ RowS h0 g3 w R b m (putL L x') /\ RowX h0 g3 w x := by
  obtain ⟨g3, x', e1, e2, e3, e4, e5, e6⟩ := put_at2 h.p.tab hx.1
  rw [he] at e1 e3 e6
  rw [if_pos rfl] at e3
  refine ⟨g3, x', e1, e2, ?_, hx.1.keep e4, ?_⟩
  · rcases h with ⟨h1, h2, h⟩ | ⟨rb, q, e, h0', h1, h2⟩
    · exact .inl ⟨h1, h2, e3, fun x hx => (h.ins x hx).keep e4, h.kp.trans e4⟩
    · have hrb := hcells_lt h1
      have hne : m ≠ rb := by
        rintro rfl
        obtain ⟨_, _, _, hm, _⟩ := (h2 (.cells 0 true [])).tab.map
        rw [List.getElem?_set_self hrb] at hm; cases hm
      have hbne : b ≠ rb := by
        rintro rfl
        have hm := (h2 (.map true [] 0)).tab.cell
        unfold hcells at hm
        rw [List.getElem?_set_self hrb] at hm; cases hm
      refine .inr ⟨rb, q, e, h0', e4.2 _ _ _ h1, fun z => ⟨?_, fun y hy => ((h2 z).ins y hy).keep (put_set (h2 z).tab hne hrb e5), (h2 z).kp.trans (put_set (h2 z).tab hne hrb e5)⟩⟩
      obtain ⟨c1, ⟨ex, es, c, c2, c3⟩, c4, c5⟩ := e3
      refine ⟨by rw [hcells_set_ne hbne]; exact c1, ⟨ex, es, c, by rw [List.getElem?_set_ne (Ne.symm hne)]; exact c2, c3⟩, fun y hy => ⟨?_, (c4 y hy).2⟩, c5⟩
      rcases putL_mem hy with rfl | hy
      · exact e6 rfl rb z hrb
      · exact ((h2 z).tab.at_ y hy).1.keep (put_set (h2 z).tab hne hrb e5)
  · intro rb q n c z' ew hr0 hr3 z
    by_cases hrb : rb < g.length
    · rcases h with ⟨h1, h2, h⟩ | ⟨rb2, q2, e, h0', h1, h2⟩
      · rw [h2] at ew; cases ew
      · rw [e] at ew
        cases ew
        have hne : m ≠ rb := by
          rintro rfl
          obtain ⟨_, _, _, hm, _⟩ := (h2 (.cells 0 true [])).tab.map
          rw [List.getElem?_set_self hrb] at hm; cases hm
        exact (hx.2 rb q _ _ _ e hr0 hrb z).keep (put_set (h2 z).tab hne hrb e5)
    · rcases h with ⟨h1, h2, h⟩ | ⟨rb2, q2, e, h0', h1, h2⟩
      · rw [h2] at ew; cases ew
      · rw [e] at ew
        cases ew
        exact absurd (hcells_lt h1) hrb
theorem see_app0 {h0 g : Heap} {x : In} {b m : Nat} {L : List In} (h : SeeP h0 b m L [] g) (hx : InAt g x) : RowS h0 (g ++ [.cells 0 true (flI [x])]) (.sl (.at g.length 0 0) 1 1 16) [x] b m L := by
  refine .inr ⟨g.length, 0, rfl, h.kp.1, hcells_new, fun z => ?_⟩
  have e : (g ++ [Blk.cells 0 true (flI [x])]).set g.length z = g ++ [z] := by
    rw [List.set_append_right _ _ (Nat.le_refl _), Nat.sub_self]; rfl
  rw [e]
  have hk := h.keeps (Keeps.app [] g [z])
  exact ⟨hk.tab, fun y hy => by rw [List.mem_singleton.1 hy]; exact hx.keep (KeepC.app g [z]), hk.kp⟩
theorem see_app1 {h0 g : Heap} {R : List In} {x : In} {b m rb q : Nat} {L : List In} (hr : h0.length <= rb) (hc : hcells g rb q = some (true, flI R)) (h : ∀ z, SeeP h0 b m L R (g.set rb z)) (hx : ∀ z, InAt (g.set rb z) x) :
    RowS h0 (g.set rb (.cells (q + 1) true (flI (R ++ [x])))) (.sl (.at rb (q + 1) 0) (R.length + 1) (R.length + 1) 16) (R ++ [x]) b m L := by
  refine .inr ⟨rb, q + 1, by simp, hr, hcells_set_eq (hcells_lt hc), fun z => ?_⟩
  rw [List.set_set]
  refine ⟨(h z).tab, fun y hy => ?_, (h z).kp⟩
  rcases List.mem_append.1 hy with hy | hy
  · exact (h z).ins y hy
  · rw [List.mem_singleton.1 hy]; exact hx z
end Go.Ev
set_option maxRecDepth 100000
namespace Go.Ev
open Go.Proofs
section
variable {T : TypeId -> TI} {h : Heap} {d : Nat} {t u w : TypeId} {xss : List (List V)}
theorem FitsAll.one (hf : FitsAll T h d [t] xss) : ∃ x, xss = [x] /\ Fits T h d t x := by
  match xss, hf with
  | [x], hf => exact ⟨x, rfl, hf.1⟩
end
theorem Strs.at' {h : Heap} {v : V} {l : List ByteArray} (hs : Strs h v l) : StrsAt h v l := hs.at
def In.Ok (x : In) : Prop := In64 x.l /\ In64 x.i /\ In64 x.bn /\ In64 x.bd /\ In64 x.vn /\ In64 x.vd /\ In64 x.st /\ In64 x.sq /\ In64 x.o /\ In64 x.c /\ In64 x.q /\ In64 x.f /\ In64 x.t
end Go.Ev
set_option maxRecDepth 100000
namespace Go.Ev
open Go.Proofs
structure CmI where
  o : Int
  c : Int
  q : Int
  f : Int
  t : Int
  v : V
  l : List ByteArray
def CmsAt (h : Heap) (v : V) (L : List CmI) : Prop :=
  ∃ a cap z, v = .sl a L.length cap z /\ L.length <= 9223372036854775807 /\ (∀ x ∈ L, StrsAt h x.v x.l) /\ (L = [] \/ ∃ b g o rw full, a = .at b g o /\ hcells h b g = some (rw, full) /\
    ∀ (i : Nat) (x : CmI), L[i]? = some x -> (full.drop (o + i * 6)).take 6 = [.int .i64 x.o, .int .i64 x.c, .int .i64 x.q, .int .i64 x.f, .int .i64 x.t, x.v] /\ o + i * 6 + 6 <= full.length)
theorem fits_cms {h : Heap} {d : Nat} {cs : List V} (hf : Fits X.ty h (d + 4) 36 cs) : ∃ v L, cs = [v] /\ CmsAt h v L := by
  unfold Fits at hf
  rw [ty36] at hf
  have hmax : maxLen = 9223372036854775807 := by decide
  rw [hmax] at hf
  rcases hf with rfl | rfl | ⟨b, len, cap, full, rfl, h1, h2, h3, h4, h5, h6⟩
  · exact ⟨_, [], rfl, .nil, 0, 0, rfl, by decide, by simp, .inl rfl⟩
  · exact ⟨_, [], rfl, .any, 0, 1, rfl, by decide, by simp, .inl rfl⟩
  · have hsz : (X.ty 28).size = 6 := by rw [ty28]
    rw [hsz] at h5 h6
    have hx : ∀ i, ∃ x : CmI, i < cap -> (full.drop (i * 6)).take 6 = [.int .i64 x.o, .int .i64 x.c, .int .i64 x.q, .int .i64 x.f, .int .i64 x.t, x.v] /\ StrsAt h x.v x.l := by
      intro i
      by_cases hi : i < cap
      · obtain ⟨o, c, q, f, t, v, l, e, _, _, _, _, _, hs⟩ := fits_cmd (h6 i hi)
        exact ⟨⟨o, c, q, f, t, v, l⟩, fun _ => ⟨e, hs.at⟩⟩
      · exact ⟨⟨0, 0, 0, 0, 0, .nilp, []⟩, fun h' => absurd h' hi⟩
    obtain ⟨g, hg⟩ := Classical.axiomOfChoice hx
    refine ⟨_, (List.range len).map g, rfl, .at b 0 0, cap, 0, by simp, by rw [List.length_map, List.length_range]; omega, ?_, .inr ⟨b, 0, 0, false, full, rfl, ?_, ?_⟩⟩
    · intro x hm
      obtain ⟨i, hi, rfl⟩ := List.mem_map.1 hm
      have := List.mem_range.1 hi
      exact (hg i (by omega)).2
    · unfold hcells; rw [h4]; exact grd_t rfl _
    · intro i x hi
      rw [List.getElem?_map] at hi
      cases hr : (List.range len)[i]? with
      | none => rw [hr] at hi; cases hi
      | some j =>
        rw [hr] at hi
        have hj : i < len := by have := (List.getElem?_eq_some_iff.1 hr).1; simpa using this
        have : j = i := by rw [List.getElem?_range hj] at hr; exact (Option.some.inj hr).symm
        subst this
        simp only [Option.map_some, Option.some.injEq] at hi
        subst hi
        rw [Nat.zero_add]
        refine ⟨(hg j (by omega)).1, ?_⟩
        rw [h5]
        have : (j + 1) * 6 <= cap * 6 := Nat.mul_le_mul_right 6 (by omega)
        omega
end Go.Ev
set_option maxRecDepth 100000
namespace Go.Ev
open Go.Ev renaming exPure -> Ja, ofValue -> Jb, cellsV -> Jc, load -> Jd, store -> Je, binOp -> Jf, intOp -> Jg, rdV -> Jh, vsame -> Ji, vsames -> Jj, makeSliceV -> Jk, resV -> Jl, isCell -> Jm, nilCheckV -> Jn, allV -> Jo, builtinV -> Jp, lenV -> Jq, indexAddrV -> Jr, unOp -> Js, minmaxV -> Jt, minmax -> Ju, sliceV -> Jv, asInt -> Jw, appendV -> Jx, copyV -> Jy, clearV -> Jz, convV -> J0, sliceCells -> J1, shift -> J2
open Bool renaming true -> BT, false -> BF
open Nat renaming reduceEqDiff -> J3, reduceLT -> J4, reduceAdd -> J5, reduceBEq -> J6, reduceSub -> J7, reduceMul -> J8, reduceLeDiff -> JG
open Int renaming reduceLT -> J9, reduceLE -> JA, reduceAdd -> JB, reduceSub -> JC, reduceNeg -> JD, reduceToNat -> JE, reduceEq -> JF
open Go.Proofs
set_option maxHeartbeats 16000000 in
theorem instsSees_at {h : Heap} {v0 : V} {C : List CmI} (hr : CmsAt h v0 C) : Ev.Ok (D X (.fn 4 []) [v0] h) fun r => r.1 = .bool true := by
  refine Ok.aim fun Q hQ => ?_
  have hQ' := Hid.mk hQ
  clear hQ
  have hlv := D_pin (X := X) (f := 13) (b := true) rfl
  have hnew := newT_at h
  have hst : TabAt (h ++ [Blk.map true [] 0, .cells 0 true [.map h.length]]) (h.length + 1) h.length [] := by
    refine ⟨?_, ⟨true, [], 0, ?_, rfl⟩, (fun x hx => nomatch hx), List.nodup_nil⟩
    · rw [hcells_ge (by omega), Nat.add_sub_cancel_left]; rfl
    · rw [List.getElem?_append_right (Nat.le_refl _), Nat.sub_self]; rfl
  obtain ⟨va, vc, vz, rfl, hv1, hCs, hv2⟩ := hr
  have hCs' := Hid.mk hCs
  obtain ⟨b, hb⟩ : ∃ b, h.length + 1 = b := ⟨_, rfl⟩
  obtain ⟨m, hm⟩ : ∃ m, h.length = m := ⟨_, rfl⟩
  obtain ⟨g0, hg0⟩ : ∃ g0, h ++ [Blk.map true [] 0, .cells 0 true [.map h.length]] = g0 := ⟨_, rfl⟩
  have hk0 : KeepC h g0 := by rw [<- hg0]; exact KeepC.app _ _
  rw [hb] at hnew hst
  rw [hg0] at hnew hst
  rw [hm] at hst
  have hst' : Hid (RowS h g0 (.sl .nil 0 0 0) [] b m []) := ⟨.inl ⟨rfl, rfl, hst, (fun x hx => nomatch hx), hk0⟩⟩
  clear hst hk0 hCs hb hm hg0
  (refine Ok.body body4 pin4 ?_; simp only [c4, Try.f4, Option.getD_some, nslot4, List.append_nil, List.map, List.replicate, List.length_cons, List.length_nil, Nat.reduceAdd, Nat.reduceSub, List.cons_append, List.nil_append])
  (repeat' (first | (simp -implicitDefEqProofs (maxSteps := 1000000) (disch := first | assumption | omega | (simp only [ZDI]; omega)) only [*, lenV, G4, Za, Zb, Zc, Zd, Ze, Zf, Zg, Zh, Zi, Zj, Zk, Zl, Zm, Zn, Zo, Ja, Jb, Jc, J3, Jd, Je, J4, J5, Jf, Jg, Jh, Ji, Jj, Jk, J6, Jl, Jm, wr, Jn, J7, J8, Jo, Jp, Jq, Jr, Js, Jt, Ju, Jv, Jw, Jx, Jy, Jz, J0, J1, J2, reduceCtorEq, J9, JA, JB, JC, JD, JE, JF, JG]) | ((with_reducible (first | apply Ok.br | apply Ok.gd | apply Ok.ld)) <;> (intro g; (try simp only [ZGS] at g); try (exfalso; omega)))))
  clear hnew
  refine Ok.loop [BF, BF, BT, BF, BT, BT, BT, BT, BT, BT, BT, BF, BT, BT, BF, BF, BF, BT, BT, BT, BT, BT, BT, BT, BT, BT, BT, BT, BT, BT, BT, BT, BT, BT, BT, BT, BT, BT, BT, BT, BT, BT, BT, BT, BT, BT, BT, BT, BT, BT, BT, BT, BT, BT, BT, BT, BT, BT, BT, BT, BT, BT, BT, BT, BT, BT, BT, BT, BT, BT, BT, BT, BT, BT, BT, BT, BT, BT, BT, BT, BT, BT, BT, BT, BT, BT, BT, BT, BT, BT, BT, BT, BT, BF] (fun n s2 => ∃ (i : Nat) (R L : List In) (w : V) (y1 y2 y3 y4 y5 : Nat × List V), n = C.length - i /\ i <= C.length /\ tv s2.e 17 = .v (.int .i64 i) /\ tv s2.e 4 = .v w /\ s2.l = [y1, y2, y3, y4, y5] /\ RowS h s2.h w R b m L /\ L.map In.core = R.map In.core /\ SeeR R /\ R.length <= i)
    (fun y s2 => y = .exit 0 /\ ∃ (w : V) (y1 y2 y3 y4 y5 : Nat × List V), tv s2.e 4 = .v w /\ s2.l = [y1, y2, y3, y4, y5]) (C.length - 0) ⟨0, [], [], _, _, _, _, _, _, rfl, Nat.zero_le _, rfl, rfl, rfl, hst'.out, rfl, SeeR.nil, Nat.le_refl _⟩ ?_ ?_
  · intro n ⟨e', l', g⟩ hW ⟨i, R, L, w, y1, y2, y3, y4, y5, hm, hi, h9, h4, k2, hrow, hcore, hsee, hRi⟩
    dsimp only at hW h9 h4 k2 hrow
    subst l'
    rw [hW.spread]
    simp only [spread_t, spread_f, spread_n, Nat.zero_add, Nat.reduceAdd, h9, h4]
    clear hW hQ' hst'
    have hrow' := Hid.mk hrow
    have hcore' := Hid.mk hcore
    have hsee' := Hid.mk hsee
    by_cases hlt : i < C.length
    · have hlt' : (i : Int) < (C.length : Int) := by omega
      have g1' : 0 <= (i : Int) /\ (i : Int) < (C.length : Int) := by omega
      rcases hv2 with rfl | ⟨bb, qq, oo, rw, full, rfl, hbc, hfull⟩
      · simp at hlt
      · obtain ⟨x, hy⟩ : ∃ y, C[i]? = some y := ⟨_, List.getElem?_eq_getElem hlt⟩
        obtain ⟨hf, ho2⟩ := hfull i _ hy
        have hbc2 := hrow.p.kp.2 _ _ _ hbc
        have hxs := (hCs'.out x (List.mem_of_getElem? hy)).keep hrow.p.kp
        have hxa : InAt g ⟨0, 0, 0, 0, 0, 0, 0, false, x.o, x.c, x.q, x.f, x.t, x.v, x.l, 0, .sl .nil 0 0 0, []⟩ := ⟨hxs, ⟨.nil, 0, 0, rfl, Nat.le_refl _, by decide, .inl rfl⟩⟩
        have hlight := light_at hxa
        have hmay := rMay_at (o := x.o) (c := x.c) (q := x.q) (f := x.f) (t := x.t) hxs
        simp only [inV] at hlight
        generalize (lightB 0 0 x.l && _) = lb at hlight
        have hy' := Hid.mk hy
        clear hfull hy hxa hbc hrow hcore hsee
        by_cases h30 : (30 : Int) <= (i : Int)
        · clear hlight hmay
          (repeat' (first | (simp -implicitDefEqProofs (maxSteps := 1000000) (disch := first | assumption | omega | (simp only [ZDI]; omega)) only [*, lenV, G4, Za, Zb, Zc, Zd, Ze, Zf, Zg, Zh, Zi, Zj, Zk, Zl, Zm, Zn, Zo, Ja, Jb, Jc, J3, Jd, Je, J4, J5, Jf, Jg, Jh, Ji, Jj, Jk, J6, Jl, Jm, wr, Jn, J7, J8, Jo, Jp, Jq, Jr, Js, Jt, Ju, Jv, Jw, Jx, Jy, Jz, J0, J1, J2, reduceCtorEq, J9, JA, JB, JC, JD, JE, JF, JG]) | ((with_reducible (first | apply Ok.br | apply Ok.gd | apply Ok.ld)) <;> (intro g; (try simp only [ZGS] at g); try (exfalso; omega)))))
          exact Turn.exit ⟨rfl, rfl, _, _, _, _, _, _, rfl, rfl⟩
        · cases lb with
          | false =>
            clear hmay
            (repeat' (first | (simp -implicitDefEqProofs (maxSteps := 1000000) (disch := first | assumption | omega | (simp only [ZDI]; omega)) only [*, lenV, G4, Za, Zb, Zc, Zd, Ze, Zf, Zg, Zh, Zi, Zj, Zk, Zl, Zm, Zn, Zo, Ja, Jb, Jc, J3, Jd, Je, J4, J5, Jf, Jg, Jh, Ji, Jj, Jk, J6, Jl, Jm, wr, Jn, J7, J8, Jo, Jp, Jq, Jr, Js, Jt, Ju, Jv, Jw, Jx, Jy, Jz, J0, J1, J2, reduceCtorEq, J9, JA, JB, JC, JD, JE, JF, JG]) | ((with_reducible (first | apply Ok.br | apply Ok.gd | apply Ok.ld)) <;> (intro g; (try simp only [ZGS] at g); try (exfalso; omega)))))
            exact Turn.exit ⟨rfl, rfl, _, _, _, _, _, _, rfl, rfl⟩
          | true =>
            by_cases hmp : mayP x.o x.c x.q x.f x.t x.l
            · rw [decide_eq_true hmp] at hmay
              obtain ⟨lead, hlead⟩ : ∃ lead, (i : Int).tmod 3 = lead := ⟨_, rfl⟩
              have hld : 0 <= lead /\ lead <= 2 := by
                rw [<- hlead]
                have h1 := Int.tmod_nonneg 3 (by omega : (0 : Int) <= (i : Int))
                have h2 := Int.tmod_lt_of_pos (i : Int) (by decide : (0 : Int) < 3)
                omega
              have hR30 : R.length < 30 := by omega
              have hLR := core_len hcore'.out
              have hkk := core_keys hcore'.out
              obtain ⟨yn, hnext, l2, rfl⟩ := next_at hrow'.out.p.tab (by omega) (by
                rw [hkk]
                intro k hk
                obtain ⟨y, hy, rfl⟩ := List.mem_map.1 hk
                have := (hsee'.out.st y hy).2.2.1.2
                show y.i <= _
                omega) lead
              rw [hkk] at hnext
              have hrow1 := hrow'.out.keeps (Keeps.app [] g l2)
              obtain ⟨nx, hnx⟩ : ∃ nx, mxR lead (R.map In.key) + 1 = nx := ⟨_, rfl⟩
              have hnew : (lead, nx) ∉ R.map In.key := by rw [<- hnx]; exact see_new
              obtain ⟨yo, hord, S, H1, w2, g2, rfl, hS, hk2, hrw2, hfr, hkp2⟩ := order_at2 hrow1.p.tab (by omega) (by
                intro y hy
                obtain ⟨u, hu, e⟩ := (SameC.of hcore'.out).1 y hy
                have e2 : u.sq = y.sq := by have := congrArg In.sq e; exact this
                have := (hsee'.out.st u hu).2.2.2.2
                omega) x.o x.c x.q x.f x.t x.v (lead, nx)
              have hrow2 := hrow1.keeps hkp2
              have hsn := see_next hS hrow'.out.p.tab.keys hcore'.out hsee'.out hR30 hld hmp (v := x.v) (pv := w2)
              rw [hnx] at hsn hnext
              obtain ⟨hmb, hsee2⟩ := hsn
              have hsee3 := Hid.mk (hsee2 _ rfl)
              have hdep := fun y hy => see_dep (o := x.o) (c := x.c) (f := x.f) (t := x.t) hS hrow'.out.p.tab.keys hcore'.out hsee'.out hnew (y := y) hy
              have hqb : 0 <= ordQ x.o x.c x.f x.t (lead, nx) S /\ ordQ x.o x.c x.f x.t (lead, nx) S <= 1099511627776 := by
                refine mxR_le (by decide) fun k hk => ?_
                obtain ⟨y, hy, rfl⟩ := List.mem_map.1 hk
                obtain ⟨u, hu, e⟩ := (hS.same hrow'.out.p.tab.keys hcore'.out).1 y (List.mem_filter.1 hy).1
                have e2 : u.sq = y.sq := by have := congrArg In.sq e; exact this
                have := (hsee'.out.st u hu).2.2.2.2
                show y.sq <= _
                omega
              have hX : RowX h g2 w (seeI lead nx x.o x.c x.q x.f x.t x.v x.l (ordQ x.o x.c x.f x.t (lead, nx) S + 1) w2 (ordK x.o x.c x.f x.t (lead, nx) S)) := by
                refine ⟨⟨hxs.keep ((KeepC.app g l2).trans hk2), hrw2⟩, fun rb q n c z' ew hr0 hr3 z => ⟨?_, ?_⟩⟩
                · refine (hCs'.out x (List.mem_of_getElem? hy'.out)).keep ⟨by rw [List.length_set]; exact hrow2.p.kp.1, fun j q p hc => ?_⟩
                  have hj := hcells_lt hc
                  rw [hcells_set_ne (by omega)]
                  exact hrow2.p.kp.2 _ _ _ hc
                · refine hfr rb z ?_
                  rcases hrow'.out with ⟨_, e2, _⟩ | ⟨rb2, q2, e2, _, h3, _⟩
                  · rw [e2] at ew; cases ew
                  · rw [e2] at ew
                    cases ew
                    have := hcells_lt h3
                    rw [List.length_append]; omega
              have he : putE L (seeI lead nx x.o x.c x.q x.f x.t x.v x.l (ordQ x.o x.c x.f x.t (lead, nx) S + 1) w2 (ordK x.o x.c x.f x.t (lead, nx) S)) = 0 := by
                unfold putE
                rw [hmb, if_pos rfl, if_pos (.inr (by omega))]
              obtain ⟨g3, x', hput, hxc, hrow3, hX3⟩ := see_put hrow2 hX he
              have hcore3 : (putL L x').map In.core = (R ++ [seeI lead nx x.o x.c x.q x.f x.t x.v x.l (ordQ x.o x.c x.f x.t (lead, nx) S + 1) w2 (ordK x.o x.c x.f x.t (lead, nx) S)]).map In.core := by
                have hkx : x'.key = (lead, nx) := by have := congrArg In.key hxc; exact this
                unfold putL
                rw [if_neg (by rw [hkx, hkk]; exact hnew), List.map_append, List.map_append, hcore'.out, List.map_singleton, List.map_singleton, hxc]
              have hrw3 : RowAt g3 w2 (ordK x.o x.c x.f x.t (lead, nx) S) := hX3.1.2
              have hcore4 := Hid.mk hcore3
              have hrow4 := Hid.mk hrow3
              have hX4 := Hid.mk hX3
              have hrw4 := Hid.mk hrw3
              have hins : Hid (∀ y ∈ R, InAt g3 y) := ⟨hrow3.p.ins⟩
              obtain ⟨wa, wc, wz, hwe⟩ := hrow'.out.sl
              subst hwe
              obtain ⟨d1, d2, d3, hwe2, _⟩ := hrw3
              subst hwe2
              obtain ⟨dl, hdl⟩ : ∃ dl, ordK x.o x.c x.f x.t (lead, nx) S = dl := ⟨_, rfl⟩
              obtain ⟨sq, hsq⟩ : ∃ sq, ordQ x.o x.c x.f x.t (lead, nx) S = sq := ⟨_, rfl⟩
              simp only [inV, seeI, hdl, hsq] at hnext hord hput hqb
              rw [hdl] at hsee3 hcore4 hX4 hrw4
              simp only [hdl, hsq] at hdep
              have hdep' := Hid.mk hdep
              rw [hsq] at hsee3 hcore4 hX4
              clear hmb hsee2 hdep hX he hxc hrow3 hX3 hcore3 hS hk2 hrw2 hfr hkp2 hrow2 hrow1 hkk hmp hxs hnx hdl
              (repeat' (first | (simp -implicitDefEqProofs (maxSteps := 1000000) (disch := first | assumption | omega | (simp only [ZDI]; omega)) only [*, lenV, eq_self, G4, Za, Zb, Zc, Zd, Ze, Zf, Zg, Zh, Zi, Zj, Zk, Zl, Zm, Zn, Zo, Ja, Jb, Jc, J3, Jd, Je, J4, J5, Jf, Jg, Jh, Ji, Jj, Jk, J6, Jl, Jm, wr, Jn, J7, J8, Jo, Jp, Jq, Jr, Js, Jt, Ju, Jv, Jw, Jx, Jy, Jz, J0, J1, J2, reduceCtorEq, J9, JA, JB, JC, JD, JE, JF, JG]) | ((with_reducible (first | apply Ok.br | apply Ok.gd | apply Ok.ld)) <;> (intro g; (try simp only [ZGS] at g); try (exfalso; omega)))))
              clear hnext hord hput hmay hlight hf hbc2 ho2
              refine Ok.loop [BF, BF, BT, BF, BF, BF, BF, BF, BF, BF, BF, BF, BT, BT, BF, BF, BF, BF, BF, BF, BF, BF, BF, BF, BF, BF, BF, BF, BF, BF, BF, BF, BF, BF, BF, BF, BF, BF, BF, BF, BF, BF, BF, BF, BF, BF, BF, BF, BF, BF, BF, BF, BF, BF, BF, BF, BF, BF, BT, BT, BT, BT, BT, BT, BT, BT, BT, BT, BT, BT, BT, BT, BT, BT, BT, BT, BT, BT, BT, BT, BT, BT, BT, BT, BT, BT, BT, BT, BF, BF, BF, BF, BF, BF] (fun n s2 => ∃ (j : Nat) (y4 : Nat × List V), n = R.length - j /\ j <= R.length /\ tv s2.e 58 = .v (.int .i64 j) /\ s2.l = [(y1.1 + 1, [.int .i64 x.o, .int .i64 x.c, .int .i64 x.q, .int .i64 x.f, .int .i64 x.t, x.v]), (y2.1 + 1, [.int .i64 lead, .int .i64 nx]), (y3.1 + 1, [.int .i64 lead, .int .i64 nx, .int .i64 0, .int .i64 0, .int .i64 0, .int .i64 0, .int .i64 1, .bool false, .int .i64 x.o, .int .i64 x.c, .int .i64 x.q, .int .i64 x.f, .int .i64 x.t, x.v, .int .i64 (sq + 1), .sl d1 dl.length d2 d3]), y4, y5] /\ s2.h = g3)
                (fun z s2 => z = .exit 2 /\ (∃ (y4 : Nat × List V), s2.l = [(y1.1 + 1, [.int .i64 x.o, .int .i64 x.c, .int .i64 x.q, .int .i64 x.f, .int .i64 x.t, x.v]), (y2.1 + 1, [.int .i64 lead, .int .i64 nx]), (y3.1 + 1, [.int .i64 lead, .int .i64 nx, .int .i64 0, .int .i64 0, .int .i64 0, .int .i64 0, .int .i64 1, .bool false, .int .i64 x.o, .int .i64 x.c, .int .i64 x.q, .int .i64 x.f, .int .i64 x.t, x.v, .int .i64 (sq + 1), .sl d1 dl.length d2 d3]), y4, y5]) /\ s2.h = g3) (R.length - 0) ⟨0, _, rfl, Nat.zero_le _, rfl, rfl, rfl⟩ ?_ ?_
              · intro n2 ⟨e2, l3, H3⟩ hW2 ⟨j, y4, hm2, hj, h58, k3, k4⟩
                dsimp only at hW2 h58 k3 k4
                subst l3 H3
                rw [hW2.spread]
                simp only [spread_t, spread_f, spread_n, Nat.zero_add, Nat.reduceAdd, h58]
                clear hW2
                by_cases hlt2 : j < R.length
                · have hlt2' : (j : Int) < (R.length : Int) := by omega
                  have g2' : 0 <= (j : Int) /\ (j : Int) < (R.length : Int) := by omega
                  rcases hrow4.out with ⟨e1, _⟩ | ⟨rb, q, e1, _, hrc, _⟩
                  · rw [e1] at hlt2; simp at hlt2
                  · cases e1
                    obtain ⟨y, hy⟩ : ∃ y, R[j]? = some y := ⟨_, List.getElem?_eq_getElem hlt2⟩
                    have hyR := List.mem_of_getElem? hy
                    have hfj := flI_at R j y hy
                    have hfl : j * 16 + 16 <= (flI R).length := by rw [flI_len]; omega
                    generalize flI R = full2 at hrc hfj hfl
                    simp only [inV] at hfj
                    have hmd := fun H => rmeddle_at x.o x.c x.q x.f x.t y.o y.c y.q y.f y.t x.v y.dv H
                    have hh1 := has_at hrw4.out y.key
                    have hh2 := has_at (hins.out y hyR).2 (lead, nx)
                    rw [decide_eq_false (fun hk => hnew (hsee'.out.deps y hyR _ hk))] at hh2
                    obtain ⟨dp1, dp2⟩ := hdep'.out y hyR
                    rw [dp1] at hh1
                    simp only [In.key] at hh1
                    obtain ⟨q1, q2, q3, hpv⟩ : ∃ a n c z, y.pv = .sl a n c z := by
                      obtain ⟨a, c, z, e, _⟩ := (hins.out y hyR).2
                      exact ⟨a, _, c, z, e⟩
                    have hgo : Hid True := ⟨trivial⟩
                    clear hy hyR dp1
                    cases hmb2 : decide (meddleP x.o x.c x.f x.t y.o y.c y.f y.t) with
                    | false =>
                      rw [hmb2] at hmd hh1
                      clear dp2 hmb2
                      (repeat' (first | (simp -implicitDefEqProofs (maxSteps := 1000000) (disch := first | assumption | omega | (simp only [ZDI]; omega)) only [*, lenV, eq_self, flI_len, List.drop_zero, Nat.zero_add, List.length_append, List.length_cons, List.length_nil, G4, Za, Zb, Zc, Zd, Ze, Zf, Zg, Zh, Zi, Zj, Zk, Zl, Zm, Zn, Zo, Ja, Jb, Jc, J3, Jd, Je, J4, J5, Jf, Jg, Jh, Ji, Jj, Jk, J6, Jl, Jm, wr, Jn, J7, J8, Jo, Jp, Jq, Jr, Js, Jt, Ju, Jv, Jw, Jx, Jy, Jz, J0, J1, J2, reduceCtorEq, J9, JA, JB, JC, JD, JE, JF, JG]) | ((with_reducible (first | apply Ok.br | apply Ok.gd | apply Ok.ld)) <;> (intro g; (try simp only [ZGS] at g); try (exfalso; omega)))))
                      exact Turn.next (R.length - (j + 1)) (by omega) ⟨rfl, j + 1, _, rfl, by omega, rfl, rfl, rfl⟩
                    | true =>
                      have hq1 : ¬ (sq + 1 <= y.sq) := by have := dp2 (of_decide_eq_true hmb2); omega
                      rw [hmb2] at hmd hh1
                      clear dp2 hmb2
                      (repeat' (first | (simp -implicitDefEqProofs (maxSteps := 1000000) (disch := first | assumption | omega | (simp only [ZDI]; omega)) only [*, lenV, eq_self, flI_len, List.drop_zero, Nat.zero_add, List.length_append, List.length_cons, List.length_nil, G4, Za, Zb, Zc, Zd, Ze, Zf, Zg, Zh, Zi, Zj, Zk, Zl, Zm, Zn, Zo, Ja, Jb, Jc, J3, Jd, Je, J4, J5, Jf, Jg, Jh, Ji, Jj, Jk, J6, Jl, Jm, wr, Jn, J7, J8, Jo, Jp, Jq, Jr, Js, Jt, Ju, Jv, Jw, Jx, Jy, Jz, J0, J1, J2, reduceCtorEq, J9, JA, JB, JC, JD, JE, JF, JG]) | ((with_reducible (first | apply Ok.br | apply Ok.gd | apply Ok.ld)) <;> (intro g; (try simp only [ZGS] at g); try (exfalso; omega)))))
                      exact Turn.next (R.length - (j + 1)) (by omega) ⟨rfl, j + 1, _, rfl, by omega, rfl, rfl, rfl⟩
                · have hlt2' : ¬ (j : Int) < (R.length : Int) := by omega
                  (repeat' (first | (simp -implicitDefEqProofs (maxSteps := 1000000) (disch := first | assumption | omega | (simp only [ZDI]; omega)) only [*, lenV, G4, Za, Zb, Zc, Zd, Ze, Zf, Zg, Zh, Zi, Zj, Zk, Zl, Zm, Zn, Zo, Ja, Jb, Jc, J3, Jd, Je, J4, J5, Jf, Jg, Jh, Ji, Jj, Jk, J6, Jl, Jm, wr, Jn, J7, J8, Jo, Jp, Jq, Jr, Js, Jt, Ju, Jv, Jw, Jx, Jy, Jz, J0, J1, J2, reduceCtorEq, J9, JA, JB, JC, JD, JE, JF, JG]) | ((with_reducible (first | apply Ok.br | apply Ok.gd | apply Ok.ld)) <;> (intro g; (try simp only [ZGS] at g); try (exfalso; omega)))))
                  exact Turn.exit ⟨rfl, rfl, ⟨_, rfl⟩, rfl⟩
              · intro z ⟨e2, l3, H3⟩ hW2 ⟨hz, ⟨y4, k3⟩, k4⟩
                dsimp only at hW2 k3 k4
                subst l3 hz H3
                rw [hW2.spread]
                simp only [spread_t, spread_f, spread_n, Nat.zero_add, Nat.reduceAdd]
                clear hW2
                have hL : (R.length + 2) * 160 <= 35184372088832 /\ R.length + 2 <= 35184372088832 := by omega
                have hn1 : ¬ (R.length + 1 <= R.length) := by omega
                have hRi' : R.length + 1 <= i + 1 := by omega
                rcases hrow4.out with ⟨hR0, e1, hp⟩ | ⟨rb, q, e1, hr0, hrc, hall⟩
                · subst hR0
                  cases e1
                  have hfin := Hid.mk (see_app0 hp hX4.out.1)
                  clear hp
                  (repeat' (first | (simp -implicitDefEqProofs (maxSteps := 1000000) (disch := first | assumption | omega | (simp only [ZDI]; omega)) only [*, lenV, flI_len, List.drop_zero, Nat.zero_add, List.length_append, List.length_cons, List.length_nil, G4, Za, Zb, Zc, Zd, Ze, Zf, Zg, Zh, Zi, Zj, Zk, Zl, Zm, Zn, Zo, Ja, Jb, Jc, J3, Jd, Je, J4, J5, Jf, Jg, Jh, Ji, Jj, Jk, J6, Jl, Jm, wr, Jn, J7, J8, Jo, Jp, Jq, Jr, Js, Jt, Ju, Jv, Jw, Jx, Jy, Jz, J0, J1, J2, reduceCtorEq, J9, JA, JB, JC, JD, JE, JF, JG]) | ((with_reducible (first | apply Ok.br | apply Ok.gd | apply Ok.ld)) <;> (intro g; (try simp only [ZGS] at g); try (exfalso; omega)))))
                  exact Turn.next (C.length - (i + 1)) (by omega) ⟨rfl, i + 1, _, putL L x', _, _, _, _, _, _, rfl, by omega, rfl, rfl, rfl, hfin.out, hcore4.out, hsee3.out, by simp⟩
                · cases e1
                  have hfin := Hid.mk (see_app1 hr0 hrc hall (fun z => hX4.out.2 rb q _ _ _ rfl hr0 (hcells_lt hrc) z))
                  have hsn := fl_snocI R (seeI lead nx x.o x.c x.q x.f x.t x.v x.l (sq + 1) (.sl d1 dl.length d2 d3) dl)
                  have hrl := hcells_lt hrc
                  have hRi3 := Hid.mk hRi'
                  clear hall hr0 hRi'
                  obtain ⟨XX, hXX⟩ : ∃ XX, flI (R ++ [seeI lead nx x.o x.c x.q x.f x.t x.v x.l (sq + 1) (.sl d1 dl.length d2 d3) dl]) = XX := ⟨_, rfl⟩
                  rw [hXX] at hsn
                  simp only [seeI] at hsn
                  (repeat' (first | (simp -implicitDefEqProofs (maxSteps := 1000000) (disch := first | assumption | omega | (simp only [ZDI]; omega)) only [*, lenV, flI_len, List.drop_zero, Nat.zero_add, List.length_append, List.length_cons, List.length_nil, G4, Za, Zb, Zc, Zd, Ze, Zf, Zg, Zh, Zi, Zj, Zk, Zl, Zm, Zn, Zo, Ja, Jb, Jc, J3, Jd, Je, J4, J5, Jf, Jg, Jh, Ji, Jj, Jk, J6, Jl, Jm, wr, Jn, J7, J8, Jo, Jp, Jq, Jr, Js, Jt, Ju, Jv, Jw, Jx, Jy, Jz, J0, J1, J2, reduceCtorEq, J9, JA, JB, JC, JD, JE, JF, JG]) | ((with_reducible (first | apply Ok.br | apply Ok.gd | apply Ok.ld)) <;> (intro g; (try simp only [ZGS] at g); try (exfalso; omega)))))
                  exact Turn.next (C.length - (i + 1)) (by omega) ⟨rfl, i + 1, _, putL L x', _, _, _, _, _, _, rfl, by omega, rfl, rfl, rfl, by rw [<- hXX]; exact hfin.out, hcore4.out, hsee3.out, by simpa using hRi3.out⟩
            · rw [decide_eq_false hmp] at hmay
              (repeat' (first | (simp -implicitDefEqProofs (maxSteps := 1000000) (disch := first | assumption | omega | (simp only [ZDI]; omega)) only [*, lenV, G4, Za, Zb, Zc, Zd, Ze, Zf, Zg, Zh, Zi, Zj, Zk, Zl, Zm, Zn, Zo, Ja, Jb, Jc, J3, Jd, Je, J4, J5, Jf, Jg, Jh, Ji, Jj, Jk, J6, Jl, Jm, wr, Jn, J7, J8, Jo, Jp, Jq, Jr, Js, Jt, Ju, Jv, Jw, Jx, Jy, Jz, J0, J1, J2, reduceCtorEq, J9, JA, JB, JC, JD, JE, JF, JG]) | ((with_reducible (first | apply Ok.br | apply Ok.gd | apply Ok.ld)) <;> (intro g; (try simp only [ZGS] at g); try (exfalso; omega)))))
              exact Turn.next (C.length - (i + 1)) (by omega) ⟨rfl, i + 1, R, L, w, _, _, _, _, _, rfl, by omega, rfl, rfl, rfl, hrow'.out, hcore'.out, hsee'.out, by omega⟩
    · have hlt' : ¬ (i : Int) < (C.length : Int) := by omega
      clear hrow hcore hsee
      (repeat' (first | (simp -implicitDefEqProofs (maxSteps := 1000000) (disch := first | assumption | omega | (simp only [ZDI]; omega)) only [*, lenV, G4, Za, Zb, Zc, Zd, Ze, Zf, Zg, Zh, Zi, Zj, Zk, Zl, Zm, Zn, Zo, Ja, Jb, Jc, J3, Jd, Je, J4, J5, Jf, Jg, Jh, Ji, Jj, Jk, J6, Jl, Jm, wr, Jn, J7, J8, Jo, Jp, Jq, Jr, Js, Jt, Ju, Jv, Jw, Jx, Jy, Jz, J0, J1, J2, reduceCtorEq, J9, JA, JB, JC, JD, JE, JF, JG]) | ((with_reducible (first | apply Ok.br | apply Ok.gd | apply Ok.ld)) <;> (intro g; (try simp only [ZGS] at g); try (exfalso; omega)))))
      exact Turn.exit ⟨rfl, rfl, _, _, _, _, _, _, rfl, rfl⟩
  · intro y ⟨e', l', g⟩ hW ⟨hy, w, y1, y2, y3, y4, y5, h4, k2⟩
    dsimp only at hW h4 k2
    subst l' hy
    rw [hW.spread]
    clear hW
    simp only [spread_t, spread_f, spread_n, Nat.zero_add, Nat.reduceAdd, h4]
    (repeat' (first | (simp -implicitDefEqProofs (maxSteps := 1000000) (disch := first | assumption | omega | (simp only [ZDI]; omega)) only [*, G4, Za, Zb, Zc, Zd, Ze, Zf, Zg, Zh, Zi, Zj, Zk, Zl, Zm, Zn, Zo, Ja, Jb, Jc, J3, Jd, Je, J4, J5, Jf, Jg, Jh, Ji, Jj, Jk, J6, Jl, Jm, wr, Jn, J7, J8, Jo, Jp, Jq, Jr, Js, Jt, Ju, Jv, Jw, Jx, Jy, Jz, J0, J1, J2, reduceCtorEq, J9, JA, JB, JC, JD, JE, JF, JG]) | ((with_reducible (first | apply Ok.br | apply Ok.gd | apply Ok.ld)) <;> (intro g; (try simp only [ZGS] at g); try (exfalso; omega)))))
    exact hQ'.out _ rfl
end Go.Ev
