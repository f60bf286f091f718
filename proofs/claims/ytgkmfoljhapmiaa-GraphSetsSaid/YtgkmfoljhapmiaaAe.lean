/-
Texts of this claim, one behind the other.
-/
import Derived.Test.YtgkmfoljhapmiaaAd
set_option linter.unusedSimpArgs false
set_option linter.unusedVariables false
set_option linter.unusedSectionVars false
set_option maxRecDepth 100000
set_option maxRecDepth 100000
namespace Go.Ev
open Go.Ev renaming exPure -> Ja, ofValue -> Jb, cellsV -> Jc, load -> Jd, store -> Je, binOp -> Jf, intOp -> Jg, rdV -> Jh, vsame -> Ji, vsames -> Jj, makeSliceV -> Jk, resV -> Jl, isCell -> Jm, nilCheckV -> Jn, allV -> Jo, builtinV -> Jp, lenV -> Jq, indexAddrV -> Jr, unOp -> Js, minmaxV -> Jt, minmax -> Ju, sliceV -> Jv, asInt -> Jw, appendV -> Jx, forkB -> Jy, roY -> Jz, rwB -> J0, copyV -> J1, clearV -> J2, convV -> J3, sliceCells -> J4, shift -> J5
open Bool renaming true -> BT, false -> BF
open Nat renaming reduceEqDiff -> J6, reduceLT -> J7, reduceAdd -> J8, reduceBEq -> J9, reduceSub -> JA, reduceMul -> JB, reduceLeDiff -> JJ
open Int renaming reduceLT -> JC, reduceLE -> JD, reduceAdd -> JE, reduceSub -> JF, reduceNeg -> JG, reduceToNat -> JH, reduceEq -> JI
open Go.Proofs Go.Sort
variable {α : Type} [Inhabited α] {Si : SI α} {fv : V} {lt : α -> α -> Bool} {b n0 : Nat}
set_option maxHeartbeats 16000000 in
theorem pdq_R (hc : Cmp Si fv lt b n0) (hS : SWO lt) {H : Heap} {g n cap z : Nat} (hb : b < H.length) (hg : hc.good H) : ∀ (N : Nat) {G : Heap} {d : Array α} {i0 j0 lm : Nat}, At Si H b g d G -> n <= d.size -> d.size <= 1000000000 -> j0 <= i0 + N -> (i0 <= j0 /\ j0 <= n) -> lm <= 1000 -> Below lt i0 j0 d ->
  Ev.Ok (D X (.fn (Si.f 43) []) [.sl (.at b g 0) n cap z, .int .i64 i0, .int .i64 j0, .int .i64 lm, fv] G) fun y => ∃ G2 d2, y = (.tup [], G2) /\ At Si H b g d2 G2 /\ PermIn i0 j0 d d2 /\ SortedIn lt i0 j0 d2 := by
 intro N
 induction N with
 | zero => ?_
 | succ N ih => ?_
 all_goals
  intro G d i0 j0 lm hG hn hl hN hij hlm hB
  refine Ok.aim fun Q hQ => ?_
  have hQ' := Hid.mk hQ
  clear hQ
  (refine Ok.body ((Si.body 43 (by decide)).trans (congrArg _ body43)) (Si.pin 43 (by decide)) ?_; simp only [c43,Try.f43,Option.getD_some,rnC,rnP_eq,rnO_load,rnO_store,rnO_indexAddr,rnO_call,rnO_builtin,rnO_move,rnO_assign,rnO_pick,rnO_alloc,rnO_nilCheck,rnO_binOp,rnO_unOp,rnO_convert,rnO_extract,rnG_func,rnG_tmp,List.toList_toArray,List.map_cons,List.map_nil,List.map_toArray,Si.nsl 43 (by decide),nslot43,List.append_nil,List.map,List.replicate,List.length_cons,List.length_nil,Nat.reduceAdd,Nat.reduceSub,List.cons_append,List.nil_append])
  (repeat' (first | (simp -implicitDefEqProofs (maxSteps := 1000000) (disch := first | assumption | omega | exact hgA _ | (simp only [ZDI]; omega)) only [*,lenV,Si.slot 43 (by decide),Si.plan 43 (by decide),Si.tya,Si.tyb,rnT_a,rnT_b,rnT_o,Si.same 63 (by decide),Si.same 64 (by decide),Si.same 44 (by decide),G43,Za,Zb,Zc,Zd,Ze,Zf,Zg,Zh,Zi,Zj,Zk,Zl,Zm,Zn,Zo,Ja,Jb,Jc,J6,Jd,Je,rd_m,J7,J8,Jf,Jg,Jh,Ji,Jj,Jk,J9,Jl,Jm,wr_m,Jn,JA,JB,Jo,Jp,Jq,Jr,Js,Jt,Ju,Jv,Jw,Jx,Jy,Jz,J0,J1,J2,J3,J4,J5,reduceCtorEq,JC,JD,JE,JF,JG,JH,JI,JJ]) | ((with_reducible (first | apply Ok.br | apply Ok.gd | apply Ok.ld)) <;> (intro g; (try simp only [ZGS] at g); try (exfalso; omega)))))
 ·refine Ok.loop [BF, BT, BT, BT, BF, BF, BF, BF, BF, BF, BT, BT, BT, BT, BT, BT, BT, BT, BT, BT, BT, BT, BT, BT, BT, BT, BT, BT, BT, BT, BT, BT, BT, BT, BT, BT, BT, BT, BT, BT, BT, BT, BT, BT, BT, BT, BT, BT, BT, BT, BT, BT, BT, BT, BT, BT, BT, BT, BT, BT, BT, BT, BT, BT, BT, BT, BT, BT, BT, BT, BT, BT, BT, BT, BT, BT, BT, BT, BT, BT, BT, BT, BT, BT, BT, BT, BT, BT, BT, BT, BT, BT, BT, BT, BT, BT, BT, BT, BT, BT, BT, BT, BT, BT, BT, BT, BT, BT, BT, BT, BT, BT, BT, BT, BT, BT, BT, BT, BT, BT, BT, BT, BT, BT, BT, BT, BT, BT, BT, BT, BT, BT, BT, BT, BT, BT, BT, BT, BT, BT, BT, BT, BT, BT, BT, BT, BT, BT] (fun m s2 => ∃ (a c lm0 : Nat) (wb wp : Bool) (e : Array α) (G1 : Heap), m = c - a /\ lm0 <= 1000 /\ tv s2.e 1 = .v (.int .i64 a) /\ tv s2.e 2 = .v (.int .i64 c) /\ tv s2.e 3 = .v (.int .i64 lm0) /\ tv s2.e 10 = .v (.bool wb) /\ tv s2.e 11 = .v (.bool wp) /\ s2.l = [] /\ s2.h = G1 /\ At Si H b g e G1 /\ (Rnd lt n i0 j0 d a c e /\ c <= a))
   (fun x s2 => x = .ret /\ s2.l = [] /\ ∃ e, At Si H b g e s2.h /\ PermIn i0 j0 d e /\ SortedIn lt i0 j0 e) (j0 - i0) ⟨i0, j0, lm, true, true, d, G, rfl, hlm, rfl, rfl, rfl, rfl, rfl, rfl, rfl, hG, ⟨⟨hij.1, hij.2, rfl, hB, fun R h1 h2 => ⟨h1, h2⟩⟩, by omega⟩⟩ ?_ ?_
  ·intro m ⟨e', l', H'⟩ hW ⟨a, c, lm0, wb, wp, e, G1, hm, hlm0, t1, t2, t3, t10, t11, k2, k3, hG1, hR1⟩
   dsimp only at hW t1 t2 t3 t10 t11 k2 k3
   subst l' k3
   rw [hW.spread]
   simp only [spread_t,spread_f,spread_n,Nat.zero_add,Nat.reduceAdd,t1,t2,t3,t10,t11]
   clear hW hQ' hG hB hlm
   have hac : a <= c /\ c <= 1000000000 := by have := hR1.1.to; have := hR1.1.le; omega
   have h12' : (c : Int) - (a : Int) <= 12 := by have := hR1.2; omega
   (repeat' (first | (simp -implicitDefEqProofs (maxSteps := 1000000) (disch := first | assumption | omega | exact hgA _ | (simp only [ZDI]; omega)) only [*,lenV,Si.slot 43 (by decide),Si.plan 43 (by decide),Si.tya,Si.tyb,rnT_a,rnT_b,rnT_o,Si.same 63 (by decide),Si.same 64 (by decide),Si.same 44 (by decide),G43,Za,Zb,Zc,Zd,Ze,Zf,Zg,Zh,Zi,Zj,Zk,Zl,Zm,Zn,Zo,Ja,Jb,Jc,J6,Jd,Je,rd_m,J7,J8,Jf,Jg,Jh,Ji,Jj,Jk,J9,Jl,Jm,wr_m,Jn,JA,JB,Jo,Jp,Jq,Jr,Js,Jt,Ju,Jv,Jw,Jx,Jy,Jz,J0,J1,J2,J3,J4,J5,reduceCtorEq,JC,JD,JE,JF,JG,JH,JI,JJ]) | ((with_reducible (first | apply Ok.br | apply Ok.gd | apply Ok.ld)) <;> (intro g; (try simp only [ZGS] at g); try (exfalso; omega)))))
   refine Ok.bnd2 (ins_R hc hS hb hg hG1 (by rw [hR1.1.sz]; exact hn) (by rw [hR1.1.sz]; exact hl) hR1.1.le hR1.1.to) fun y h3 ⟨G2, e2, hy, hG2, hp2, hs2⟩ => ?_
   cases hy
   (repeat' (first | (simp -implicitDefEqProofs (maxSteps := 1000000) (disch := first | assumption | omega | exact hgA _ | (simp only [ZDI]; omega)) only [*,lenV,Si.slot 43 (by decide),Si.plan 43 (by decide),Si.tya,Si.tyb,rnT_a,rnT_b,rnT_o,Si.same 63 (by decide),Si.same 64 (by decide),Si.same 44 (by decide),G43,Za,Zb,Zc,Zd,Ze,Zf,Zg,Zh,Zi,Zj,Zk,Zl,Zm,Zn,Zo,Ja,Jb,Jc,J6,Jd,Je,rd_m,J7,J8,Jf,Jg,Jh,Ji,Jj,Jk,J9,Jl,Jm,wr_m,Jn,JA,JB,Jo,Jp,Jq,Jr,Js,Jt,Ju,Jv,Jw,Jx,Jy,Jz,J0,J1,J2,J3,J4,J5,reduceCtorEq,JC,JD,JE,JF,JG,JH,JI,JJ]) | ((with_reducible (first | apply Ok.br | apply Ok.gd | apply Ok.ld)) <;> (intro g; (try simp only [ZGS] at g); try (exfalso; omega)))))
   have := hR1.1.fin e2 hp2 hs2
   exact Turn.ret ⟨rfl, rfl, rfl, e2, hG2, this.1, this.2⟩
  ·intro x ⟨e', l', H'⟩ hW ⟨hx, k2, e, k3, hp, hs⟩
   dsimp only at hW k2 k3
   subst l' hx
   rw [hW.spread]
   clear hW
   simp only [spread_t,spread_f,spread_n,Nat.zero_add,Nat.reduceAdd]
   (repeat' (first | (simp -implicitDefEqProofs (maxSteps := 1000000) (disch := first | assumption | omega | exact hgA _ | (simp only [ZDI]; omega)) only [*,Si.slot 43 (by decide),Si.plan 43 (by decide),Si.tya,Si.tyb,rnT_a,rnT_b,rnT_o,Si.same 63 (by decide),Si.same 64 (by decide),Si.same 44 (by decide),G43,Za,Zb,Zc,Zd,Ze,Zf,Zg,Zh,Zi,Zj,Zk,Zl,Zm,Zn,Zo,Ja,Jb,Jc,J6,Jd,Je,rd_m,J7,J8,Jf,Jg,Jh,Ji,Jj,Jk,J9,Jl,Jm,wr_m,Jn,JA,JB,Jo,Jp,Jq,Jr,Js,Jt,Ju,Jv,Jw,Jx,Jy,Jz,J0,J1,J2,J3,J4,J5,reduceCtorEq,JC,JD,JE,JF,JG,JH,JI,JJ]) | ((with_reducible (first | apply Ok.br | apply Ok.gd | apply Ok.ld)) <;> (intro g; (try simp only [ZGS] at g); try (exfalso; omega)))))
   exact hQ'.out _ ⟨_, e, rfl, k3, hp, hs⟩
 ·refine Ok.loop [BF, BT, BT, BT, BF, BF, BF, BF, BF, BF, BT, BT, BT, BT, BT, BT, BT, BT, BT, BT, BT, BT, BT, BT, BT, BT, BT, BT, BT, BT, BT, BT, BT, BT, BT, BT, BT, BT, BT, BT, BT, BT, BT, BT, BT, BT, BT, BT, BT, BT, BT, BT, BT, BT, BT, BT, BT, BT, BT, BT, BT, BT, BT, BT, BT, BT, BT, BT, BT, BT, BT, BT, BT, BT, BT, BT, BT, BT, BT, BT, BT, BT, BT, BT, BT, BT, BT, BT, BT, BT, BT, BT, BT, BT, BT, BT, BT, BT, BT, BT, BT, BT, BT, BT, BT, BT, BT, BT, BT, BT, BT, BT, BT, BT, BT, BT, BT, BT, BT, BT, BT, BT, BT, BT, BT, BT, BT, BT, BT, BT, BT, BT, BT, BT, BT, BT, BT, BT, BT, BT, BT, BT, BT, BT, BT, BT, BT, BT] (fun m s2 => ∃ (a c lm0 : Nat) (wb wp : Bool) (e : Array α) (G1 : Heap), m = c - a /\ lm0 <= 1000 /\ tv s2.e 1 = .v (.int .i64 a) /\ tv s2.e 2 = .v (.int .i64 c) /\ tv s2.e 3 = .v (.int .i64 lm0) /\ tv s2.e 10 = .v (.bool wb) /\ tv s2.e 11 = .v (.bool wp) /\ s2.l = [] /\ s2.h = G1 /\ At Si H b g e G1 /\ (Rnd lt n i0 j0 d a c e /\ c <= a + (N + 1)))
   (fun x s2 => x = .ret /\ s2.l = [] /\ ∃ e, At Si H b g e s2.h /\ PermIn i0 j0 d e /\ SortedIn lt i0 j0 e) (j0 - i0) ⟨i0, j0, lm, true, true, d, G, rfl, hlm, rfl, rfl, rfl, rfl, rfl, rfl, rfl, hG, ⟨⟨hij.1, hij.2, rfl, hB, fun R h1 h2 => ⟨h1, h2⟩⟩, by omega⟩⟩ ?_ ?_
  ·intro m ⟨e', l', H'⟩ hW ⟨a, c, lm0, wb, wp, e, G1, hm, hlm0, t1, t2, t3, t10, t11, k2, k3, hG1, hR1⟩
   dsimp only at hW t1 t2 t3 t10 t11 k2 k3
   subst l' k3
   rw [hW.spread]
   simp only [spread_t,spread_f,spread_n,Nat.zero_add,Nat.reduceAdd,t1,t2,t3,t10,t11]
   clear hW hQ' hG hB hlm
   obtain ⟨hR1, hcN⟩ := hR1
   have hac0 : a <= c /\ c <= 1000000000 := by have := hR1.to; have := hR1.le; omega
   by_cases h12 : c - a <= 12
   ·have h12' : (c : Int) - (a : Int) <= 12 := by omega
    (repeat' (first | (simp -implicitDefEqProofs (maxSteps := 1000000) (disch := first | assumption | omega | exact hgA _ | (simp only [ZDI]; omega)) only [*,lenV,Si.slot 43 (by decide),Si.plan 43 (by decide),Si.tya,Si.tyb,rnT_a,rnT_b,rnT_o,Si.same 63 (by decide),Si.same 64 (by decide),Si.same 44 (by decide),G43,Za,Zb,Zc,Zd,Ze,Zf,Zg,Zh,Zi,Zj,Zk,Zl,Zm,Zn,Zo,Ja,Jb,Jc,J6,Jd,Je,rd_m,J7,J8,Jf,Jg,Jh,Ji,Jj,Jk,J9,Jl,Jm,wr_m,Jn,JA,JB,Jo,Jp,Jq,Jr,Js,Jt,Ju,Jv,Jw,Jx,Jy,Jz,J0,J1,J2,J3,J4,J5,reduceCtorEq,JC,JD,JE,JF,JG,JH,JI,JJ]) | ((with_reducible (first | apply Ok.br | apply Ok.gd | apply Ok.ld)) <;> (intro g; (try simp only [ZGS] at g); try (exfalso; omega)))))
    refine Ok.bnd2 (ins_R hc hS hb hg hG1 (by rw [hR1.sz]; exact hn) (by rw [hR1.sz]; exact hl) hR1.le hR1.to) fun y h3 ⟨G2, e2, hy, hG2, hp2, hs2⟩ => ?_
    cases hy
    (repeat' (first | (simp -implicitDefEqProofs (maxSteps := 1000000) (disch := first | assumption | omega | exact hgA _ | (simp only [ZDI]; omega)) only [*,lenV,Si.slot 43 (by decide),Si.plan 43 (by decide),Si.tya,Si.tyb,rnT_a,rnT_b,rnT_o,Si.same 63 (by decide),Si.same 64 (by decide),Si.same 44 (by decide),G43,Za,Zb,Zc,Zd,Ze,Zf,Zg,Zh,Zi,Zj,Zk,Zl,Zm,Zn,Zo,Ja,Jb,Jc,J6,Jd,Je,rd_m,J7,J8,Jf,Jg,Jh,Ji,Jj,Jk,J9,Jl,Jm,wr_m,Jn,JA,JB,Jo,Jp,Jq,Jr,Js,Jt,Ju,Jv,Jw,Jx,Jy,Jz,J0,J1,J2,J3,J4,J5,reduceCtorEq,JC,JD,JE,JF,JG,JH,JI,JJ]) | ((with_reducible (first | apply Ok.br | apply Ok.gd | apply Ok.ld)) <;> (intro g; (try simp only [ZGS] at g); try (exfalso; omega)))))
    have := hR1.fin e2 hp2 hs2
    exact Turn.ret ⟨rfl, rfl, rfl, e2, hG2, this.1, this.2⟩
   ·have h12' : ¬ (c : Int) - (a : Int) <= 12 := by omega
    cases lm0 with
    | zero =>
     have hz : ((0 : Nat) : Int) = 0 := rfl
     (repeat' (first | (simp -implicitDefEqProofs (maxSteps := 1000000) (disch := first | assumption | omega | exact hgA _ | (simp only [ZDI]; omega)) only [*,lenV,Si.slot 43 (by decide),Si.plan 43 (by decide),Si.tya,Si.tyb,rnT_a,rnT_b,rnT_o,Si.same 63 (by decide),Si.same 64 (by decide),Si.same 44 (by decide),G43,Za,Zb,Zc,Zd,Ze,Zf,Zg,Zh,Zi,Zj,Zk,Zl,Zm,Zn,Zo,Ja,Jb,Jc,J6,Jd,Je,rd_m,J7,J8,Jf,Jg,Jh,Ji,Jj,Jk,J9,Jl,Jm,wr_m,Jn,JA,JB,Jo,Jp,Jq,Jr,Js,Jt,Ju,Jv,Jw,Jx,Jy,Jz,J0,J1,J2,J3,J4,J5,reduceCtorEq,JC,JD,JE,JF,JG,JH,JI,JJ]) | ((with_reducible (first | apply Ok.br | apply Ok.gd | apply Ok.ld)) <;> (intro g; (try simp only [ZGS] at g); try (exfalso; omega)))))
     refine Ok.bnd2 (heap_R hc hS hb hg hG1 (by rw [hR1.sz]; exact hn) (by rw [hR1.sz]; exact hl) (by omega) hR1.to) fun y h3 ⟨G2, e2, hy, hG2, hp2, hs2⟩ => ?_
     cases hy
     (repeat' (first | (simp -implicitDefEqProofs (maxSteps := 1000000) (disch := first | assumption | omega | exact hgA _ | (simp only [ZDI]; omega)) only [*,lenV,Si.slot 43 (by decide),Si.plan 43 (by decide),Si.tya,Si.tyb,rnT_a,rnT_b,rnT_o,Si.same 63 (by decide),Si.same 64 (by decide),Si.same 44 (by decide),G43,Za,Zb,Zc,Zd,Ze,Zf,Zg,Zh,Zi,Zj,Zk,Zl,Zm,Zn,Zo,Ja,Jb,Jc,J6,Jd,Je,rd_m,J7,J8,Jf,Jg,Jh,Ji,Jj,Jk,J9,Jl,Jm,wr_m,Jn,JA,JB,Jo,Jp,Jq,Jr,Js,Jt,Ju,Jv,Jw,Jx,Jy,Jz,J0,J1,J2,J3,J4,J5,reduceCtorEq,JC,JD,JE,JF,JG,JH,JI,JJ]) | ((with_reducible (first | apply Ok.br | apply Ok.gd | apply Ok.ld)) <;> (intro g; (try simp only [ZGS] at g); try (exfalso; omega)))))
     have := hR1.fin e2 hp2 hs2
     exact Turn.ret ⟨rfl, rfl, rfl, e2, hG2, this.1, this.2⟩
    | succ lm0 =>
     have hz : ¬ ((lm0 + 1 : Nat) : Int) = 0 := by omega
     have hz2 : ((lm0 + 1 : Nat) : Int) - 1 = (lm0 : Int) := by omega
     obtain ⟨q, hq⟩ : ∃ q : Nat, ((c : Int) - (a : Int)).tdiv 8 = (q : Int) := ⟨(c - a) / 8, by rw [Int.tdiv_eq_ediv_of_nonneg (by omega)]; omega⟩
     have hac : a + 12 < c /\ c <= 1000000000 := by have := hR1.to; omega
     cases wb with
     | false =>
      (repeat' (first | (simp -implicitDefEqProofs (maxSteps := 1000000) (disch := first | assumption | omega | exact hgA _ | (simp only [ZDI]; omega)) only [*,lenV,Si.slot 43 (by decide),Si.plan 43 (by decide),Si.tya,Si.tyb,rnT_a,rnT_b,rnT_o,Si.same 63 (by decide),Si.same 64 (by decide),Si.same 44 (by decide),G43,Za,Zb,Zc,Zd,Ze,Zf,Zg,Zh,Zi,Zj,Zk,Zl,Zm,Zn,Zo,Ja,Jb,Jc,J6,Jd,Je,rd_m,J7,J8,Jf,Jg,Jh,Ji,Jj,Jk,J9,Jl,Jm,wr_m,Jn,JA,JB,Jo,Jp,Jq,Jr,Js,Jt,Ju,Jv,Jw,Jx,Jy,Jz,J0,J1,J2,J3,J4,J5,reduceCtorEq,JC,JD,JE,JF,JG,JH,JI,JJ]) | ((with_reducible (first | apply Ok.br | apply Ok.gd | apply Ok.ld)) <;> (intro g; (try simp only [ZGS] at g); try (exfalso; omega)))))
      refine Ok.bnd2 (break_R hb hG1 (by rw [hR1.sz]; exact hn) (by rw [hR1.sz]; exact hl) (by omega) hR1.to) fun y h3 ⟨G2, e2, hy, hG2, hp2⟩ => ?_
      cases hy
      have hR2 := hR1.perm hn hp2
      clear hp2 hG1 hR1
      (repeat' (first | (simp -implicitDefEqProofs (maxSteps := 1000000) (disch := first | assumption | omega | exact hgA _ | (simp only [ZDI]; omega)) only [*,lenV,Si.slot 43 (by decide),Si.plan 43 (by decide),Si.tya,Si.tyb,rnT_a,rnT_b,rnT_o,Si.same 63 (by decide),Si.same 64 (by decide),Si.same 44 (by decide),G43,Za,Zb,Zc,Zd,Ze,Zf,Zg,Zh,Zi,Zj,Zk,Zl,Zm,Zn,Zo,Ja,Jb,Jc,J6,Jd,Je,rd_m,J7,J8,Jf,Jg,Jh,Ji,Jj,Jk,J9,Jl,Jm,wr_m,Jn,JA,JB,Jo,Jp,Jq,Jr,Js,Jt,Ju,Jv,Jw,Jx,Jy,Jz,J0,J1,J2,J3,J4,J5,reduceCtorEq,JC,JD,JE,JF,JG,JH,JI,JJ]) | ((with_reducible (first | apply Ok.br | apply Ok.gd | apply Ok.ld)) <;> (intro g; (try simp only [ZGS] at g); try (exfalso; omega)))))
      obtain ⟨lm, rfl⟩ : ∃ lm, lm = lm0 := ⟨lm0, rfl⟩
      have hlm : lm <= 1000 := by omega
      refine Ok.bnd2 (pivot_R hc hb hg hG2 (by rw [hR2.sz]; exact hn) (by rw [hR2.sz]; exact hl) (by omega) hR2.to) fun y h3 ⟨G3, p, hh, hy, hG3, hp, hcase⟩ => ?_
      cases hy
      rcases hcase with rfl | rfl | rfl
      ·have hcl := hG3.cells hb
       have hgG := hG3.good hc hg
       have hto := hR2.to
       have hn4 : n <= e2.size := by rw [hR2.sz]; exact hn
       have hl4 : e2.size <= 1000000000 := by rw [hR2.sz]; exact hl
       have hx1 : 0 <= (p : Int) /\ (p : Int) < (n : Int) := by have := hR2.to; omega
       have hx2 : p < e2.size := by omega
       by_cases ha : 0 < a
       ·have ha' : 0 < (a : Int) := by omega
        have e5 : (a : Int) - 1 = ((a - 1 : Nat) : Int) := by omega
        have hx3 : 0 <= ((a - 1 : Nat) : Int) /\ ((a - 1 : Nat) : Int) < (n : Int) := by have := hR2.to; omega
        have hx4 : a - 1 < e2.size := by omega
        by_cases hcm : hc.c e2[a - 1]! e2[p]! < 0
        ·(repeat' (first | (simp -implicitDefEqProofs (maxSteps := 1000000) (disch := first | assumption | omega | exact hgA _ | (simp only [ZDI]; omega)) only [*,lenV,Si.fl_len,Si.fl_rd,eq_self,hc.run,Si.slot 43 (by decide),Si.plan 43 (by decide),Si.tya,Si.tyb,rnT_a,rnT_b,rnT_o,Si.same 63 (by decide),Si.same 64 (by decide),Si.same 44 (by decide),G43,Za,Zb,Zc,Zd,Ze,Zf,Zg,Zh,Zi,Zj,Zk,Zl,Zm,Zn,Zo,Ja,Jb,Jc,J6,Jd,Je,rd_m,J7,J8,Jf,Jg,Jh,Ji,Jj,Jk,J9,Jl,Jm,wr_m,Jn,JA,JB,Jo,Jp,Jq,Jr,Js,Jt,Ju,Jv,Jw,Jx,Jy,Jz,J0,J1,J2,J3,J4,J5,reduceCtorEq,JC,JD,JE,JF,JG,JH,JI,JJ]) | ((with_reducible (first | apply Ok.br | apply Ok.gd | apply Ok.ld)) <;> (intro g; (try simp only [ZGS] at g); try (exfalso; omega)))))
         refine Ok.bnd2 (part_R hc hS hb hg hG3 hn4 hl4 hp.1 hp.2 hR2.to hR2.bel) fun y h3 ⟨G5, e5, mid, ap, hy, hG5, hmid, hsz5, hBl, hBr, hlft, hrgt⟩ => ?_
         cases hy
         by_cases hm : mid - a < c - mid
         ·have hm' : (mid : Int) - (a : Int) < (c : Int) - (mid : Int) := by omega
          (repeat' (first | (simp -implicitDefEqProofs (maxSteps := 1000000) (disch := first | assumption | omega | exact hgA _ | (simp only [ZDI]; omega)) only [*,lenV,Si.slot 43 (by decide),Si.plan 43 (by decide),Si.tya,Si.tyb,rnT_a,rnT_b,rnT_o,Si.same 63 (by decide),Si.same 64 (by decide),Si.same 44 (by decide),G43,Za,Zb,Zc,Zd,Ze,Zf,Zg,Zh,Zi,Zj,Zk,Zl,Zm,Zn,Zo,Ja,Jb,Jc,J6,Jd,Je,rd_m,J7,J8,Jf,Jg,Jh,Ji,Jj,Jk,J9,Jl,Jm,wr_m,Jn,JA,JB,Jo,Jp,Jq,Jr,Js,Jt,Ju,Jv,Jw,Jx,Jy,Jz,J0,J1,J2,J3,J4,J5,reduceCtorEq,JC,JD,JE,JF,JG,JH,JI,JJ]) | ((with_reducible (first | apply Ok.br | apply Ok.gd | apply Ok.ld)) <;> (intro g; (try simp only [ZGS] at g); try (exfalso; omega)))))
          refine Ok.bnd2 (ih (i0 := a) (j0 := mid) hG5 (by omega) (by omega) (by omega) (by omega) hlm hBl) fun y h3 ⟨G6, e6, hy, hG6, hp6, hs6⟩ => ?_
          cases hy
          (repeat' (first | (simp -implicitDefEqProofs (maxSteps := 1000000) (disch := first | assumption | omega | exact hgA _ | (simp only [ZDI]; omega)) only [*,lenV,Si.slot 43 (by decide),Si.plan 43 (by decide),Si.tya,Si.tyb,rnT_a,rnT_b,rnT_o,Si.same 63 (by decide),Si.same 64 (by decide),Si.same 44 (by decide),G43,Za,Zb,Zc,Zd,Ze,Zf,Zg,Zh,Zi,Zj,Zk,Zl,Zm,Zn,Zo,Ja,Jb,Jc,J6,Jd,Je,rd_m,J7,J8,Jf,Jg,Jh,Ji,Jj,Jk,J9,Jl,Jm,wr_m,Jn,JA,JB,Jo,Jp,Jq,Jr,Js,Jt,Ju,Jv,Jw,Jx,Jy,Jz,J0,J1,J2,J3,J4,J5,reduceCtorEq,JC,JD,JE,JF,JG,JH,JI,JJ]) | ((with_reducible (first | apply Ok.br | apply Ok.gd | apply Ok.ld)) <;> (intro g; (try simp only [ZGS] at g); try (exfalso; omega)))))
          have hL := hlft e6 hp6 hs6
          exact Turn.next (c - (mid + 1)) (by omega) ⟨rfl, mid + 1, c, lm, _, ap, e6, _, rfl, hlm, rfl, rfl, rfl, rfl, rfl, rfl, rfl, hG6, ⟨by omega, hto, by rw [hp6.1, hsz5]; exact hR2.sz, hL.1, fun R hR hs => (hL.2 R hR hs).elim fun q1 q2 => hR2.fin R q1 q2⟩, by omega⟩
         ·have hm' : ¬ (mid : Int) - (a : Int) < (c : Int) - (mid : Int) := by omega
          (repeat' (first | (simp -implicitDefEqProofs (maxSteps := 1000000) (disch := first | assumption | omega | exact hgA _ | (simp only [ZDI]; omega)) only [*,lenV,Si.slot 43 (by decide),Si.plan 43 (by decide),Si.tya,Si.tyb,rnT_a,rnT_b,rnT_o,Si.same 63 (by decide),Si.same 64 (by decide),Si.same 44 (by decide),G43,Za,Zb,Zc,Zd,Ze,Zf,Zg,Zh,Zi,Zj,Zk,Zl,Zm,Zn,Zo,Ja,Jb,Jc,J6,Jd,Je,rd_m,J7,J8,Jf,Jg,Jh,Ji,Jj,Jk,J9,Jl,Jm,wr_m,Jn,JA,JB,Jo,Jp,Jq,Jr,Js,Jt,Ju,Jv,Jw,Jx,Jy,Jz,J0,J1,J2,J3,J4,J5,reduceCtorEq,JC,JD,JE,JF,JG,JH,JI,JJ]) | ((with_reducible (first | apply Ok.br | apply Ok.gd | apply Ok.ld)) <;> (intro g; (try simp only [ZGS] at g); try (exfalso; omega)))))
          refine Ok.bnd2 (ih (i0 := mid + 1) (j0 := c) hG5 (by omega) (by omega) (by omega) (by omega) hlm hBr) fun y h3 ⟨G6, e6, hy, hG6, hp6, hs6⟩ => ?_
          cases hy
          (repeat' (first | (simp -implicitDefEqProofs (maxSteps := 1000000) (disch := first | assumption | omega | exact hgA _ | (simp only [ZDI]; omega)) only [*,lenV,Si.slot 43 (by decide),Si.plan 43 (by decide),Si.tya,Si.tyb,rnT_a,rnT_b,rnT_o,Si.same 63 (by decide),Si.same 64 (by decide),Si.same 44 (by decide),G43,Za,Zb,Zc,Zd,Ze,Zf,Zg,Zh,Zi,Zj,Zk,Zl,Zm,Zn,Zo,Ja,Jb,Jc,J6,Jd,Je,rd_m,J7,J8,Jf,Jg,Jh,Ji,Jj,Jk,J9,Jl,Jm,wr_m,Jn,JA,JB,Jo,Jp,Jq,Jr,Js,Jt,Ju,Jv,Jw,Jx,Jy,Jz,J0,J1,J2,J3,J4,J5,reduceCtorEq,JC,JD,JE,JF,JG,JH,JI,JJ]) | ((with_reducible (first | apply Ok.br | apply Ok.gd | apply Ok.ld)) <;> (intro g; (try simp only [ZGS] at g); try (exfalso; omega)))))
          have hL := hrgt e6 hp6 hs6
          exact Turn.next (mid - a) (by omega) ⟨rfl, a, mid, lm, _, ap, e6, _, rfl, hlm, rfl, rfl, rfl, rfl, rfl, rfl, rfl, hG6, ⟨hmid.1, by omega, by rw [hp6.1, hsz5]; exact hR2.sz, hL.1, fun R hR hs => (hL.2 R hR hs).elim fun q1 q2 => hR2.fin R q1 q2⟩, by omega⟩
        ·(repeat' (first | (simp -implicitDefEqProofs (maxSteps := 1000000) (disch := first | assumption | omega | exact hgA _ | (simp only [ZDI]; omega)) only [*,lenV,Si.fl_len,Si.fl_rd,eq_self,hc.run,Si.slot 43 (by decide),Si.plan 43 (by decide),Si.tya,Si.tyb,rnT_a,rnT_b,rnT_o,Si.same 63 (by decide),Si.same 64 (by decide),Si.same 44 (by decide),G43,Za,Zb,Zc,Zd,Ze,Zf,Zg,Zh,Zi,Zj,Zk,Zl,Zm,Zn,Zo,Ja,Jb,Jc,J6,Jd,Je,rd_m,J7,J8,Jf,Jg,Jh,Ji,Jj,Jk,J9,Jl,Jm,wr_m,Jn,JA,JB,Jo,Jp,Jq,Jr,Js,Jt,Ju,Jv,Jw,Jx,Jy,Jz,J0,J1,J2,J3,J4,J5,reduceCtorEq,JC,JD,JE,JF,JG,JH,JI,JJ]) | ((with_reducible (first | apply Ok.br | apply Ok.gd | apply Ok.ld)) <;> (intro g; (try simp only [ZGS] at g); try (exfalso; omega)))))
         refine Ok.bnd2 (partEq_R hc hS hb hg hG3 hn4 hl4 hp.1 hp.2 hR2.to ha hR2.bel (by rw [hc.neg]; exact decide_eq_false hcm)) fun y h3 ⟨G5, e5, mid, hy, hG5, hmid, hsz5, hB5, hf5⟩ => ?_
         cases hy
         (repeat' (first | (simp -implicitDefEqProofs (maxSteps := 1000000) (disch := first | assumption | omega | exact hgA _ | (simp only [ZDI]; omega)) only [*,lenV,Si.slot 43 (by decide),Si.plan 43 (by decide),Si.tya,Si.tyb,rnT_a,rnT_b,rnT_o,Si.same 63 (by decide),Si.same 64 (by decide),Si.same 44 (by decide),G43,Za,Zb,Zc,Zd,Ze,Zf,Zg,Zh,Zi,Zj,Zk,Zl,Zm,Zn,Zo,Ja,Jb,Jc,J6,Jd,Je,rd_m,J7,J8,Jf,Jg,Jh,Ji,Jj,Jk,J9,Jl,Jm,wr_m,Jn,JA,JB,Jo,Jp,Jq,Jr,Js,Jt,Ju,Jv,Jw,Jx,Jy,Jz,J0,J1,J2,J3,J4,J5,reduceCtorEq,JC,JD,JE,JF,JG,JH,JI,JJ]) | ((with_reducible (first | apply Ok.br | apply Ok.gd | apply Ok.ld)) <;> (intro g; (try simp only [ZGS] at g); try (exfalso; omega)))))
         exact Turn.next (c - mid) (by omega) ⟨rfl, mid, c, lm, _, wp, e5, _, rfl, hlm, rfl, rfl, rfl, rfl, rfl, rfl, rfl, hG5, ⟨hmid.2, hto, by rw [hsz5]; exact hR2.sz, hB5, fun R hR hs => (hf5 R hR hs).elim fun q1 q2 => hR2.fin R q1 q2⟩, by omega⟩
       ·have ha' : ¬ 0 < (a : Int) := by omega
        (repeat' (first | (simp -implicitDefEqProofs (maxSteps := 1000000) (disch := first | assumption | omega | exact hgA _ | (simp only [ZDI]; omega)) only [*,lenV,Si.fl_len,Si.fl_rd,eq_self,hc.run,Si.slot 43 (by decide),Si.plan 43 (by decide),Si.tya,Si.tyb,rnT_a,rnT_b,rnT_o,Si.same 63 (by decide),Si.same 64 (by decide),Si.same 44 (by decide),G43,Za,Zb,Zc,Zd,Ze,Zf,Zg,Zh,Zi,Zj,Zk,Zl,Zm,Zn,Zo,Ja,Jb,Jc,J6,Jd,Je,rd_m,J7,J8,Jf,Jg,Jh,Ji,Jj,Jk,J9,Jl,Jm,wr_m,Jn,JA,JB,Jo,Jp,Jq,Jr,Js,Jt,Ju,Jv,Jw,Jx,Jy,Jz,J0,J1,J2,J3,J4,J5,reduceCtorEq,JC,JD,JE,JF,JG,JH,JI,JJ]) | ((with_reducible (first | apply Ok.br | apply Ok.gd | apply Ok.ld)) <;> (intro g; (try simp only [ZGS] at g); try (exfalso; omega)))))
        refine Ok.bnd2 (part_R hc hS hb hg hG3 hn4 hl4 hp.1 hp.2 hR2.to hR2.bel) fun y h3 ⟨G5, e5, mid, ap, hy, hG5, hmid, hsz5, hBl, hBr, hlft, hrgt⟩ => ?_
        cases hy
        by_cases hm : mid - a < c - mid
        ·have hm' : (mid : Int) - (a : Int) < (c : Int) - (mid : Int) := by omega
         (repeat' (first | (simp -implicitDefEqProofs (maxSteps := 1000000) (disch := first | assumption | omega | exact hgA _ | (simp only [ZDI]; omega)) only [*,lenV,Si.slot 43 (by decide),Si.plan 43 (by decide),Si.tya,Si.tyb,rnT_a,rnT_b,rnT_o,Si.same 63 (by decide),Si.same 64 (by decide),Si.same 44 (by decide),G43,Za,Zb,Zc,Zd,Ze,Zf,Zg,Zh,Zi,Zj,Zk,Zl,Zm,Zn,Zo,Ja,Jb,Jc,J6,Jd,Je,rd_m,J7,J8,Jf,Jg,Jh,Ji,Jj,Jk,J9,Jl,Jm,wr_m,Jn,JA,JB,Jo,Jp,Jq,Jr,Js,Jt,Ju,Jv,Jw,Jx,Jy,Jz,J0,J1,J2,J3,J4,J5,reduceCtorEq,JC,JD,JE,JF,JG,JH,JI,JJ]) | ((with_reducible (first | apply Ok.br | apply Ok.gd | apply Ok.ld)) <;> (intro g; (try simp only [ZGS] at g); try (exfalso; omega)))))
         refine Ok.bnd2 (ih (i0 := a) (j0 := mid) hG5 (by omega) (by omega) (by omega) (by omega) hlm hBl) fun y h3 ⟨G6, e6, hy, hG6, hp6, hs6⟩ => ?_
         cases hy
         (repeat' (first | (simp -implicitDefEqProofs (maxSteps := 1000000) (disch := first | assumption | omega | exact hgA _ | (simp only [ZDI]; omega)) only [*,lenV,Si.slot 43 (by decide),Si.plan 43 (by decide),Si.tya,Si.tyb,rnT_a,rnT_b,rnT_o,Si.same 63 (by decide),Si.same 64 (by decide),Si.same 44 (by decide),G43,Za,Zb,Zc,Zd,Ze,Zf,Zg,Zh,Zi,Zj,Zk,Zl,Zm,Zn,Zo,Ja,Jb,Jc,J6,Jd,Je,rd_m,J7,J8,Jf,Jg,Jh,Ji,Jj,Jk,J9,Jl,Jm,wr_m,Jn,JA,JB,Jo,Jp,Jq,Jr,Js,Jt,Ju,Jv,Jw,Jx,Jy,Jz,J0,J1,J2,J3,J4,J5,reduceCtorEq,JC,JD,JE,JF,JG,JH,JI,JJ]) | ((with_reducible (first | apply Ok.br | apply Ok.gd | apply Ok.ld)) <;> (intro g; (try simp only [ZGS] at g); try (exfalso; omega)))))
         have hL := hlft e6 hp6 hs6
         exact Turn.next (c - (mid + 1)) (by omega) ⟨rfl, mid + 1, c, lm, _, ap, e6, _, rfl, hlm, rfl, rfl, rfl, rfl, rfl, rfl, rfl, hG6, ⟨by omega, hto, by rw [hp6.1, hsz5]; exact hR2.sz, hL.1, fun R hR hs => (hL.2 R hR hs).elim fun q1 q2 => hR2.fin R q1 q2⟩, by omega⟩
        ·have hm' : ¬ (mid : Int) - (a : Int) < (c : Int) - (mid : Int) := by omega
         (repeat' (first | (simp -implicitDefEqProofs (maxSteps := 1000000) (disch := first | assumption | omega | exact hgA _ | (simp only [ZDI]; omega)) only [*,lenV,Si.slot 43 (by decide),Si.plan 43 (by decide),Si.tya,Si.tyb,rnT_a,rnT_b,rnT_o,Si.same 63 (by decide),Si.same 64 (by decide),Si.same 44 (by decide),G43,Za,Zb,Zc,Zd,Ze,Zf,Zg,Zh,Zi,Zj,Zk,Zl,Zm,Zn,Zo,Ja,Jb,Jc,J6,Jd,Je,rd_m,J7,J8,Jf,Jg,Jh,Ji,Jj,Jk,J9,Jl,Jm,wr_m,Jn,JA,JB,Jo,Jp,Jq,Jr,Js,Jt,Ju,Jv,Jw,Jx,Jy,Jz,J0,J1,J2,J3,J4,J5,reduceCtorEq,JC,JD,JE,JF,JG,JH,JI,JJ]) | ((with_reducible (first | apply Ok.br | apply Ok.gd | apply Ok.ld)) <;> (intro g; (try simp only [ZGS] at g); try (exfalso; omega)))))
         refine Ok.bnd2 (ih (i0 := mid + 1) (j0 := c) hG5 (by omega) (by omega) (by omega) (by omega) hlm hBr) fun y h3 ⟨G6, e6, hy, hG6, hp6, hs6⟩ => ?_
         cases hy
         (repeat' (first | (simp -implicitDefEqProofs (maxSteps := 1000000) (disch := first | assumption | omega | exact hgA _ | (simp only [ZDI]; omega)) only [*,lenV,Si.slot 43 (by decide),Si.plan 43 (by decide),Si.tya,Si.tyb,rnT_a,rnT_b,rnT_o,Si.same 63 (by decide),Si.same 64 (by decide),Si.same 44 (by decide),G43,Za,Zb,Zc,Zd,Ze,Zf,Zg,Zh,Zi,Zj,Zk,Zl,Zm,Zn,Zo,Ja,Jb,Jc,J6,Jd,Je,rd_m,J7,J8,Jf,Jg,Jh,Ji,Jj,Jk,J9,Jl,Jm,wr_m,Jn,JA,JB,Jo,Jp,Jq,Jr,Js,Jt,Ju,Jv,Jw,Jx,Jy,Jz,J0,J1,J2,J3,J4,J5,reduceCtorEq,JC,JD,JE,JF,JG,JH,JI,JJ]) | ((with_reducible (first | apply Ok.br | apply Ok.gd | apply Ok.ld)) <;> (intro g; (try simp only [ZGS] at g); try (exfalso; omega)))))
         have hL := hrgt e6 hp6 hs6
         exact Turn.next (mid - a) (by omega) ⟨rfl, a, mid, lm, _, ap, e6, _, rfl, hlm, rfl, rfl, rfl, rfl, rfl, rfl, rfl, hG6, ⟨hmid.1, by omega, by rw [hp6.1, hsz5]; exact hR2.sz, hL.1, fun R hR hs => (hL.2 R hR hs).elim fun q1 q2 => hR2.fin R q1 q2⟩, by omega⟩
      ·have hcl := hG3.cells hb
       have hgG := hG3.good hc hg
       have hto := hR2.to
       have hn4 : n <= e2.size := by rw [hR2.sz]; exact hn
       have hl4 : e2.size <= 1000000000 := by rw [hR2.sz]; exact hl
       have hx1 : 0 <= (p : Int) /\ (p : Int) < (n : Int) := by have := hR2.to; omega
       have hx2 : p < e2.size := by omega
       by_cases ha : 0 < a
       ·have ha' : 0 < (a : Int) := by omega
        have e5 : (a : Int) - 1 = ((a - 1 : Nat) : Int) := by omega
        have hx3 : 0 <= ((a - 1 : Nat) : Int) /\ ((a - 1 : Nat) : Int) < (n : Int) := by have := hR2.to; omega
        have hx4 : a - 1 < e2.size := by omega
        by_cases hcm : hc.c e2[a - 1]! e2[p]! < 0
        ·(repeat' (first | (simp -implicitDefEqProofs (maxSteps := 1000000) (disch := first | assumption | omega | exact hgA _ | (simp only [ZDI]; omega)) only [*,lenV,Si.fl_len,Si.fl_rd,eq_self,hc.run,Si.slot 43 (by decide),Si.plan 43 (by decide),Si.tya,Si.tyb,rnT_a,rnT_b,rnT_o,Si.same 63 (by decide),Si.same 64 (by decide),Si.same 44 (by decide),G43,Za,Zb,Zc,Zd,Ze,Zf,Zg,Zh,Zi,Zj,Zk,Zl,Zm,Zn,Zo,Ja,Jb,Jc,J6,Jd,Je,rd_m,J7,J8,Jf,Jg,Jh,Ji,Jj,Jk,J9,Jl,Jm,wr_m,Jn,JA,JB,Jo,Jp,Jq,Jr,Js,Jt,Ju,Jv,Jw,Jx,Jy,Jz,J0,J1,J2,J3,J4,J5,reduceCtorEq,JC,JD,JE,JF,JG,JH,JI,JJ]) | ((with_reducible (first | apply Ok.br | apply Ok.gd | apply Ok.ld)) <;> (intro g; (try simp only [ZGS] at g); try (exfalso; omega)))))
         refine Ok.bnd2 (part_R hc hS hb hg hG3 hn4 hl4 hp.1 hp.2 hR2.to hR2.bel) fun y h3 ⟨G5, e5, mid, ap, hy, hG5, hmid, hsz5, hBl, hBr, hlft, hrgt⟩ => ?_
         cases hy
         by_cases hm : mid - a < c - mid
         ·have hm' : (mid : Int) - (a : Int) < (c : Int) - (mid : Int) := by omega
          (repeat' (first | (simp -implicitDefEqProofs (maxSteps := 1000000) (disch := first | assumption | omega | exact hgA _ | (simp only [ZDI]; omega)) only [*,lenV,Si.slot 43 (by decide),Si.plan 43 (by decide),Si.tya,Si.tyb,rnT_a,rnT_b,rnT_o,Si.same 63 (by decide),Si.same 64 (by decide),Si.same 44 (by decide),G43,Za,Zb,Zc,Zd,Ze,Zf,Zg,Zh,Zi,Zj,Zk,Zl,Zm,Zn,Zo,Ja,Jb,Jc,J6,Jd,Je,rd_m,J7,J8,Jf,Jg,Jh,Ji,Jj,Jk,J9,Jl,Jm,wr_m,Jn,JA,JB,Jo,Jp,Jq,Jr,Js,Jt,Ju,Jv,Jw,Jx,Jy,Jz,J0,J1,J2,J3,J4,J5,reduceCtorEq,JC,JD,JE,JF,JG,JH,JI,JJ]) | ((with_reducible (first | apply Ok.br | apply Ok.gd | apply Ok.ld)) <;> (intro g; (try simp only [ZGS] at g); try (exfalso; omega)))))
          refine Ok.bnd2 (ih (i0 := a) (j0 := mid) hG5 (by omega) (by omega) (by omega) (by omega) hlm hBl) fun y h3 ⟨G6, e6, hy, hG6, hp6, hs6⟩ => ?_
          cases hy
          (repeat' (first | (simp -implicitDefEqProofs (maxSteps := 1000000) (disch := first | assumption | omega | exact hgA _ | (simp only [ZDI]; omega)) only [*,lenV,Si.slot 43 (by decide),Si.plan 43 (by decide),Si.tya,Si.tyb,rnT_a,rnT_b,rnT_o,Si.same 63 (by decide),Si.same 64 (by decide),Si.same 44 (by decide),G43,Za,Zb,Zc,Zd,Ze,Zf,Zg,Zh,Zi,Zj,Zk,Zl,Zm,Zn,Zo,Ja,Jb,Jc,J6,Jd,Je,rd_m,J7,J8,Jf,Jg,Jh,Ji,Jj,Jk,J9,Jl,Jm,wr_m,Jn,JA,JB,Jo,Jp,Jq,Jr,Js,Jt,Ju,Jv,Jw,Jx,Jy,Jz,J0,J1,J2,J3,J4,J5,reduceCtorEq,JC,JD,JE,JF,JG,JH,JI,JJ]) | ((with_reducible (first | apply Ok.br | apply Ok.gd | apply Ok.ld)) <;> (intro g; (try simp only [ZGS] at g); try (exfalso; omega)))))
          have hL := hlft e6 hp6 hs6
          exact Turn.next (c - (mid + 1)) (by omega) ⟨rfl, mid + 1, c, lm, _, ap, e6, _, rfl, hlm, rfl, rfl, rfl, rfl, rfl, rfl, rfl, hG6, ⟨by omega, hto, by rw [hp6.1, hsz5]; exact hR2.sz, hL.1, fun R hR hs => (hL.2 R hR hs).elim fun q1 q2 => hR2.fin R q1 q2⟩, by omega⟩
         ·have hm' : ¬ (mid : Int) - (a : Int) < (c : Int) - (mid : Int) := by omega
          (repeat' (first | (simp -implicitDefEqProofs (maxSteps := 1000000) (disch := first | assumption | omega | exact hgA _ | (simp only [ZDI]; omega)) only [*,lenV,Si.slot 43 (by decide),Si.plan 43 (by decide),Si.tya,Si.tyb,rnT_a,rnT_b,rnT_o,Si.same 63 (by decide),Si.same 64 (by decide),Si.same 44 (by decide),G43,Za,Zb,Zc,Zd,Ze,Zf,Zg,Zh,Zi,Zj,Zk,Zl,Zm,Zn,Zo,Ja,Jb,Jc,J6,Jd,Je,rd_m,J7,J8,Jf,Jg,Jh,Ji,Jj,Jk,J9,Jl,Jm,wr_m,Jn,JA,JB,Jo,Jp,Jq,Jr,Js,Jt,Ju,Jv,Jw,Jx,Jy,Jz,J0,J1,J2,J3,J4,J5,reduceCtorEq,JC,JD,JE,JF,JG,JH,JI,JJ]) | ((with_reducible (first | apply Ok.br | apply Ok.gd | apply Ok.ld)) <;> (intro g; (try simp only [ZGS] at g); try (exfalso; omega)))))
          refine Ok.bnd2 (ih (i0 := mid + 1) (j0 := c) hG5 (by omega) (by omega) (by omega) (by omega) hlm hBr) fun y h3 ⟨G6, e6, hy, hG6, hp6, hs6⟩ => ?_
          cases hy
          (repeat' (first | (simp -implicitDefEqProofs (maxSteps := 1000000) (disch := first | assumption | omega | exact hgA _ | (simp only [ZDI]; omega)) only [*,lenV,Si.slot 43 (by decide),Si.plan 43 (by decide),Si.tya,Si.tyb,rnT_a,rnT_b,rnT_o,Si.same 63 (by decide),Si.same 64 (by decide),Si.same 44 (by decide),G43,Za,Zb,Zc,Zd,Ze,Zf,Zg,Zh,Zi,Zj,Zk,Zl,Zm,Zn,Zo,Ja,Jb,Jc,J6,Jd,Je,rd_m,J7,J8,Jf,Jg,Jh,Ji,Jj,Jk,J9,Jl,Jm,wr_m,Jn,JA,JB,Jo,Jp,Jq,Jr,Js,Jt,Ju,Jv,Jw,Jx,Jy,Jz,J0,J1,J2,J3,J4,J5,reduceCtorEq,JC,JD,JE,JF,JG,JH,JI,JJ]) | ((with_reducible (first | apply Ok.br | apply Ok.gd | apply Ok.ld)) <;> (intro g; (try simp only [ZGS] at g); try (exfalso; omega)))))
          have hL := hrgt e6 hp6 hs6
          exact Turn.next (mid - a) (by omega) ⟨rfl, a, mid, lm, _, ap, e6, _, rfl, hlm, rfl, rfl, rfl, rfl, rfl, rfl, rfl, hG6, ⟨hmid.1, by omega, by rw [hp6.1, hsz5]; exact hR2.sz, hL.1, fun R hR hs => (hL.2 R hR hs).elim fun q1 q2 => hR2.fin R q1 q2⟩, by omega⟩
        ·(repeat' (first | (simp -implicitDefEqProofs (maxSteps := 1000000) (disch := first | assumption | omega | exact hgA _ | (simp only [ZDI]; omega)) only [*,lenV,Si.fl_len,Si.fl_rd,eq_self,hc.run,Si.slot 43 (by decide),Si.plan 43 (by decide),Si.tya,Si.tyb,rnT_a,rnT_b,rnT_o,Si.same 63 (by decide),Si.same 64 (by decide),Si.same 44 (by decide),G43,Za,Zb,Zc,Zd,Ze,Zf,Zg,Zh,Zi,Zj,Zk,Zl,Zm,Zn,Zo,Ja,Jb,Jc,J6,Jd,Je,rd_m,J7,J8,Jf,Jg,Jh,Ji,Jj,Jk,J9,Jl,Jm,wr_m,Jn,JA,JB,Jo,Jp,Jq,Jr,Js,Jt,Ju,Jv,Jw,Jx,Jy,Jz,J0,J1,J2,J3,J4,J5,reduceCtorEq,JC,JD,JE,JF,JG,JH,JI,JJ]) | ((with_reducible (first | apply Ok.br | apply Ok.gd | apply Ok.ld)) <;> (intro g; (try simp only [ZGS] at g); try (exfalso; omega)))))
         refine Ok.bnd2 (partEq_R hc hS hb hg hG3 hn4 hl4 hp.1 hp.2 hR2.to ha hR2.bel (by rw [hc.neg]; exact decide_eq_false hcm)) fun y h3 ⟨G5, e5, mid, hy, hG5, hmid, hsz5, hB5, hf5⟩ => ?_
         cases hy
         (repeat' (first | (simp -implicitDefEqProofs (maxSteps := 1000000) (disch := first | assumption | omega | exact hgA _ | (simp only [ZDI]; omega)) only [*,lenV,Si.slot 43 (by decide),Si.plan 43 (by decide),Si.tya,Si.tyb,rnT_a,rnT_b,rnT_o,Si.same 63 (by decide),Si.same 64 (by decide),Si.same 44 (by decide),G43,Za,Zb,Zc,Zd,Ze,Zf,Zg,Zh,Zi,Zj,Zk,Zl,Zm,Zn,Zo,Ja,Jb,Jc,J6,Jd,Je,rd_m,J7,J8,Jf,Jg,Jh,Ji,Jj,Jk,J9,Jl,Jm,wr_m,Jn,JA,JB,Jo,Jp,Jq,Jr,Js,Jt,Ju,Jv,Jw,Jx,Jy,Jz,J0,J1,J2,J3,J4,J5,reduceCtorEq,JC,JD,JE,JF,JG,JH,JI,JJ]) | ((with_reducible (first | apply Ok.br | apply Ok.gd | apply Ok.ld)) <;> (intro g; (try simp only [ZGS] at g); try (exfalso; omega)))))
         exact Turn.next (c - mid) (by omega) ⟨rfl, mid, c, lm, _, wp, e5, _, rfl, hlm, rfl, rfl, rfl, rfl, rfl, rfl, rfl, hG5, ⟨hmid.2, hto, by rw [hsz5]; exact hR2.sz, hB5, fun R hR hs => (hf5 R hR hs).elim fun q1 q2 => hR2.fin R q1 q2⟩, by omega⟩
       ·have ha' : ¬ 0 < (a : Int) := by omega
        (repeat' (first | (simp -implicitDefEqProofs (maxSteps := 1000000) (disch := first | assumption | omega | exact hgA _ | (simp only [ZDI]; omega)) only [*,lenV,Si.fl_len,Si.fl_rd,eq_self,hc.run,Si.slot 43 (by decide),Si.plan 43 (by decide),Si.tya,Si.tyb,rnT_a,rnT_b,rnT_o,Si.same 63 (by decide),Si.same 64 (by decide),Si.same 44 (by decide),G43,Za,Zb,Zc,Zd,Ze,Zf,Zg,Zh,Zi,Zj,Zk,Zl,Zm,Zn,Zo,Ja,Jb,Jc,J6,Jd,Je,rd_m,J7,J8,Jf,Jg,Jh,Ji,Jj,Jk,J9,Jl,Jm,wr_m,Jn,JA,JB,Jo,Jp,Jq,Jr,Js,Jt,Ju,Jv,Jw,Jx,Jy,Jz,J0,J1,J2,J3,J4,J5,reduceCtorEq,JC,JD,JE,JF,JG,JH,JI,JJ]) | ((with_reducible (first | apply Ok.br | apply Ok.gd | apply Ok.ld)) <;> (intro g; (try simp only [ZGS] at g); try (exfalso; omega)))))
        refine Ok.bnd2 (part_R hc hS hb hg hG3 hn4 hl4 hp.1 hp.2 hR2.to hR2.bel) fun y h3 ⟨G5, e5, mid, ap, hy, hG5, hmid, hsz5, hBl, hBr, hlft, hrgt⟩ => ?_
        cases hy
        by_cases hm : mid - a < c - mid
        ·have hm' : (mid : Int) - (a : Int) < (c : Int) - (mid : Int) := by omega
         (repeat' (first | (simp -implicitDefEqProofs (maxSteps := 1000000) (disch := first | assumption | omega | exact hgA _ | (simp only [ZDI]; omega)) only [*,lenV,Si.slot 43 (by decide),Si.plan 43 (by decide),Si.tya,Si.tyb,rnT_a,rnT_b,rnT_o,Si.same 63 (by decide),Si.same 64 (by decide),Si.same 44 (by decide),G43,Za,Zb,Zc,Zd,Ze,Zf,Zg,Zh,Zi,Zj,Zk,Zl,Zm,Zn,Zo,Ja,Jb,Jc,J6,Jd,Je,rd_m,J7,J8,Jf,Jg,Jh,Ji,Jj,Jk,J9,Jl,Jm,wr_m,Jn,JA,JB,Jo,Jp,Jq,Jr,Js,Jt,Ju,Jv,Jw,Jx,Jy,Jz,J0,J1,J2,J3,J4,J5,reduceCtorEq,JC,JD,JE,JF,JG,JH,JI,JJ]) | ((with_reducible (first | apply Ok.br | apply Ok.gd | apply Ok.ld)) <;> (intro g; (try simp only [ZGS] at g); try (exfalso; omega)))))
         refine Ok.bnd2 (ih (i0 := a) (j0 := mid) hG5 (by omega) (by omega) (by omega) (by omega) hlm hBl) fun y h3 ⟨G6, e6, hy, hG6, hp6, hs6⟩ => ?_
         cases hy
         (repeat' (first | (simp -implicitDefEqProofs (maxSteps := 1000000) (disch := first | assumption | omega | exact hgA _ | (simp only [ZDI]; omega)) only [*,lenV,Si.slot 43 (by decide),Si.plan 43 (by decide),Si.tya,Si.tyb,rnT_a,rnT_b,rnT_o,Si.same 63 (by decide),Si.same 64 (by decide),Si.same 44 (by decide),G43,Za,Zb,Zc,Zd,Ze,Zf,Zg,Zh,Zi,Zj,Zk,Zl,Zm,Zn,Zo,Ja,Jb,Jc,J6,Jd,Je,rd_m,J7,J8,Jf,Jg,Jh,Ji,Jj,Jk,J9,Jl,Jm,wr_m,Jn,JA,JB,Jo,Jp,Jq,Jr,Js,Jt,Ju,Jv,Jw,Jx,Jy,Jz,J0,J1,J2,J3,J4,J5,reduceCtorEq,JC,JD,JE,JF,JG,JH,JI,JJ]) | ((with_reducible (first | apply Ok.br | apply Ok.gd | apply Ok.ld)) <;> (intro g; (try simp only [ZGS] at g); try (exfalso; omega)))))
         have hL := hlft e6 hp6 hs6
         exact Turn.next (c - (mid + 1)) (by omega) ⟨rfl, mid + 1, c, lm, _, ap, e6, _, rfl, hlm, rfl, rfl, rfl, rfl, rfl, rfl, rfl, hG6, ⟨by omega, hto, by rw [hp6.1, hsz5]; exact hR2.sz, hL.1, fun R hR hs => (hL.2 R hR hs).elim fun q1 q2 => hR2.fin R q1 q2⟩, by omega⟩
        ·have hm' : ¬ (mid : Int) - (a : Int) < (c : Int) - (mid : Int) := by omega
         (repeat' (first | (simp -implicitDefEqProofs (maxSteps := 1000000) (disch := first | assumption | omega | exact hgA _ | (simp only [ZDI]; omega)) only [*,lenV,Si.slot 43 (by decide),Si.plan 43 (by decide),Si.tya,Si.tyb,rnT_a,rnT_b,rnT_o,Si.same 63 (by decide),Si.same 64 (by decide),Si.same 44 (by decide),G43,Za,Zb,Zc,Zd,Ze,Zf,Zg,Zh,Zi,Zj,Zk,Zl,Zm,Zn,Zo,Ja,Jb,Jc,J6,Jd,Je,rd_m,J7,J8,Jf,Jg,Jh,Ji,Jj,Jk,J9,Jl,Jm,wr_m,Jn,JA,JB,Jo,Jp,Jq,Jr,Js,Jt,Ju,Jv,Jw,Jx,Jy,Jz,J0,J1,J2,J3,J4,J5,reduceCtorEq,JC,JD,JE,JF,JG,JH,JI,JJ]) | ((with_reducible (first | apply Ok.br | apply Ok.gd | apply Ok.ld)) <;> (intro g; (try simp only [ZGS] at g); try (exfalso; omega)))))
         refine Ok.bnd2 (ih (i0 := mid + 1) (j0 := c) hG5 (by omega) (by omega) (by omega) (by omega) hlm hBr) fun y h3 ⟨G6, e6, hy, hG6, hp6, hs6⟩ => ?_
         cases hy
         (repeat' (first | (simp -implicitDefEqProofs (maxSteps := 1000000) (disch := first | assumption | omega | exact hgA _ | (simp only [ZDI]; omega)) only [*,lenV,Si.slot 43 (by decide),Si.plan 43 (by decide),Si.tya,Si.tyb,rnT_a,rnT_b,rnT_o,Si.same 63 (by decide),Si.same 64 (by decide),Si.same 44 (by decide),G43,Za,Zb,Zc,Zd,Ze,Zf,Zg,Zh,Zi,Zj,Zk,Zl,Zm,Zn,Zo,Ja,Jb,Jc,J6,Jd,Je,rd_m,J7,J8,Jf,Jg,Jh,Ji,Jj,Jk,J9,Jl,Jm,wr_m,Jn,JA,JB,Jo,Jp,Jq,Jr,Js,Jt,Ju,Jv,Jw,Jx,Jy,Jz,J0,J1,J2,J3,J4,J5,reduceCtorEq,JC,JD,JE,JF,JG,JH,JI,JJ]) | ((with_reducible (first | apply Ok.br | apply Ok.gd | apply Ok.ld)) <;> (intro g; (try simp only [ZGS] at g); try (exfalso; omega)))))
         have hL := hrgt e6 hp6 hs6
         exact Turn.next (mid - a) (by omega) ⟨rfl, a, mid, lm, _, ap, e6, _, rfl, hlm, rfl, rfl, rfl, rfl, rfl, rfl, rfl, hG6, ⟨hmid.1, by omega, by rw [hp6.1, hsz5]; exact hR2.sz, hL.1, fun R hR hs => (hL.2 R hR hs).elim fun q1 q2 => hR2.fin R q1 q2⟩, by omega⟩
      ·(repeat' (first | (simp -implicitDefEqProofs (maxSteps := 1000000) (disch := first | assumption | omega | exact hgA _ | (simp only [ZDI]; omega)) only [*,lenV,Si.slot 43 (by decide),Si.plan 43 (by decide),Si.tya,Si.tyb,rnT_a,rnT_b,rnT_o,Si.same 63 (by decide),Si.same 64 (by decide),Si.same 44 (by decide),G43,Za,Zb,Zc,Zd,Ze,Zf,Zg,Zh,Zi,Zj,Zk,Zl,Zm,Zn,Zo,Ja,Jb,Jc,J6,Jd,Je,rd_m,J7,J8,Jf,Jg,Jh,Ji,Jj,Jk,J9,Jl,Jm,wr_m,Jn,JA,JB,Jo,Jp,Jq,Jr,Js,Jt,Ju,Jv,Jw,Jx,Jy,Jz,J0,J1,J2,J3,J4,J5,reduceCtorEq,JC,JD,JE,JF,JG,JH,JI,JJ]) | ((with_reducible (first | apply Ok.br | apply Ok.gd | apply Ok.ld)) <;> (intro g; (try simp only [ZGS] at g); try (exfalso; omega)))))
       refine Ok.bnd2 (reverse_R hb hG3 (by rw [hR2.sz]; exact hn) (by rw [hR2.sz]; exact hl) (by omega) hR2.to) fun y h3 ⟨G4, e4, hy, hG4, hp4⟩ => ?_
       cases hy
       have hR4 := hR2.perm hn hp4
       obtain ⟨pv, hpv'⟩ : ∃ pv : Nat, (c : Int) - 1 - ((p : Int) - (a : Int)) = (pv : Int) := ⟨c - 1 - (p - a), by omega⟩
       have hpv : a <= pv /\ pv < c := by omega
       clear hp4 hG3 hR2
       have hcl := hG4.cells hb
       have hgG := hG4.good hc hg
       have hto := hR4.to
       have hn4 : n <= e4.size := by rw [hR4.sz]; exact hn
       have hl4 : e4.size <= 1000000000 := by rw [hR4.sz]; exact hl
       have hx1 : 0 <= (pv : Int) /\ (pv : Int) < (n : Int) := by have := hR4.to; omega
       have hx2 : pv < e4.size := by omega
       by_cases ha : 0 < a
       ·have ha' : 0 < (a : Int) := by omega
        have e5 : (a : Int) - 1 = ((a - 1 : Nat) : Int) := by omega
        have hx3 : 0 <= ((a - 1 : Nat) : Int) /\ ((a - 1 : Nat) : Int) < (n : Int) := by have := hR4.to; omega
        have hx4 : a - 1 < e4.size := by omega
        by_cases hcm : hc.c e4[a - 1]! e4[pv]! < 0
        ·(repeat' (first | (simp -implicitDefEqProofs (maxSteps := 1000000) (disch := first | assumption | omega | exact hgA _ | (simp only [ZDI]; omega)) only [*,lenV,Si.fl_len,Si.fl_rd,eq_self,hc.run,Si.slot 43 (by decide),Si.plan 43 (by decide),Si.tya,Si.tyb,rnT_a,rnT_b,rnT_o,Si.same 63 (by decide),Si.same 64 (by decide),Si.same 44 (by decide),G43,Za,Zb,Zc,Zd,Ze,Zf,Zg,Zh,Zi,Zj,Zk,Zl,Zm,Zn,Zo,Ja,Jb,Jc,J6,Jd,Je,rd_m,J7,J8,Jf,Jg,Jh,Ji,Jj,Jk,J9,Jl,Jm,wr_m,Jn,JA,JB,Jo,Jp,Jq,Jr,Js,Jt,Ju,Jv,Jw,Jx,Jy,Jz,J0,J1,J2,J3,J4,J5,reduceCtorEq,JC,JD,JE,JF,JG,JH,JI,JJ]) | ((with_reducible (first | apply Ok.br | apply Ok.gd | apply Ok.ld)) <;> (intro g; (try simp only [ZGS] at g); try (exfalso; omega)))))
         refine Ok.bnd2 (part_R hc hS hb hg hG4 hn4 hl4 hpv.1 hpv.2 hR4.to hR4.bel) fun y h3 ⟨G5, e5, mid, ap, hy, hG5, hmid, hsz5, hBl, hBr, hlft, hrgt⟩ => ?_
         cases hy
         by_cases hm : mid - a < c - mid
         ·have hm' : (mid : Int) - (a : Int) < (c : Int) - (mid : Int) := by omega
          (repeat' (first | (simp -implicitDefEqProofs (maxSteps := 1000000) (disch := first | assumption | omega | exact hgA _ | (simp only [ZDI]; omega)) only [*,lenV,Si.slot 43 (by decide),Si.plan 43 (by decide),Si.tya,Si.tyb,rnT_a,rnT_b,rnT_o,Si.same 63 (by decide),Si.same 64 (by decide),Si.same 44 (by decide),G43,Za,Zb,Zc,Zd,Ze,Zf,Zg,Zh,Zi,Zj,Zk,Zl,Zm,Zn,Zo,Ja,Jb,Jc,J6,Jd,Je,rd_m,J7,J8,Jf,Jg,Jh,Ji,Jj,Jk,J9,Jl,Jm,wr_m,Jn,JA,JB,Jo,Jp,Jq,Jr,Js,Jt,Ju,Jv,Jw,Jx,Jy,Jz,J0,J1,J2,J3,J4,J5,reduceCtorEq,JC,JD,JE,JF,JG,JH,JI,JJ]) | ((with_reducible (first | apply Ok.br | apply Ok.gd | apply Ok.ld)) <;> (intro g; (try simp only [ZGS] at g); try (exfalso; omega)))))
          refine Ok.bnd2 (ih (i0 := a) (j0 := mid) hG5 (by omega) (by omega) (by omega) (by omega) hlm hBl) fun y h3 ⟨G6, e6, hy, hG6, hp6, hs6⟩ => ?_
          cases hy
          (repeat' (first | (simp -implicitDefEqProofs (maxSteps := 1000000) (disch := first | assumption | omega | exact hgA _ | (simp only [ZDI]; omega)) only [*,lenV,Si.slot 43 (by decide),Si.plan 43 (by decide),Si.tya,Si.tyb,rnT_a,rnT_b,rnT_o,Si.same 63 (by decide),Si.same 64 (by decide),Si.same 44 (by decide),G43,Za,Zb,Zc,Zd,Ze,Zf,Zg,Zh,Zi,Zj,Zk,Zl,Zm,Zn,Zo,Ja,Jb,Jc,J6,Jd,Je,rd_m,J7,J8,Jf,Jg,Jh,Ji,Jj,Jk,J9,Jl,Jm,wr_m,Jn,JA,JB,Jo,Jp,Jq,Jr,Js,Jt,Ju,Jv,Jw,Jx,Jy,Jz,J0,J1,J2,J3,J4,J5,reduceCtorEq,JC,JD,JE,JF,JG,JH,JI,JJ]) | ((with_reducible (first | apply Ok.br | apply Ok.gd | apply Ok.ld)) <;> (intro g; (try simp only [ZGS] at g); try (exfalso; omega)))))
          have hL := hlft e6 hp6 hs6
          exact Turn.next (c - (mid + 1)) (by omega) ⟨rfl, mid + 1, c, lm, _, ap, e6, _, rfl, hlm, rfl, rfl, rfl, rfl, rfl, rfl, rfl, hG6, ⟨by omega, hto, by rw [hp6.1, hsz5]; exact hR4.sz, hL.1, fun R hR hs => (hL.2 R hR hs).elim fun q1 q2 => hR4.fin R q1 q2⟩, by omega⟩
         ·have hm' : ¬ (mid : Int) - (a : Int) < (c : Int) - (mid : Int) := by omega
          (repeat' (first | (simp -implicitDefEqProofs (maxSteps := 1000000) (disch := first | assumption | omega | exact hgA _ | (simp only [ZDI]; omega)) only [*,lenV,Si.slot 43 (by decide),Si.plan 43 (by decide),Si.tya,Si.tyb,rnT_a,rnT_b,rnT_o,Si.same 63 (by decide),Si.same 64 (by decide),Si.same 44 (by decide),G43,Za,Zb,Zc,Zd,Ze,Zf,Zg,Zh,Zi,Zj,Zk,Zl,Zm,Zn,Zo,Ja,Jb,Jc,J6,Jd,Je,rd_m,J7,J8,Jf,Jg,Jh,Ji,Jj,Jk,J9,Jl,Jm,wr_m,Jn,JA,JB,Jo,Jp,Jq,Jr,Js,Jt,Ju,Jv,Jw,Jx,Jy,Jz,J0,J1,J2,J3,J4,J5,reduceCtorEq,JC,JD,JE,JF,JG,JH,JI,JJ]) | ((with_reducible (first | apply Ok.br | apply Ok.gd | apply Ok.ld)) <;> (intro g; (try simp only [ZGS] at g); try (exfalso; omega)))))
          refine Ok.bnd2 (ih (i0 := mid + 1) (j0 := c) hG5 (by omega) (by omega) (by omega) (by omega) hlm hBr) fun y h3 ⟨G6, e6, hy, hG6, hp6, hs6⟩ => ?_
          cases hy
          (repeat' (first | (simp -implicitDefEqProofs (maxSteps := 1000000) (disch := first | assumption | omega | exact hgA _ | (simp only [ZDI]; omega)) only [*,lenV,Si.slot 43 (by decide),Si.plan 43 (by decide),Si.tya,Si.tyb,rnT_a,rnT_b,rnT_o,Si.same 63 (by decide),Si.same 64 (by decide),Si.same 44 (by decide),G43,Za,Zb,Zc,Zd,Ze,Zf,Zg,Zh,Zi,Zj,Zk,Zl,Zm,Zn,Zo,Ja,Jb,Jc,J6,Jd,Je,rd_m,J7,J8,Jf,Jg,Jh,Ji,Jj,Jk,J9,Jl,Jm,wr_m,Jn,JA,JB,Jo,Jp,Jq,Jr,Js,Jt,Ju,Jv,Jw,Jx,Jy,Jz,J0,J1,J2,J3,J4,J5,reduceCtorEq,JC,JD,JE,JF,JG,JH,JI,JJ]) | ((with_reducible (first | apply Ok.br | apply Ok.gd | apply Ok.ld)) <;> (intro g; (try simp only [ZGS] at g); try (exfalso; omega)))))
          have hL := hrgt e6 hp6 hs6
          exact Turn.next (mid - a) (by omega) ⟨rfl, a, mid, lm, _, ap, e6, _, rfl, hlm, rfl, rfl, rfl, rfl, rfl, rfl, rfl, hG6, ⟨hmid.1, by omega, by rw [hp6.1, hsz5]; exact hR4.sz, hL.1, fun R hR hs => (hL.2 R hR hs).elim fun q1 q2 => hR4.fin R q1 q2⟩, by omega⟩
        ·(repeat' (first | (simp -implicitDefEqProofs (maxSteps := 1000000) (disch := first | assumption | omega | exact hgA _ | (simp only [ZDI]; omega)) only [*,lenV,Si.fl_len,Si.fl_rd,eq_self,hc.run,Si.slot 43 (by decide),Si.plan 43 (by decide),Si.tya,Si.tyb,rnT_a,rnT_b,rnT_o,Si.same 63 (by decide),Si.same 64 (by decide),Si.same 44 (by decide),G43,Za,Zb,Zc,Zd,Ze,Zf,Zg,Zh,Zi,Zj,Zk,Zl,Zm,Zn,Zo,Ja,Jb,Jc,J6,Jd,Je,rd_m,J7,J8,Jf,Jg,Jh,Ji,Jj,Jk,J9,Jl,Jm,wr_m,Jn,JA,JB,Jo,Jp,Jq,Jr,Js,Jt,Ju,Jv,Jw,Jx,Jy,Jz,J0,J1,J2,J3,J4,J5,reduceCtorEq,JC,JD,JE,JF,JG,JH,JI,JJ]) | ((with_reducible (first | apply Ok.br | apply Ok.gd | apply Ok.ld)) <;> (intro g; (try simp only [ZGS] at g); try (exfalso; omega)))))
         refine Ok.bnd2 (partEq_R hc hS hb hg hG4 hn4 hl4 hpv.1 hpv.2 hR4.to ha hR4.bel (by rw [hc.neg]; exact decide_eq_false hcm)) fun y h3 ⟨G5, e5, mid, hy, hG5, hmid, hsz5, hB5, hf5⟩ => ?_
         cases hy
         (repeat' (first | (simp -implicitDefEqProofs (maxSteps := 1000000) (disch := first | assumption | omega | exact hgA _ | (simp only [ZDI]; omega)) only [*,lenV,Si.slot 43 (by decide),Si.plan 43 (by decide),Si.tya,Si.tyb,rnT_a,rnT_b,rnT_o,Si.same 63 (by decide),Si.same 64 (by decide),Si.same 44 (by decide),G43,Za,Zb,Zc,Zd,Ze,Zf,Zg,Zh,Zi,Zj,Zk,Zl,Zm,Zn,Zo,Ja,Jb,Jc,J6,Jd,Je,rd_m,J7,J8,Jf,Jg,Jh,Ji,Jj,Jk,J9,Jl,Jm,wr_m,Jn,JA,JB,Jo,Jp,Jq,Jr,Js,Jt,Ju,Jv,Jw,Jx,Jy,Jz,J0,J1,J2,J3,J4,J5,reduceCtorEq,JC,JD,JE,JF,JG,JH,JI,JJ]) | ((with_reducible (first | apply Ok.br | apply Ok.gd | apply Ok.ld)) <;> (intro g; (try simp only [ZGS] at g); try (exfalso; omega)))))
         exact Turn.next (c - mid) (by omega) ⟨rfl, mid, c, lm, _, wp, e5, _, rfl, hlm, rfl, rfl, rfl, rfl, rfl, rfl, rfl, hG5, ⟨hmid.2, hto, by rw [hsz5]; exact hR4.sz, hB5, fun R hR hs => (hf5 R hR hs).elim fun q1 q2 => hR4.fin R q1 q2⟩, by omega⟩
       ·have ha' : ¬ 0 < (a : Int) := by omega
        (repeat' (first | (simp -implicitDefEqProofs (maxSteps := 1000000) (disch := first | assumption | omega | exact hgA _ | (simp only [ZDI]; omega)) only [*,lenV,Si.fl_len,Si.fl_rd,eq_self,hc.run,Si.slot 43 (by decide),Si.plan 43 (by decide),Si.tya,Si.tyb,rnT_a,rnT_b,rnT_o,Si.same 63 (by decide),Si.same 64 (by decide),Si.same 44 (by decide),G43,Za,Zb,Zc,Zd,Ze,Zf,Zg,Zh,Zi,Zj,Zk,Zl,Zm,Zn,Zo,Ja,Jb,Jc,J6,Jd,Je,rd_m,J7,J8,Jf,Jg,Jh,Ji,Jj,Jk,J9,Jl,Jm,wr_m,Jn,JA,JB,Jo,Jp,Jq,Jr,Js,Jt,Ju,Jv,Jw,Jx,Jy,Jz,J0,J1,J2,J3,J4,J5,reduceCtorEq,JC,JD,JE,JF,JG,JH,JI,JJ]) | ((with_reducible (first | apply Ok.br | apply Ok.gd | apply Ok.ld)) <;> (intro g; (try simp only [ZGS] at g); try (exfalso; omega)))))
        refine Ok.bnd2 (part_R hc hS hb hg hG4 hn4 hl4 hpv.1 hpv.2 hR4.to hR4.bel) fun y h3 ⟨G5, e5, mid, ap, hy, hG5, hmid, hsz5, hBl, hBr, hlft, hrgt⟩ => ?_
        cases hy
        by_cases hm : mid - a < c - mid
        ·have hm' : (mid : Int) - (a : Int) < (c : Int) - (mid : Int) := by omega
         (repeat' (first | (simp -implicitDefEqProofs (maxSteps := 1000000) (disch := first | assumption | omega | exact hgA _ | (simp only [ZDI]; omega)) only [*,lenV,Si.slot 43 (by decide),Si.plan 43 (by decide),Si.tya,Si.tyb,rnT_a,rnT_b,rnT_o,Si.same 63 (by decide),Si.same 64 (by decide),Si.same 44 (by decide),G43,Za,Zb,Zc,Zd,Ze,Zf,Zg,Zh,Zi,Zj,Zk,Zl,Zm,Zn,Zo,Ja,Jb,Jc,J6,Jd,Je,rd_m,J7,J8,Jf,Jg,Jh,Ji,Jj,Jk,J9,Jl,Jm,wr_m,Jn,JA,JB,Jo,Jp,Jq,Jr,Js,Jt,Ju,Jv,Jw,Jx,Jy,Jz,J0,J1,J2,J3,J4,J5,reduceCtorEq,JC,JD,JE,JF,JG,JH,JI,JJ]) | ((with_reducible (first | apply Ok.br | apply Ok.gd | apply Ok.ld)) <;> (intro g; (try simp only [ZGS] at g); try (exfalso; omega)))))
         refine Ok.bnd2 (ih (i0 := a) (j0 := mid) hG5 (by omega) (by omega) (by omega) (by omega) hlm hBl) fun y h3 ⟨G6, e6, hy, hG6, hp6, hs6⟩ => ?_
         cases hy
         (repeat' (first | (simp -implicitDefEqProofs (maxSteps := 1000000) (disch := first | assumption | omega | exact hgA _ | (simp only [ZDI]; omega)) only [*,lenV,Si.slot 43 (by decide),Si.plan 43 (by decide),Si.tya,Si.tyb,rnT_a,rnT_b,rnT_o,Si.same 63 (by decide),Si.same 64 (by decide),Si.same 44 (by decide),G43,Za,Zb,Zc,Zd,Ze,Zf,Zg,Zh,Zi,Zj,Zk,Zl,Zm,Zn,Zo,Ja,Jb,Jc,J6,Jd,Je,rd_m,J7,J8,Jf,Jg,Jh,Ji,Jj,Jk,J9,Jl,Jm,wr_m,Jn,JA,JB,Jo,Jp,Jq,Jr,Js,Jt,Ju,Jv,Jw,Jx,Jy,Jz,J0,J1,J2,J3,J4,J5,reduceCtorEq,JC,JD,JE,JF,JG,JH,JI,JJ]) | ((with_reducible (first | apply Ok.br | apply Ok.gd | apply Ok.ld)) <;> (intro g; (try simp only [ZGS] at g); try (exfalso; omega)))))
         have hL := hlft e6 hp6 hs6
         exact Turn.next (c - (mid + 1)) (by omega) ⟨rfl, mid + 1, c, lm, _, ap, e6, _, rfl, hlm, rfl, rfl, rfl, rfl, rfl, rfl, rfl, hG6, ⟨by omega, hto, by rw [hp6.1, hsz5]; exact hR4.sz, hL.1, fun R hR hs => (hL.2 R hR hs).elim fun q1 q2 => hR4.fin R q1 q2⟩, by omega⟩
        ·have hm' : ¬ (mid : Int) - (a : Int) < (c : Int) - (mid : Int) := by omega
         (repeat' (first | (simp -implicitDefEqProofs (maxSteps := 1000000) (disch := first | assumption | omega | exact hgA _ | (simp only [ZDI]; omega)) only [*,lenV,Si.slot 43 (by decide),Si.plan 43 (by decide),Si.tya,Si.tyb,rnT_a,rnT_b,rnT_o,Si.same 63 (by decide),Si.same 64 (by decide),Si.same 44 (by decide),G43,Za,Zb,Zc,Zd,Ze,Zf,Zg,Zh,Zi,Zj,Zk,Zl,Zm,Zn,Zo,Ja,Jb,Jc,J6,Jd,Je,rd_m,J7,J8,Jf,Jg,Jh,Ji,Jj,Jk,J9,Jl,Jm,wr_m,Jn,JA,JB,Jo,Jp,Jq,Jr,Js,Jt,Ju,Jv,Jw,Jx,Jy,Jz,J0,J1,J2,J3,J4,J5,reduceCtorEq,JC,JD,JE,JF,JG,JH,JI,JJ]) | ((with_reducible (first | apply Ok.br | apply Ok.gd | apply Ok.ld)) <;> (intro g; (try simp only [ZGS] at g); try (exfalso; omega)))))
         refine Ok.bnd2 (ih (i0 := mid + 1) (j0 := c) hG5 (by omega) (by omega) (by omega) (by omega) hlm hBr) fun y h3 ⟨G6, e6, hy, hG6, hp6, hs6⟩ => ?_
         cases hy
         (repeat' (first | (simp -implicitDefEqProofs (maxSteps := 1000000) (disch := first | assumption | omega | exact hgA _ | (simp only [ZDI]; omega)) only [*,lenV,Si.slot 43 (by decide),Si.plan 43 (by decide),Si.tya,Si.tyb,rnT_a,rnT_b,rnT_o,Si.same 63 (by decide),Si.same 64 (by decide),Si.same 44 (by decide),G43,Za,Zb,Zc,Zd,Ze,Zf,Zg,Zh,Zi,Zj,Zk,Zl,Zm,Zn,Zo,Ja,Jb,Jc,J6,Jd,Je,rd_m,J7,J8,Jf,Jg,Jh,Ji,Jj,Jk,J9,Jl,Jm,wr_m,Jn,JA,JB,Jo,Jp,Jq,Jr,Js,Jt,Ju,Jv,Jw,Jx,Jy,Jz,J0,J1,J2,J3,J4,J5,reduceCtorEq,JC,JD,JE,JF,JG,JH,JI,JJ]) | ((with_reducible (first | apply Ok.br | apply Ok.gd | apply Ok.ld)) <;> (intro g; (try simp only [ZGS] at g); try (exfalso; omega)))))
         have hL := hrgt e6 hp6 hs6
         exact Turn.next (mid - a) (by omega) ⟨rfl, a, mid, lm, _, ap, e6, _, rfl, hlm, rfl, rfl, rfl, rfl, rfl, rfl, rfl, hG6, ⟨hmid.1, by omega, by rw [hp6.1, hsz5]; exact hR4.sz, hL.1, fun R hR hs => (hL.2 R hR hs).elim fun q1 q2 => hR4.fin R q1 q2⟩, by omega⟩
     | true =>
      cases wp with
      | false =>
       (repeat' (first | (simp -implicitDefEqProofs (maxSteps := 1000000) (disch := first | assumption | omega | exact hgA _ | (simp only [ZDI]; omega)) only [*,lenV,Si.slot 43 (by decide),Si.plan 43 (by decide),Si.tya,Si.tyb,rnT_a,rnT_b,rnT_o,Si.same 63 (by decide),Si.same 64 (by decide),Si.same 44 (by decide),G43,Za,Zb,Zc,Zd,Ze,Zf,Zg,Zh,Zi,Zj,Zk,Zl,Zm,Zn,Zo,Ja,Jb,Jc,J6,Jd,Je,rd_m,J7,J8,Jf,Jg,Jh,Ji,Jj,Jk,J9,Jl,Jm,wr_m,Jn,JA,JB,Jo,Jp,Jq,Jr,Js,Jt,Ju,Jv,Jw,Jx,Jy,Jz,J0,J1,J2,J3,J4,J5,reduceCtorEq,JC,JD,JE,JF,JG,JH,JI,JJ]) | ((with_reducible (first | apply Ok.br | apply Ok.gd | apply Ok.ld)) <;> (intro g; (try simp only [ZGS] at g); try (exfalso; omega)))))
       obtain ⟨lm, hlm'⟩ : ∃ lm, lm = lm0 + 1 := ⟨lm0 + 1, rfl⟩
       have hlm : lm <= 1000 := by omega
       rw [<- hlm'] at hz ⊢
       clear hz2 hlm'
       refine Ok.bnd2 (pivot_R hc hb hg hG1 (by rw [hR1.sz]; exact hn) (by rw [hR1.sz]; exact hl) (by omega) hR1.to) fun y h3 ⟨G3, p, hh, hy, hG3, hp, hcase⟩ => ?_
       cases hy
       rcases hcase with rfl | rfl | rfl
       ·have hcl := hG3.cells hb
        have hgG := hG3.good hc hg
        have hto := hR1.to
        have hn4 : n <= e.size := by rw [hR1.sz]; exact hn
        have hl4 : e.size <= 1000000000 := by rw [hR1.sz]; exact hl
        have hx1 : 0 <= (p : Int) /\ (p : Int) < (n : Int) := by have := hR1.to; omega
        have hx2 : p < e.size := by omega
        by_cases ha : 0 < a
        ·have ha' : 0 < (a : Int) := by omega
         have e5 : (a : Int) - 1 = ((a - 1 : Nat) : Int) := by omega
         have hx3 : 0 <= ((a - 1 : Nat) : Int) /\ ((a - 1 : Nat) : Int) < (n : Int) := by have := hR1.to; omega
         have hx4 : a - 1 < e.size := by omega
         by_cases hcm : hc.c e[a - 1]! e[p]! < 0
         ·(repeat' (first | (simp -implicitDefEqProofs (maxSteps := 1000000) (disch := first | assumption | omega | exact hgA _ | (simp only [ZDI]; omega)) only [*,lenV,Si.fl_len,Si.fl_rd,eq_self,hc.run,Si.slot 43 (by decide),Si.plan 43 (by decide),Si.tya,Si.tyb,rnT_a,rnT_b,rnT_o,Si.same 63 (by decide),Si.same 64 (by decide),Si.same 44 (by decide),G43,Za,Zb,Zc,Zd,Ze,Zf,Zg,Zh,Zi,Zj,Zk,Zl,Zm,Zn,Zo,Ja,Jb,Jc,J6,Jd,Je,rd_m,J7,J8,Jf,Jg,Jh,Ji,Jj,Jk,J9,Jl,Jm,wr_m,Jn,JA,JB,Jo,Jp,Jq,Jr,Js,Jt,Ju,Jv,Jw,Jx,Jy,Jz,J0,J1,J2,J3,J4,J5,reduceCtorEq,JC,JD,JE,JF,JG,JH,JI,JJ]) | ((with_reducible (first | apply Ok.br | apply Ok.gd | apply Ok.ld)) <;> (intro g; (try simp only [ZGS] at g); try (exfalso; omega)))))
          refine Ok.bnd2 (part_R hc hS hb hg hG3 hn4 hl4 hp.1 hp.2 hR1.to hR1.bel) fun y h3 ⟨G5, e5, mid, ap, hy, hG5, hmid, hsz5, hBl, hBr, hlft, hrgt⟩ => ?_
          cases hy
          by_cases hm : mid - a < c - mid
          ·have hm' : (mid : Int) - (a : Int) < (c : Int) - (mid : Int) := by omega
           (repeat' (first | (simp -implicitDefEqProofs (maxSteps := 1000000) (disch := first | assumption | omega | exact hgA _ | (simp only [ZDI]; omega)) only [*,lenV,Si.slot 43 (by decide),Si.plan 43 (by decide),Si.tya,Si.tyb,rnT_a,rnT_b,rnT_o,Si.same 63 (by decide),Si.same 64 (by decide),Si.same 44 (by decide),G43,Za,Zb,Zc,Zd,Ze,Zf,Zg,Zh,Zi,Zj,Zk,Zl,Zm,Zn,Zo,Ja,Jb,Jc,J6,Jd,Je,rd_m,J7,J8,Jf,Jg,Jh,Ji,Jj,Jk,J9,Jl,Jm,wr_m,Jn,JA,JB,Jo,Jp,Jq,Jr,Js,Jt,Ju,Jv,Jw,Jx,Jy,Jz,J0,J1,J2,J3,J4,J5,reduceCtorEq,JC,JD,JE,JF,JG,JH,JI,JJ]) | ((with_reducible (first | apply Ok.br | apply Ok.gd | apply Ok.ld)) <;> (intro g; (try simp only [ZGS] at g); try (exfalso; omega)))))
           refine Ok.bnd2 (ih (i0 := a) (j0 := mid) hG5 (by omega) (by omega) (by omega) (by omega) hlm hBl) fun y h3 ⟨G6, e6, hy, hG6, hp6, hs6⟩ => ?_
           cases hy
           (repeat' (first | (simp -implicitDefEqProofs (maxSteps := 1000000) (disch := first | assumption | omega | exact hgA _ | (simp only [ZDI]; omega)) only [*,lenV,Si.slot 43 (by decide),Si.plan 43 (by decide),Si.tya,Si.tyb,rnT_a,rnT_b,rnT_o,Si.same 63 (by decide),Si.same 64 (by decide),Si.same 44 (by decide),G43,Za,Zb,Zc,Zd,Ze,Zf,Zg,Zh,Zi,Zj,Zk,Zl,Zm,Zn,Zo,Ja,Jb,Jc,J6,Jd,Je,rd_m,J7,J8,Jf,Jg,Jh,Ji,Jj,Jk,J9,Jl,Jm,wr_m,Jn,JA,JB,Jo,Jp,Jq,Jr,Js,Jt,Ju,Jv,Jw,Jx,Jy,Jz,J0,J1,J2,J3,J4,J5,reduceCtorEq,JC,JD,JE,JF,JG,JH,JI,JJ]) | ((with_reducible (first | apply Ok.br | apply Ok.gd | apply Ok.ld)) <;> (intro g; (try simp only [ZGS] at g); try (exfalso; omega)))))
           have hL := hlft e6 hp6 hs6
           exact Turn.next (c - (mid + 1)) (by omega) ⟨rfl, mid + 1, c, lm, _, ap, e6, _, rfl, hlm, rfl, rfl, rfl, rfl, rfl, rfl, rfl, hG6, ⟨by omega, hto, by rw [hp6.1, hsz5]; exact hR1.sz, hL.1, fun R hR hs => (hL.2 R hR hs).elim fun q1 q2 => hR1.fin R q1 q2⟩, by omega⟩
          ·have hm' : ¬ (mid : Int) - (a : Int) < (c : Int) - (mid : Int) := by omega
           (repeat' (first | (simp -implicitDefEqProofs (maxSteps := 1000000) (disch := first | assumption | omega | exact hgA _ | (simp only [ZDI]; omega)) only [*,lenV,Si.slot 43 (by decide),Si.plan 43 (by decide),Si.tya,Si.tyb,rnT_a,rnT_b,rnT_o,Si.same 63 (by decide),Si.same 64 (by decide),Si.same 44 (by decide),G43,Za,Zb,Zc,Zd,Ze,Zf,Zg,Zh,Zi,Zj,Zk,Zl,Zm,Zn,Zo,Ja,Jb,Jc,J6,Jd,Je,rd_m,J7,J8,Jf,Jg,Jh,Ji,Jj,Jk,J9,Jl,Jm,wr_m,Jn,JA,JB,Jo,Jp,Jq,Jr,Js,Jt,Ju,Jv,Jw,Jx,Jy,Jz,J0,J1,J2,J3,J4,J5,reduceCtorEq,JC,JD,JE,JF,JG,JH,JI,JJ]) | ((with_reducible (first | apply Ok.br | apply Ok.gd | apply Ok.ld)) <;> (intro g; (try simp only [ZGS] at g); try (exfalso; omega)))))
           refine Ok.bnd2 (ih (i0 := mid + 1) (j0 := c) hG5 (by omega) (by omega) (by omega) (by omega) hlm hBr) fun y h3 ⟨G6, e6, hy, hG6, hp6, hs6⟩ => ?_
           cases hy
           (repeat' (first | (simp -implicitDefEqProofs (maxSteps := 1000000) (disch := first | assumption | omega | exact hgA _ | (simp only [ZDI]; omega)) only [*,lenV,Si.slot 43 (by decide),Si.plan 43 (by decide),Si.tya,Si.tyb,rnT_a,rnT_b,rnT_o,Si.same 63 (by decide),Si.same 64 (by decide),Si.same 44 (by decide),G43,Za,Zb,Zc,Zd,Ze,Zf,Zg,Zh,Zi,Zj,Zk,Zl,Zm,Zn,Zo,Ja,Jb,Jc,J6,Jd,Je,rd_m,J7,J8,Jf,Jg,Jh,Ji,Jj,Jk,J9,Jl,Jm,wr_m,Jn,JA,JB,Jo,Jp,Jq,Jr,Js,Jt,Ju,Jv,Jw,Jx,Jy,Jz,J0,J1,J2,J3,J4,J5,reduceCtorEq,JC,JD,JE,JF,JG,JH,JI,JJ]) | ((with_reducible (first | apply Ok.br | apply Ok.gd | apply Ok.ld)) <;> (intro g; (try simp only [ZGS] at g); try (exfalso; omega)))))
           have hL := hrgt e6 hp6 hs6
           exact Turn.next (mid - a) (by omega) ⟨rfl, a, mid, lm, _, ap, e6, _, rfl, hlm, rfl, rfl, rfl, rfl, rfl, rfl, rfl, hG6, ⟨hmid.1, by omega, by rw [hp6.1, hsz5]; exact hR1.sz, hL.1, fun R hR hs => (hL.2 R hR hs).elim fun q1 q2 => hR1.fin R q1 q2⟩, by omega⟩
         ·(repeat' (first | (simp -implicitDefEqProofs (maxSteps := 1000000) (disch := first | assumption | omega | exact hgA _ | (simp only [ZDI]; omega)) only [*,lenV,Si.fl_len,Si.fl_rd,eq_self,hc.run,Si.slot 43 (by decide),Si.plan 43 (by decide),Si.tya,Si.tyb,rnT_a,rnT_b,rnT_o,Si.same 63 (by decide),Si.same 64 (by decide),Si.same 44 (by decide),G43,Za,Zb,Zc,Zd,Ze,Zf,Zg,Zh,Zi,Zj,Zk,Zl,Zm,Zn,Zo,Ja,Jb,Jc,J6,Jd,Je,rd_m,J7,J8,Jf,Jg,Jh,Ji,Jj,Jk,J9,Jl,Jm,wr_m,Jn,JA,JB,Jo,Jp,Jq,Jr,Js,Jt,Ju,Jv,Jw,Jx,Jy,Jz,J0,J1,J2,J3,J4,J5,reduceCtorEq,JC,JD,JE,JF,JG,JH,JI,JJ]) | ((with_reducible (first | apply Ok.br | apply Ok.gd | apply Ok.ld)) <;> (intro g; (try simp only [ZGS] at g); try (exfalso; omega)))))
          refine Ok.bnd2 (partEq_R hc hS hb hg hG3 hn4 hl4 hp.1 hp.2 hR1.to ha hR1.bel (by rw [hc.neg]; exact decide_eq_false hcm)) fun y h3 ⟨G5, e5, mid, hy, hG5, hmid, hsz5, hB5, hf5⟩ => ?_
          cases hy
          (repeat' (first | (simp -implicitDefEqProofs (maxSteps := 1000000) (disch := first | assumption | omega | exact hgA _ | (simp only [ZDI]; omega)) only [*,lenV,Si.slot 43 (by decide),Si.plan 43 (by decide),Si.tya,Si.tyb,rnT_a,rnT_b,rnT_o,Si.same 63 (by decide),Si.same 64 (by decide),Si.same 44 (by decide),G43,Za,Zb,Zc,Zd,Ze,Zf,Zg,Zh,Zi,Zj,Zk,Zl,Zm,Zn,Zo,Ja,Jb,Jc,J6,Jd,Je,rd_m,J7,J8,Jf,Jg,Jh,Ji,Jj,Jk,J9,Jl,Jm,wr_m,Jn,JA,JB,Jo,Jp,Jq,Jr,Js,Jt,Ju,Jv,Jw,Jx,Jy,Jz,J0,J1,J2,J3,J4,J5,reduceCtorEq,JC,JD,JE,JF,JG,JH,JI,JJ]) | ((with_reducible (first | apply Ok.br | apply Ok.gd | apply Ok.ld)) <;> (intro g; (try simp only [ZGS] at g); try (exfalso; omega)))))
          exact Turn.next (c - mid) (by omega) ⟨rfl, mid, c, lm, _, false, e5, _, rfl, hlm, rfl, rfl, rfl, rfl, rfl, rfl, rfl, hG5, ⟨hmid.2, hto, by rw [hsz5]; exact hR1.sz, hB5, fun R hR hs => (hf5 R hR hs).elim fun q1 q2 => hR1.fin R q1 q2⟩, by omega⟩
        ·have ha' : ¬ 0 < (a : Int) := by omega
         (repeat' (first | (simp -implicitDefEqProofs (maxSteps := 1000000) (disch := first | assumption | omega | exact hgA _ | (simp only [ZDI]; omega)) only [*,lenV,Si.fl_len,Si.fl_rd,eq_self,hc.run,Si.slot 43 (by decide),Si.plan 43 (by decide),Si.tya,Si.tyb,rnT_a,rnT_b,rnT_o,Si.same 63 (by decide),Si.same 64 (by decide),Si.same 44 (by decide),G43,Za,Zb,Zc,Zd,Ze,Zf,Zg,Zh,Zi,Zj,Zk,Zl,Zm,Zn,Zo,Ja,Jb,Jc,J6,Jd,Je,rd_m,J7,J8,Jf,Jg,Jh,Ji,Jj,Jk,J9,Jl,Jm,wr_m,Jn,JA,JB,Jo,Jp,Jq,Jr,Js,Jt,Ju,Jv,Jw,Jx,Jy,Jz,J0,J1,J2,J3,J4,J5,reduceCtorEq,JC,JD,JE,JF,JG,JH,JI,JJ]) | ((with_reducible (first | apply Ok.br | apply Ok.gd | apply Ok.ld)) <;> (intro g; (try simp only [ZGS] at g); try (exfalso; omega)))))
         refine Ok.bnd2 (part_R hc hS hb hg hG3 hn4 hl4 hp.1 hp.2 hR1.to hR1.bel) fun y h3 ⟨G5, e5, mid, ap, hy, hG5, hmid, hsz5, hBl, hBr, hlft, hrgt⟩ => ?_
         cases hy
         by_cases hm : mid - a < c - mid
         ·have hm' : (mid : Int) - (a : Int) < (c : Int) - (mid : Int) := by omega
          (repeat' (first | (simp -implicitDefEqProofs (maxSteps := 1000000) (disch := first | assumption | omega | exact hgA _ | (simp only [ZDI]; omega)) only [*,lenV,Si.slot 43 (by decide),Si.plan 43 (by decide),Si.tya,Si.tyb,rnT_a,rnT_b,rnT_o,Si.same 63 (by decide),Si.same 64 (by decide),Si.same 44 (by decide),G43,Za,Zb,Zc,Zd,Ze,Zf,Zg,Zh,Zi,Zj,Zk,Zl,Zm,Zn,Zo,Ja,Jb,Jc,J6,Jd,Je,rd_m,J7,J8,Jf,Jg,Jh,Ji,Jj,Jk,J9,Jl,Jm,wr_m,Jn,JA,JB,Jo,Jp,Jq,Jr,Js,Jt,Ju,Jv,Jw,Jx,Jy,Jz,J0,J1,J2,J3,J4,J5,reduceCtorEq,JC,JD,JE,JF,JG,JH,JI,JJ]) | ((with_reducible (first | apply Ok.br | apply Ok.gd | apply Ok.ld)) <;> (intro g; (try simp only [ZGS] at g); try (exfalso; omega)))))
          refine Ok.bnd2 (ih (i0 := a) (j0 := mid) hG5 (by omega) (by omega) (by omega) (by omega) hlm hBl) fun y h3 ⟨G6, e6, hy, hG6, hp6, hs6⟩ => ?_
          cases hy
          (repeat' (first | (simp -implicitDefEqProofs (maxSteps := 1000000) (disch := first | assumption | omega | exact hgA _ | (simp only [ZDI]; omega)) only [*,lenV,Si.slot 43 (by decide),Si.plan 43 (by decide),Si.tya,Si.tyb,rnT_a,rnT_b,rnT_o,Si.same 63 (by decide),Si.same 64 (by decide),Si.same 44 (by decide),G43,Za,Zb,Zc,Zd,Ze,Zf,Zg,Zh,Zi,Zj,Zk,Zl,Zm,Zn,Zo,Ja,Jb,Jc,J6,Jd,Je,rd_m,J7,J8,Jf,Jg,Jh,Ji,Jj,Jk,J9,Jl,Jm,wr_m,Jn,JA,JB,Jo,Jp,Jq,Jr,Js,Jt,Ju,Jv,Jw,Jx,Jy,Jz,J0,J1,J2,J3,J4,J5,reduceCtorEq,JC,JD,JE,JF,JG,JH,JI,JJ]) | ((with_reducible (first | apply Ok.br | apply Ok.gd | apply Ok.ld)) <;> (intro g; (try simp only [ZGS] at g); try (exfalso; omega)))))
          have hL := hlft e6 hp6 hs6
          exact Turn.next (c - (mid + 1)) (by omega) ⟨rfl, mid + 1, c, lm, _, ap, e6, _, rfl, hlm, rfl, rfl, rfl, rfl, rfl, rfl, rfl, hG6, ⟨by omega, hto, by rw [hp6.1, hsz5]; exact hR1.sz, hL.1, fun R hR hs => (hL.2 R hR hs).elim fun q1 q2 => hR1.fin R q1 q2⟩, by omega⟩
         ·have hm' : ¬ (mid : Int) - (a : Int) < (c : Int) - (mid : Int) := by omega
          (repeat' (first | (simp -implicitDefEqProofs (maxSteps := 1000000) (disch := first | assumption | omega | exact hgA _ | (simp only [ZDI]; omega)) only [*,lenV,Si.slot 43 (by decide),Si.plan 43 (by decide),Si.tya,Si.tyb,rnT_a,rnT_b,rnT_o,Si.same 63 (by decide),Si.same 64 (by decide),Si.same 44 (by decide),G43,Za,Zb,Zc,Zd,Ze,Zf,Zg,Zh,Zi,Zj,Zk,Zl,Zm,Zn,Zo,Ja,Jb,Jc,J6,Jd,Je,rd_m,J7,J8,Jf,Jg,Jh,Ji,Jj,Jk,J9,Jl,Jm,wr_m,Jn,JA,JB,Jo,Jp,Jq,Jr,Js,Jt,Ju,Jv,Jw,Jx,Jy,Jz,J0,J1,J2,J3,J4,J5,reduceCtorEq,JC,JD,JE,JF,JG,JH,JI,JJ]) | ((with_reducible (first | apply Ok.br | apply Ok.gd | apply Ok.ld)) <;> (intro g; (try simp only [ZGS] at g); try (exfalso; omega)))))
          refine Ok.bnd2 (ih (i0 := mid + 1) (j0 := c) hG5 (by omega) (by omega) (by omega) (by omega) hlm hBr) fun y h3 ⟨G6, e6, hy, hG6, hp6, hs6⟩ => ?_
          cases hy
          (repeat' (first | (simp -implicitDefEqProofs (maxSteps := 1000000) (disch := first | assumption | omega | exact hgA _ | (simp only [ZDI]; omega)) only [*,lenV,Si.slot 43 (by decide),Si.plan 43 (by decide),Si.tya,Si.tyb,rnT_a,rnT_b,rnT_o,Si.same 63 (by decide),Si.same 64 (by decide),Si.same 44 (by decide),G43,Za,Zb,Zc,Zd,Ze,Zf,Zg,Zh,Zi,Zj,Zk,Zl,Zm,Zn,Zo,Ja,Jb,Jc,J6,Jd,Je,rd_m,J7,J8,Jf,Jg,Jh,Ji,Jj,Jk,J9,Jl,Jm,wr_m,Jn,JA,JB,Jo,Jp,Jq,Jr,Js,Jt,Ju,Jv,Jw,Jx,Jy,Jz,J0,J1,J2,J3,J4,J5,reduceCtorEq,JC,JD,JE,JF,JG,JH,JI,JJ]) | ((with_reducible (first | apply Ok.br | apply Ok.gd | apply Ok.ld)) <;> (intro g; (try simp only [ZGS] at g); try (exfalso; omega)))))
          have hL := hrgt e6 hp6 hs6
          exact Turn.next (mid - a) (by omega) ⟨rfl, a, mid, lm, _, ap, e6, _, rfl, hlm, rfl, rfl, rfl, rfl, rfl, rfl, rfl, hG6, ⟨hmid.1, by omega, by rw [hp6.1, hsz5]; exact hR1.sz, hL.1, fun R hR hs => (hL.2 R hR hs).elim fun q1 q2 => hR1.fin R q1 q2⟩, by omega⟩
       ·have hcl := hG3.cells hb
        have hgG := hG3.good hc hg
        have hto := hR1.to
        have hn4 : n <= e.size := by rw [hR1.sz]; exact hn
        have hl4 : e.size <= 1000000000 := by rw [hR1.sz]; exact hl
        have hx1 : 0 <= (p : Int) /\ (p : Int) < (n : Int) := by have := hR1.to; omega
        have hx2 : p < e.size := by omega
        by_cases ha : 0 < a
        ·have ha' : 0 < (a : Int) := by omega
         have e5 : (a : Int) - 1 = ((a - 1 : Nat) : Int) := by omega
         have hx3 : 0 <= ((a - 1 : Nat) : Int) /\ ((a - 1 : Nat) : Int) < (n : Int) := by have := hR1.to; omega
         have hx4 : a - 1 < e.size := by omega
         by_cases hcm : hc.c e[a - 1]! e[p]! < 0
         ·(repeat' (first | (simp -implicitDefEqProofs (maxSteps := 1000000) (disch := first | assumption | omega | exact hgA _ | (simp only [ZDI]; omega)) only [*,lenV,Si.fl_len,Si.fl_rd,eq_self,hc.run,Si.slot 43 (by decide),Si.plan 43 (by decide),Si.tya,Si.tyb,rnT_a,rnT_b,rnT_o,Si.same 63 (by decide),Si.same 64 (by decide),Si.same 44 (by decide),G43,Za,Zb,Zc,Zd,Ze,Zf,Zg,Zh,Zi,Zj,Zk,Zl,Zm,Zn,Zo,Ja,Jb,Jc,J6,Jd,Je,rd_m,J7,J8,Jf,Jg,Jh,Ji,Jj,Jk,J9,Jl,Jm,wr_m,Jn,JA,JB,Jo,Jp,Jq,Jr,Js,Jt,Ju,Jv,Jw,Jx,Jy,Jz,J0,J1,J2,J3,J4,J5,reduceCtorEq,JC,JD,JE,JF,JG,JH,JI,JJ]) | ((with_reducible (first | apply Ok.br | apply Ok.gd | apply Ok.ld)) <;> (intro g; (try simp only [ZGS] at g); try (exfalso; omega)))))
          refine Ok.bnd2 (part_R hc hS hb hg hG3 hn4 hl4 hp.1 hp.2 hR1.to hR1.bel) fun y h3 ⟨G5, e5, mid, ap, hy, hG5, hmid, hsz5, hBl, hBr, hlft, hrgt⟩ => ?_
          cases hy
          by_cases hm : mid - a < c - mid
          ·have hm' : (mid : Int) - (a : Int) < (c : Int) - (mid : Int) := by omega
           (repeat' (first | (simp -implicitDefEqProofs (maxSteps := 1000000) (disch := first | assumption | omega | exact hgA _ | (simp only [ZDI]; omega)) only [*,lenV,Si.slot 43 (by decide),Si.plan 43 (by decide),Si.tya,Si.tyb,rnT_a,rnT_b,rnT_o,Si.same 63 (by decide),Si.same 64 (by decide),Si.same 44 (by decide),G43,Za,Zb,Zc,Zd,Ze,Zf,Zg,Zh,Zi,Zj,Zk,Zl,Zm,Zn,Zo,Ja,Jb,Jc,J6,Jd,Je,rd_m,J7,J8,Jf,Jg,Jh,Ji,Jj,Jk,J9,Jl,Jm,wr_m,Jn,JA,JB,Jo,Jp,Jq,Jr,Js,Jt,Ju,Jv,Jw,Jx,Jy,Jz,J0,J1,J2,J3,J4,J5,reduceCtorEq,JC,JD,JE,JF,JG,JH,JI,JJ]) | ((with_reducible (first | apply Ok.br | apply Ok.gd | apply Ok.ld)) <;> (intro g; (try simp only [ZGS] at g); try (exfalso; omega)))))
           refine Ok.bnd2 (ih (i0 := a) (j0 := mid) hG5 (by omega) (by omega) (by omega) (by omega) hlm hBl) fun y h3 ⟨G6, e6, hy, hG6, hp6, hs6⟩ => ?_
           cases hy
           (repeat' (first | (simp -implicitDefEqProofs (maxSteps := 1000000) (disch := first | assumption | omega | exact hgA _ | (simp only [ZDI]; omega)) only [*,lenV,Si.slot 43 (by decide),Si.plan 43 (by decide),Si.tya,Si.tyb,rnT_a,rnT_b,rnT_o,Si.same 63 (by decide),Si.same 64 (by decide),Si.same 44 (by decide),G43,Za,Zb,Zc,Zd,Ze,Zf,Zg,Zh,Zi,Zj,Zk,Zl,Zm,Zn,Zo,Ja,Jb,Jc,J6,Jd,Je,rd_m,J7,J8,Jf,Jg,Jh,Ji,Jj,Jk,J9,Jl,Jm,wr_m,Jn,JA,JB,Jo,Jp,Jq,Jr,Js,Jt,Ju,Jv,Jw,Jx,Jy,Jz,J0,J1,J2,J3,J4,J5,reduceCtorEq,JC,JD,JE,JF,JG,JH,JI,JJ]) | ((with_reducible (first | apply Ok.br | apply Ok.gd | apply Ok.ld)) <;> (intro g; (try simp only [ZGS] at g); try (exfalso; omega)))))
           have hL := hlft e6 hp6 hs6
           exact Turn.next (c - (mid + 1)) (by omega) ⟨rfl, mid + 1, c, lm, _, ap, e6, _, rfl, hlm, rfl, rfl, rfl, rfl, rfl, rfl, rfl, hG6, ⟨by omega, hto, by rw [hp6.1, hsz5]; exact hR1.sz, hL.1, fun R hR hs => (hL.2 R hR hs).elim fun q1 q2 => hR1.fin R q1 q2⟩, by omega⟩
          ·have hm' : ¬ (mid : Int) - (a : Int) < (c : Int) - (mid : Int) := by omega
           (repeat' (first | (simp -implicitDefEqProofs (maxSteps := 1000000) (disch := first | assumption | omega | exact hgA _ | (simp only [ZDI]; omega)) only [*,lenV,Si.slot 43 (by decide),Si.plan 43 (by decide),Si.tya,Si.tyb,rnT_a,rnT_b,rnT_o,Si.same 63 (by decide),Si.same 64 (by decide),Si.same 44 (by decide),G43,Za,Zb,Zc,Zd,Ze,Zf,Zg,Zh,Zi,Zj,Zk,Zl,Zm,Zn,Zo,Ja,Jb,Jc,J6,Jd,Je,rd_m,J7,J8,Jf,Jg,Jh,Ji,Jj,Jk,J9,Jl,Jm,wr_m,Jn,JA,JB,Jo,Jp,Jq,Jr,Js,Jt,Ju,Jv,Jw,Jx,Jy,Jz,J0,J1,J2,J3,J4,J5,reduceCtorEq,JC,JD,JE,JF,JG,JH,JI,JJ]) | ((with_reducible (first | apply Ok.br | apply Ok.gd | apply Ok.ld)) <;> (intro g; (try simp only [ZGS] at g); try (exfalso; omega)))))
           refine Ok.bnd2 (ih (i0 := mid + 1) (j0 := c) hG5 (by omega) (by omega) (by omega) (by omega) hlm hBr) fun y h3 ⟨G6, e6, hy, hG6, hp6, hs6⟩ => ?_
           cases hy
           (repeat' (first | (simp -implicitDefEqProofs (maxSteps := 1000000) (disch := first | assumption | omega | exact hgA _ | (simp only [ZDI]; omega)) only [*,lenV,Si.slot 43 (by decide),Si.plan 43 (by decide),Si.tya,Si.tyb,rnT_a,rnT_b,rnT_o,Si.same 63 (by decide),Si.same 64 (by decide),Si.same 44 (by decide),G43,Za,Zb,Zc,Zd,Ze,Zf,Zg,Zh,Zi,Zj,Zk,Zl,Zm,Zn,Zo,Ja,Jb,Jc,J6,Jd,Je,rd_m,J7,J8,Jf,Jg,Jh,Ji,Jj,Jk,J9,Jl,Jm,wr_m,Jn,JA,JB,Jo,Jp,Jq,Jr,Js,Jt,Ju,Jv,Jw,Jx,Jy,Jz,J0,J1,J2,J3,J4,J5,reduceCtorEq,JC,JD,JE,JF,JG,JH,JI,JJ]) | ((with_reducible (first | apply Ok.br | apply Ok.gd | apply Ok.ld)) <;> (intro g; (try simp only [ZGS] at g); try (exfalso; omega)))))
           have hL := hrgt e6 hp6 hs6
           exact Turn.next (mid - a) (by omega) ⟨rfl, a, mid, lm, _, ap, e6, _, rfl, hlm, rfl, rfl, rfl, rfl, rfl, rfl, rfl, hG6, ⟨hmid.1, by omega, by rw [hp6.1, hsz5]; exact hR1.sz, hL.1, fun R hR hs => (hL.2 R hR hs).elim fun q1 q2 => hR1.fin R q1 q2⟩, by omega⟩
         ·(repeat' (first | (simp -implicitDefEqProofs (maxSteps := 1000000) (disch := first | assumption | omega | exact hgA _ | (simp only [ZDI]; omega)) only [*,lenV,Si.fl_len,Si.fl_rd,eq_self,hc.run,Si.slot 43 (by decide),Si.plan 43 (by decide),Si.tya,Si.tyb,rnT_a,rnT_b,rnT_o,Si.same 63 (by decide),Si.same 64 (by decide),Si.same 44 (by decide),G43,Za,Zb,Zc,Zd,Ze,Zf,Zg,Zh,Zi,Zj,Zk,Zl,Zm,Zn,Zo,Ja,Jb,Jc,J6,Jd,Je,rd_m,J7,J8,Jf,Jg,Jh,Ji,Jj,Jk,J9,Jl,Jm,wr_m,Jn,JA,JB,Jo,Jp,Jq,Jr,Js,Jt,Ju,Jv,Jw,Jx,Jy,Jz,J0,J1,J2,J3,J4,J5,reduceCtorEq,JC,JD,JE,JF,JG,JH,JI,JJ]) | ((with_reducible (first | apply Ok.br | apply Ok.gd | apply Ok.ld)) <;> (intro g; (try simp only [ZGS] at g); try (exfalso; omega)))))
          refine Ok.bnd2 (partEq_R hc hS hb hg hG3 hn4 hl4 hp.1 hp.2 hR1.to ha hR1.bel (by rw [hc.neg]; exact decide_eq_false hcm)) fun y h3 ⟨G5, e5, mid, hy, hG5, hmid, hsz5, hB5, hf5⟩ => ?_
          cases hy
          (repeat' (first | (simp -implicitDefEqProofs (maxSteps := 1000000) (disch := first | assumption | omega | exact hgA _ | (simp only [ZDI]; omega)) only [*,lenV,Si.slot 43 (by decide),Si.plan 43 (by decide),Si.tya,Si.tyb,rnT_a,rnT_b,rnT_o,Si.same 63 (by decide),Si.same 64 (by decide),Si.same 44 (by decide),G43,Za,Zb,Zc,Zd,Ze,Zf,Zg,Zh,Zi,Zj,Zk,Zl,Zm,Zn,Zo,Ja,Jb,Jc,J6,Jd,Je,rd_m,J7,J8,Jf,Jg,Jh,Ji,Jj,Jk,J9,Jl,Jm,wr_m,Jn,JA,JB,Jo,Jp,Jq,Jr,Js,Jt,Ju,Jv,Jw,Jx,Jy,Jz,J0,J1,J2,J3,J4,J5,reduceCtorEq,JC,JD,JE,JF,JG,JH,JI,JJ]) | ((with_reducible (first | apply Ok.br | apply Ok.gd | apply Ok.ld)) <;> (intro g; (try simp only [ZGS] at g); try (exfalso; omega)))))
          exact Turn.next (c - mid) (by omega) ⟨rfl, mid, c, lm, _, false, e5, _, rfl, hlm, rfl, rfl, rfl, rfl, rfl, rfl, rfl, hG5, ⟨hmid.2, hto, by rw [hsz5]; exact hR1.sz, hB5, fun R hR hs => (hf5 R hR hs).elim fun q1 q2 => hR1.fin R q1 q2⟩, by omega⟩
        ·have ha' : ¬ 0 < (a : Int) := by omega
         (repeat' (first | (simp -implicitDefEqProofs (maxSteps := 1000000) (disch := first | assumption | omega | exact hgA _ | (simp only [ZDI]; omega)) only [*,lenV,Si.fl_len,Si.fl_rd,eq_self,hc.run,Si.slot 43 (by decide),Si.plan 43 (by decide),Si.tya,Si.tyb,rnT_a,rnT_b,rnT_o,Si.same 63 (by decide),Si.same 64 (by decide),Si.same 44 (by decide),G43,Za,Zb,Zc,Zd,Ze,Zf,Zg,Zh,Zi,Zj,Zk,Zl,Zm,Zn,Zo,Ja,Jb,Jc,J6,Jd,Je,rd_m,J7,J8,Jf,Jg,Jh,Ji,Jj,Jk,J9,Jl,Jm,wr_m,Jn,JA,JB,Jo,Jp,Jq,Jr,Js,Jt,Ju,Jv,Jw,Jx,Jy,Jz,J0,J1,J2,J3,J4,J5,reduceCtorEq,JC,JD,JE,JF,JG,JH,JI,JJ]) | ((with_reducible (first | apply Ok.br | apply Ok.gd | apply Ok.ld)) <;> (intro g; (try simp only [ZGS] at g); try (exfalso; omega)))))
         refine Ok.bnd2 (part_R hc hS hb hg hG3 hn4 hl4 hp.1 hp.2 hR1.to hR1.bel) fun y h3 ⟨G5, e5, mid, ap, hy, hG5, hmid, hsz5, hBl, hBr, hlft, hrgt⟩ => ?_
         cases hy
         by_cases hm : mid - a < c - mid
         ·have hm' : (mid : Int) - (a : Int) < (c : Int) - (mid : Int) := by omega
          (repeat' (first | (simp -implicitDefEqProofs (maxSteps := 1000000) (disch := first | assumption | omega | exact hgA _ | (simp only [ZDI]; omega)) only [*,lenV,Si.slot 43 (by decide),Si.plan 43 (by decide),Si.tya,Si.tyb,rnT_a,rnT_b,rnT_o,Si.same 63 (by decide),Si.same 64 (by decide),Si.same 44 (by decide),G43,Za,Zb,Zc,Zd,Ze,Zf,Zg,Zh,Zi,Zj,Zk,Zl,Zm,Zn,Zo,Ja,Jb,Jc,J6,Jd,Je,rd_m,J7,J8,Jf,Jg,Jh,Ji,Jj,Jk,J9,Jl,Jm,wr_m,Jn,JA,JB,Jo,Jp,Jq,Jr,Js,Jt,Ju,Jv,Jw,Jx,Jy,Jz,J0,J1,J2,J3,J4,J5,reduceCtorEq,JC,JD,JE,JF,JG,JH,JI,JJ]) | ((with_reducible (first | apply Ok.br | apply Ok.gd | apply Ok.ld)) <;> (intro g; (try simp only [ZGS] at g); try (exfalso; omega)))))
          refine Ok.bnd2 (ih (i0 := a) (j0 := mid) hG5 (by omega) (by omega) (by omega) (by omega) hlm hBl) fun y h3 ⟨G6, e6, hy, hG6, hp6, hs6⟩ => ?_
          cases hy
          (repeat' (first | (simp -implicitDefEqProofs (maxSteps := 1000000) (disch := first | assumption | omega | exact hgA _ | (simp only [ZDI]; omega)) only [*,lenV,Si.slot 43 (by decide),Si.plan 43 (by decide),Si.tya,Si.tyb,rnT_a,rnT_b,rnT_o,Si.same 63 (by decide),Si.same 64 (by decide),Si.same 44 (by decide),G43,Za,Zb,Zc,Zd,Ze,Zf,Zg,Zh,Zi,Zj,Zk,Zl,Zm,Zn,Zo,Ja,Jb,Jc,J6,Jd,Je,rd_m,J7,J8,Jf,Jg,Jh,Ji,Jj,Jk,J9,Jl,Jm,wr_m,Jn,JA,JB,Jo,Jp,Jq,Jr,Js,Jt,Ju,Jv,Jw,Jx,Jy,Jz,J0,J1,J2,J3,J4,J5,reduceCtorEq,JC,JD,JE,JF,JG,JH,JI,JJ]) | ((with_reducible (first | apply Ok.br | apply Ok.gd | apply Ok.ld)) <;> (intro g; (try simp only [ZGS] at g); try (exfalso; omega)))))
          have hL := hlft e6 hp6 hs6
          exact Turn.next (c - (mid + 1)) (by omega) ⟨rfl, mid + 1, c, lm, _, ap, e6, _, rfl, hlm, rfl, rfl, rfl, rfl, rfl, rfl, rfl, hG6, ⟨by omega, hto, by rw [hp6.1, hsz5]; exact hR1.sz, hL.1, fun R hR hs => (hL.2 R hR hs).elim fun q1 q2 => hR1.fin R q1 q2⟩, by omega⟩
         ·have hm' : ¬ (mid : Int) - (a : Int) < (c : Int) - (mid : Int) := by omega
          (repeat' (first | (simp -implicitDefEqProofs (maxSteps := 1000000) (disch := first | assumption | omega | exact hgA _ | (simp only [ZDI]; omega)) only [*,lenV,Si.slot 43 (by decide),Si.plan 43 (by decide),Si.tya,Si.tyb,rnT_a,rnT_b,rnT_o,Si.same 63 (by decide),Si.same 64 (by decide),Si.same 44 (by decide),G43,Za,Zb,Zc,Zd,Ze,Zf,Zg,Zh,Zi,Zj,Zk,Zl,Zm,Zn,Zo,Ja,Jb,Jc,J6,Jd,Je,rd_m,J7,J8,Jf,Jg,Jh,Ji,Jj,Jk,J9,Jl,Jm,wr_m,Jn,JA,JB,Jo,Jp,Jq,Jr,Js,Jt,Ju,Jv,Jw,Jx,Jy,Jz,J0,J1,J2,J3,J4,J5,reduceCtorEq,JC,JD,JE,JF,JG,JH,JI,JJ]) | ((with_reducible (first | apply Ok.br | apply Ok.gd | apply Ok.ld)) <;> (intro g; (try simp only [ZGS] at g); try (exfalso; omega)))))
          refine Ok.bnd2 (ih (i0 := mid + 1) (j0 := c) hG5 (by omega) (by omega) (by omega) (by omega) hlm hBr) fun y h3 ⟨G6, e6, hy, hG6, hp6, hs6⟩ => ?_
          cases hy
          (repeat' (first | (simp -implicitDefEqProofs (maxSteps := 1000000) (disch := first | assumption | omega | exact hgA _ | (simp only [ZDI]; omega)) only [*,lenV,Si.slot 43 (by decide),Si.plan 43 (by decide),Si.tya,Si.tyb,rnT_a,rnT_b,rnT_o,Si.same 63 (by decide),Si.same 64 (by decide),Si.same 44 (by decide),G43,Za,Zb,Zc,Zd,Ze,Zf,Zg,Zh,Zi,Zj,Zk,Zl,Zm,Zn,Zo,Ja,Jb,Jc,J6,Jd,Je,rd_m,J7,J8,Jf,Jg,Jh,Ji,Jj,Jk,J9,Jl,Jm,wr_m,Jn,JA,JB,Jo,Jp,Jq,Jr,Js,Jt,Ju,Jv,Jw,Jx,Jy,Jz,J0,J1,J2,J3,J4,J5,reduceCtorEq,JC,JD,JE,JF,JG,JH,JI,JJ]) | ((with_reducible (first | apply Ok.br | apply Ok.gd | apply Ok.ld)) <;> (intro g; (try simp only [ZGS] at g); try (exfalso; omega)))))
          have hL := hrgt e6 hp6 hs6
          exact Turn.next (mid - a) (by omega) ⟨rfl, a, mid, lm, _, ap, e6, _, rfl, hlm, rfl, rfl, rfl, rfl, rfl, rfl, rfl, hG6, ⟨hmid.1, by omega, by rw [hp6.1, hsz5]; exact hR1.sz, hL.1, fun R hR hs => (hL.2 R hR hs).elim fun q1 q2 => hR1.fin R q1 q2⟩, by omega⟩
       ·(repeat' (first | (simp -implicitDefEqProofs (maxSteps := 1000000) (disch := first | assumption | omega | exact hgA _ | (simp only [ZDI]; omega)) only [*,lenV,Si.slot 43 (by decide),Si.plan 43 (by decide),Si.tya,Si.tyb,rnT_a,rnT_b,rnT_o,Si.same 63 (by decide),Si.same 64 (by decide),Si.same 44 (by decide),G43,Za,Zb,Zc,Zd,Ze,Zf,Zg,Zh,Zi,Zj,Zk,Zl,Zm,Zn,Zo,Ja,Jb,Jc,J6,Jd,Je,rd_m,J7,J8,Jf,Jg,Jh,Ji,Jj,Jk,J9,Jl,Jm,wr_m,Jn,JA,JB,Jo,Jp,Jq,Jr,Js,Jt,Ju,Jv,Jw,Jx,Jy,Jz,J0,J1,J2,J3,J4,J5,reduceCtorEq,JC,JD,JE,JF,JG,JH,JI,JJ]) | ((with_reducible (first | apply Ok.br | apply Ok.gd | apply Ok.ld)) <;> (intro g; (try simp only [ZGS] at g); try (exfalso; omega)))))
        refine Ok.bnd2 (reverse_R hb hG3 (by rw [hR1.sz]; exact hn) (by rw [hR1.sz]; exact hl) (by omega) hR1.to) fun y h3 ⟨G4, e4, hy, hG4, hp4⟩ => ?_
        cases hy
        have hR4 := hR1.perm hn hp4
        obtain ⟨pv, hpv'⟩ : ∃ pv : Nat, (c : Int) - 1 - ((p : Int) - (a : Int)) = (pv : Int) := ⟨c - 1 - (p - a), by omega⟩
        have hpv : a <= pv /\ pv < c := by omega
        clear hp4 hG3 hR1
        have hcl := hG4.cells hb
        have hgG := hG4.good hc hg
        have hto := hR4.to
        have hn4 : n <= e4.size := by rw [hR4.sz]; exact hn
        have hl4 : e4.size <= 1000000000 := by rw [hR4.sz]; exact hl
        have hx1 : 0 <= (pv : Int) /\ (pv : Int) < (n : Int) := by have := hR4.to; omega
        have hx2 : pv < e4.size := by omega
        by_cases ha : 0 < a
        ·have ha' : 0 < (a : Int) := by omega
         have e5 : (a : Int) - 1 = ((a - 1 : Nat) : Int) := by omega
         have hx3 : 0 <= ((a - 1 : Nat) : Int) /\ ((a - 1 : Nat) : Int) < (n : Int) := by have := hR4.to; omega
         have hx4 : a - 1 < e4.size := by omega
         by_cases hcm : hc.c e4[a - 1]! e4[pv]! < 0
         ·(repeat' (first | (simp -implicitDefEqProofs (maxSteps := 1000000) (disch := first | assumption | omega | exact hgA _ | (simp only [ZDI]; omega)) only [*,lenV,Si.fl_len,Si.fl_rd,eq_self,hc.run,Si.slot 43 (by decide),Si.plan 43 (by decide),Si.tya,Si.tyb,rnT_a,rnT_b,rnT_o,Si.same 63 (by decide),Si.same 64 (by decide),Si.same 44 (by decide),G43,Za,Zb,Zc,Zd,Ze,Zf,Zg,Zh,Zi,Zj,Zk,Zl,Zm,Zn,Zo,Ja,Jb,Jc,J6,Jd,Je,rd_m,J7,J8,Jf,Jg,Jh,Ji,Jj,Jk,J9,Jl,Jm,wr_m,Jn,JA,JB,Jo,Jp,Jq,Jr,Js,Jt,Ju,Jv,Jw,Jx,Jy,Jz,J0,J1,J2,J3,J4,J5,reduceCtorEq,JC,JD,JE,JF,JG,JH,JI,JJ]) | ((with_reducible (first | apply Ok.br | apply Ok.gd | apply Ok.ld)) <;> (intro g; (try simp only [ZGS] at g); try (exfalso; omega)))))
          refine Ok.bnd2 (part_R hc hS hb hg hG4 hn4 hl4 hpv.1 hpv.2 hR4.to hR4.bel) fun y h3 ⟨G5, e5, mid, ap, hy, hG5, hmid, hsz5, hBl, hBr, hlft, hrgt⟩ => ?_
          cases hy
          by_cases hm : mid - a < c - mid
          ·have hm' : (mid : Int) - (a : Int) < (c : Int) - (mid : Int) := by omega
           (repeat' (first | (simp -implicitDefEqProofs (maxSteps := 1000000) (disch := first | assumption | omega | exact hgA _ | (simp only [ZDI]; omega)) only [*,lenV,Si.slot 43 (by decide),Si.plan 43 (by decide),Si.tya,Si.tyb,rnT_a,rnT_b,rnT_o,Si.same 63 (by decide),Si.same 64 (by decide),Si.same 44 (by decide),G43,Za,Zb,Zc,Zd,Ze,Zf,Zg,Zh,Zi,Zj,Zk,Zl,Zm,Zn,Zo,Ja,Jb,Jc,J6,Jd,Je,rd_m,J7,J8,Jf,Jg,Jh,Ji,Jj,Jk,J9,Jl,Jm,wr_m,Jn,JA,JB,Jo,Jp,Jq,Jr,Js,Jt,Ju,Jv,Jw,Jx,Jy,Jz,J0,J1,J2,J3,J4,J5,reduceCtorEq,JC,JD,JE,JF,JG,JH,JI,JJ]) | ((with_reducible (first | apply Ok.br | apply Ok.gd | apply Ok.ld)) <;> (intro g; (try simp only [ZGS] at g); try (exfalso; omega)))))
           refine Ok.bnd2 (ih (i0 := a) (j0 := mid) hG5 (by omega) (by omega) (by omega) (by omega) hlm hBl) fun y h3 ⟨G6, e6, hy, hG6, hp6, hs6⟩ => ?_
           cases hy
           (repeat' (first | (simp -implicitDefEqProofs (maxSteps := 1000000) (disch := first | assumption | omega | exact hgA _ | (simp only [ZDI]; omega)) only [*,lenV,Si.slot 43 (by decide),Si.plan 43 (by decide),Si.tya,Si.tyb,rnT_a,rnT_b,rnT_o,Si.same 63 (by decide),Si.same 64 (by decide),Si.same 44 (by decide),G43,Za,Zb,Zc,Zd,Ze,Zf,Zg,Zh,Zi,Zj,Zk,Zl,Zm,Zn,Zo,Ja,Jb,Jc,J6,Jd,Je,rd_m,J7,J8,Jf,Jg,Jh,Ji,Jj,Jk,J9,Jl,Jm,wr_m,Jn,JA,JB,Jo,Jp,Jq,Jr,Js,Jt,Ju,Jv,Jw,Jx,Jy,Jz,J0,J1,J2,J3,J4,J5,reduceCtorEq,JC,JD,JE,JF,JG,JH,JI,JJ]) | ((with_reducible (first | apply Ok.br | apply Ok.gd | apply Ok.ld)) <;> (intro g; (try simp only [ZGS] at g); try (exfalso; omega)))))
           have hL := hlft e6 hp6 hs6
           exact Turn.next (c - (mid + 1)) (by omega) ⟨rfl, mid + 1, c, lm, _, ap, e6, _, rfl, hlm, rfl, rfl, rfl, rfl, rfl, rfl, rfl, hG6, ⟨by omega, hto, by rw [hp6.1, hsz5]; exact hR4.sz, hL.1, fun R hR hs => (hL.2 R hR hs).elim fun q1 q2 => hR4.fin R q1 q2⟩, by omega⟩
          ·have hm' : ¬ (mid : Int) - (a : Int) < (c : Int) - (mid : Int) := by omega
           (repeat' (first | (simp -implicitDefEqProofs (maxSteps := 1000000) (disch := first | assumption | omega | exact hgA _ | (simp only [ZDI]; omega)) only [*,lenV,Si.slot 43 (by decide),Si.plan 43 (by decide),Si.tya,Si.tyb,rnT_a,rnT_b,rnT_o,Si.same 63 (by decide),Si.same 64 (by decide),Si.same 44 (by decide),G43,Za,Zb,Zc,Zd,Ze,Zf,Zg,Zh,Zi,Zj,Zk,Zl,Zm,Zn,Zo,Ja,Jb,Jc,J6,Jd,Je,rd_m,J7,J8,Jf,Jg,Jh,Ji,Jj,Jk,J9,Jl,Jm,wr_m,Jn,JA,JB,Jo,Jp,Jq,Jr,Js,Jt,Ju,Jv,Jw,Jx,Jy,Jz,J0,J1,J2,J3,J4,J5,reduceCtorEq,JC,JD,JE,JF,JG,JH,JI,JJ]) | ((with_reducible (first | apply Ok.br | apply Ok.gd | apply Ok.ld)) <;> (intro g; (try simp only [ZGS] at g); try (exfalso; omega)))))
           refine Ok.bnd2 (ih (i0 := mid + 1) (j0 := c) hG5 (by omega) (by omega) (by omega) (by omega) hlm hBr) fun y h3 ⟨G6, e6, hy, hG6, hp6, hs6⟩ => ?_
           cases hy
           (repeat' (first | (simp -implicitDefEqProofs (maxSteps := 1000000) (disch := first | assumption | omega | exact hgA _ | (simp only [ZDI]; omega)) only [*,lenV,Si.slot 43 (by decide),Si.plan 43 (by decide),Si.tya,Si.tyb,rnT_a,rnT_b,rnT_o,Si.same 63 (by decide),Si.same 64 (by decide),Si.same 44 (by decide),G43,Za,Zb,Zc,Zd,Ze,Zf,Zg,Zh,Zi,Zj,Zk,Zl,Zm,Zn,Zo,Ja,Jb,Jc,J6,Jd,Je,rd_m,J7,J8,Jf,Jg,Jh,Ji,Jj,Jk,J9,Jl,Jm,wr_m,Jn,JA,JB,Jo,Jp,Jq,Jr,Js,Jt,Ju,Jv,Jw,Jx,Jy,Jz,J0,J1,J2,J3,J4,J5,reduceCtorEq,JC,JD,JE,JF,JG,JH,JI,JJ]) | ((with_reducible (first | apply Ok.br | apply Ok.gd | apply Ok.ld)) <;> (intro g; (try simp only [ZGS] at g); try (exfalso; omega)))))
           have hL := hrgt e6 hp6 hs6
           exact Turn.next (mid - a) (by omega) ⟨rfl, a, mid, lm, _, ap, e6, _, rfl, hlm, rfl, rfl, rfl, rfl, rfl, rfl, rfl, hG6, ⟨hmid.1, by omega, by rw [hp6.1, hsz5]; exact hR4.sz, hL.1, fun R hR hs => (hL.2 R hR hs).elim fun q1 q2 => hR4.fin R q1 q2⟩, by omega⟩
         ·(repeat' (first | (simp -implicitDefEqProofs (maxSteps := 1000000) (disch := first | assumption | omega | exact hgA _ | (simp only [ZDI]; omega)) only [*,lenV,Si.fl_len,Si.fl_rd,eq_self,hc.run,Si.slot 43 (by decide),Si.plan 43 (by decide),Si.tya,Si.tyb,rnT_a,rnT_b,rnT_o,Si.same 63 (by decide),Si.same 64 (by decide),Si.same 44 (by decide),G43,Za,Zb,Zc,Zd,Ze,Zf,Zg,Zh,Zi,Zj,Zk,Zl,Zm,Zn,Zo,Ja,Jb,Jc,J6,Jd,Je,rd_m,J7,J8,Jf,Jg,Jh,Ji,Jj,Jk,J9,Jl,Jm,wr_m,Jn,JA,JB,Jo,Jp,Jq,Jr,Js,Jt,Ju,Jv,Jw,Jx,Jy,Jz,J0,J1,J2,J3,J4,J5,reduceCtorEq,JC,JD,JE,JF,JG,JH,JI,JJ]) | ((with_reducible (first | apply Ok.br | apply Ok.gd | apply Ok.ld)) <;> (intro g; (try simp only [ZGS] at g); try (exfalso; omega)))))
          refine Ok.bnd2 (partEq_R hc hS hb hg hG4 hn4 hl4 hpv.1 hpv.2 hR4.to ha hR4.bel (by rw [hc.neg]; exact decide_eq_false hcm)) fun y h3 ⟨G5, e5, mid, hy, hG5, hmid, hsz5, hB5, hf5⟩ => ?_
          cases hy
          (repeat' (first | (simp -implicitDefEqProofs (maxSteps := 1000000) (disch := first | assumption | omega | exact hgA _ | (simp only [ZDI]; omega)) only [*,lenV,Si.slot 43 (by decide),Si.plan 43 (by decide),Si.tya,Si.tyb,rnT_a,rnT_b,rnT_o,Si.same 63 (by decide),Si.same 64 (by decide),Si.same 44 (by decide),G43,Za,Zb,Zc,Zd,Ze,Zf,Zg,Zh,Zi,Zj,Zk,Zl,Zm,Zn,Zo,Ja,Jb,Jc,J6,Jd,Je,rd_m,J7,J8,Jf,Jg,Jh,Ji,Jj,Jk,J9,Jl,Jm,wr_m,Jn,JA,JB,Jo,Jp,Jq,Jr,Js,Jt,Ju,Jv,Jw,Jx,Jy,Jz,J0,J1,J2,J3,J4,J5,reduceCtorEq,JC,JD,JE,JF,JG,JH,JI,JJ]) | ((with_reducible (first | apply Ok.br | apply Ok.gd | apply Ok.ld)) <;> (intro g; (try simp only [ZGS] at g); try (exfalso; omega)))))
          exact Turn.next (c - mid) (by omega) ⟨rfl, mid, c, lm, _, false, e5, _, rfl, hlm, rfl, rfl, rfl, rfl, rfl, rfl, rfl, hG5, ⟨hmid.2, hto, by rw [hsz5]; exact hR4.sz, hB5, fun R hR hs => (hf5 R hR hs).elim fun q1 q2 => hR4.fin R q1 q2⟩, by omega⟩
        ·have ha' : ¬ 0 < (a : Int) := by omega
         (repeat' (first | (simp -implicitDefEqProofs (maxSteps := 1000000) (disch := first | assumption | omega | exact hgA _ | (simp only [ZDI]; omega)) only [*,lenV,Si.fl_len,Si.fl_rd,eq_self,hc.run,Si.slot 43 (by decide),Si.plan 43 (by decide),Si.tya,Si.tyb,rnT_a,rnT_b,rnT_o,Si.same 63 (by decide),Si.same 64 (by decide),Si.same 44 (by decide),G43,Za,Zb,Zc,Zd,Ze,Zf,Zg,Zh,Zi,Zj,Zk,Zl,Zm,Zn,Zo,Ja,Jb,Jc,J6,Jd,Je,rd_m,J7,J8,Jf,Jg,Jh,Ji,Jj,Jk,J9,Jl,Jm,wr_m,Jn,JA,JB,Jo,Jp,Jq,Jr,Js,Jt,Ju,Jv,Jw,Jx,Jy,Jz,J0,J1,J2,J3,J4,J5,reduceCtorEq,JC,JD,JE,JF,JG,JH,JI,JJ]) | ((with_reducible (first | apply Ok.br | apply Ok.gd | apply Ok.ld)) <;> (intro g; (try simp only [ZGS] at g); try (exfalso; omega)))))
         refine Ok.bnd2 (part_R hc hS hb hg hG4 hn4 hl4 hpv.1 hpv.2 hR4.to hR4.bel) fun y h3 ⟨G5, e5, mid, ap, hy, hG5, hmid, hsz5, hBl, hBr, hlft, hrgt⟩ => ?_
         cases hy
         by_cases hm : mid - a < c - mid
         ·have hm' : (mid : Int) - (a : Int) < (c : Int) - (mid : Int) := by omega
          (repeat' (first | (simp -implicitDefEqProofs (maxSteps := 1000000) (disch := first | assumption | omega | exact hgA _ | (simp only [ZDI]; omega)) only [*,lenV,Si.slot 43 (by decide),Si.plan 43 (by decide),Si.tya,Si.tyb,rnT_a,rnT_b,rnT_o,Si.same 63 (by decide),Si.same 64 (by decide),Si.same 44 (by decide),G43,Za,Zb,Zc,Zd,Ze,Zf,Zg,Zh,Zi,Zj,Zk,Zl,Zm,Zn,Zo,Ja,Jb,Jc,J6,Jd,Je,rd_m,J7,J8,Jf,Jg,Jh,Ji,Jj,Jk,J9,Jl,Jm,wr_m,Jn,JA,JB,Jo,Jp,Jq,Jr,Js,Jt,Ju,Jv,Jw,Jx,Jy,Jz,J0,J1,J2,J3,J4,J5,reduceCtorEq,JC,JD,JE,JF,JG,JH,JI,JJ]) | ((with_reducible (first | apply Ok.br | apply Ok.gd | apply Ok.ld)) <;> (intro g; (try simp only [ZGS] at g); try (exfalso; omega)))))
          refine Ok.bnd2 (ih (i0 := a) (j0 := mid) hG5 (by omega) (by omega) (by omega) (by omega) hlm hBl) fun y h3 ⟨G6, e6, hy, hG6, hp6, hs6⟩ => ?_
          cases hy
          (repeat' (first | (simp -implicitDefEqProofs (maxSteps := 1000000) (disch := first | assumption | omega | exact hgA _ | (simp only [ZDI]; omega)) only [*,lenV,Si.slot 43 (by decide),Si.plan 43 (by decide),Si.tya,Si.tyb,rnT_a,rnT_b,rnT_o,Si.same 63 (by decide),Si.same 64 (by decide),Si.same 44 (by decide),G43,Za,Zb,Zc,Zd,Ze,Zf,Zg,Zh,Zi,Zj,Zk,Zl,Zm,Zn,Zo,Ja,Jb,Jc,J6,Jd,Je,rd_m,J7,J8,Jf,Jg,Jh,Ji,Jj,Jk,J9,Jl,Jm,wr_m,Jn,JA,JB,Jo,Jp,Jq,Jr,Js,Jt,Ju,Jv,Jw,Jx,Jy,Jz,J0,J1,J2,J3,J4,J5,reduceCtorEq,JC,JD,JE,JF,JG,JH,JI,JJ]) | ((with_reducible (first | apply Ok.br | apply Ok.gd | apply Ok.ld)) <;> (intro g; (try simp only [ZGS] at g); try (exfalso; omega)))))
          have hL := hlft e6 hp6 hs6
          exact Turn.next (c - (mid + 1)) (by omega) ⟨rfl, mid + 1, c, lm, _, ap, e6, _, rfl, hlm, rfl, rfl, rfl, rfl, rfl, rfl, rfl, hG6, ⟨by omega, hto, by rw [hp6.1, hsz5]; exact hR4.sz, hL.1, fun R hR hs => (hL.2 R hR hs).elim fun q1 q2 => hR4.fin R q1 q2⟩, by omega⟩
         ·have hm' : ¬ (mid : Int) - (a : Int) < (c : Int) - (mid : Int) := by omega
          (repeat' (first | (simp -implicitDefEqProofs (maxSteps := 1000000) (disch := first | assumption | omega | exact hgA _ | (simp only [ZDI]; omega)) only [*,lenV,Si.slot 43 (by decide),Si.plan 43 (by decide),Si.tya,Si.tyb,rnT_a,rnT_b,rnT_o,Si.same 63 (by decide),Si.same 64 (by decide),Si.same 44 (by decide),G43,Za,Zb,Zc,Zd,Ze,Zf,Zg,Zh,Zi,Zj,Zk,Zl,Zm,Zn,Zo,Ja,Jb,Jc,J6,Jd,Je,rd_m,J7,J8,Jf,Jg,Jh,Ji,Jj,Jk,J9,Jl,Jm,wr_m,Jn,JA,JB,Jo,Jp,Jq,Jr,Js,Jt,Ju,Jv,Jw,Jx,Jy,Jz,J0,J1,J2,J3,J4,J5,reduceCtorEq,JC,JD,JE,JF,JG,JH,JI,JJ]) | ((with_reducible (first | apply Ok.br | apply Ok.gd | apply Ok.ld)) <;> (intro g; (try simp only [ZGS] at g); try (exfalso; omega)))))
          refine Ok.bnd2 (ih (i0 := mid + 1) (j0 := c) hG5 (by omega) (by omega) (by omega) (by omega) hlm hBr) fun y h3 ⟨G6, e6, hy, hG6, hp6, hs6⟩ => ?_
          cases hy
          (repeat' (first | (simp -implicitDefEqProofs (maxSteps := 1000000) (disch := first | assumption | omega | exact hgA _ | (simp only [ZDI]; omega)) only [*,lenV,Si.slot 43 (by decide),Si.plan 43 (by decide),Si.tya,Si.tyb,rnT_a,rnT_b,rnT_o,Si.same 63 (by decide),Si.same 64 (by decide),Si.same 44 (by decide),G43,Za,Zb,Zc,Zd,Ze,Zf,Zg,Zh,Zi,Zj,Zk,Zl,Zm,Zn,Zo,Ja,Jb,Jc,J6,Jd,Je,rd_m,J7,J8,Jf,Jg,Jh,Ji,Jj,Jk,J9,Jl,Jm,wr_m,Jn,JA,JB,Jo,Jp,Jq,Jr,Js,Jt,Ju,Jv,Jw,Jx,Jy,Jz,J0,J1,J2,J3,J4,J5,reduceCtorEq,JC,JD,JE,JF,JG,JH,JI,JJ]) | ((with_reducible (first | apply Ok.br | apply Ok.gd | apply Ok.ld)) <;> (intro g; (try simp only [ZGS] at g); try (exfalso; omega)))))
          have hL := hrgt e6 hp6 hs6
          exact Turn.next (mid - a) (by omega) ⟨rfl, a, mid, lm, _, ap, e6, _, rfl, hlm, rfl, rfl, rfl, rfl, rfl, rfl, rfl, hG6, ⟨hmid.1, by omega, by rw [hp6.1, hsz5]; exact hR4.sz, hL.1, fun R hR hs => (hL.2 R hR hs).elim fun q1 q2 => hR4.fin R q1 q2⟩, by omega⟩
      | true =>
       (repeat' (first | (simp -implicitDefEqProofs (maxSteps := 1000000) (disch := first | assumption | omega | exact hgA _ | (simp only [ZDI]; omega)) only [*,lenV,Si.slot 43 (by decide),Si.plan 43 (by decide),Si.tya,Si.tyb,rnT_a,rnT_b,rnT_o,Si.same 63 (by decide),Si.same 64 (by decide),Si.same 44 (by decide),G43,Za,Zb,Zc,Zd,Ze,Zf,Zg,Zh,Zi,Zj,Zk,Zl,Zm,Zn,Zo,Ja,Jb,Jc,J6,Jd,Je,rd_m,J7,J8,Jf,Jg,Jh,Ji,Jj,Jk,J9,Jl,Jm,wr_m,Jn,JA,JB,Jo,Jp,Jq,Jr,Js,Jt,Ju,Jv,Jw,Jx,Jy,Jz,J0,J1,J2,J3,J4,J5,reduceCtorEq,JC,JD,JE,JF,JG,JH,JI,JJ]) | ((with_reducible (first | apply Ok.br | apply Ok.gd | apply Ok.ld)) <;> (intro g; (try simp only [ZGS] at g); try (exfalso; omega)))))
       obtain ⟨lm, hlm'⟩ : ∃ lm, lm = lm0 + 1 := ⟨lm0 + 1, rfl⟩
       have hlm : lm <= 1000 := by omega
       rw [<- hlm'] at hz ⊢
       clear hz2 hlm'
       refine Ok.bnd2 (pivot_R hc hb hg hG1 (by rw [hR1.sz]; exact hn) (by rw [hR1.sz]; exact hl) (by omega) hR1.to) fun y h3 ⟨G3, p, hh, hy, hG3, hp, hcase⟩ => ?_
       cases hy
       rcases hcase with rfl | rfl | rfl
       ·have hcl := hG3.cells hb
        have hgG := hG3.good hc hg
        have hto := hR1.to
        have hn4 : n <= e.size := by rw [hR1.sz]; exact hn
        have hl4 : e.size <= 1000000000 := by rw [hR1.sz]; exact hl
        have hx1 : 0 <= (p : Int) /\ (p : Int) < (n : Int) := by have := hR1.to; omega
        have hx2 : p < e.size := by omega
        by_cases ha : 0 < a
        ·have ha' : 0 < (a : Int) := by omega
         have e5 : (a : Int) - 1 = ((a - 1 : Nat) : Int) := by omega
         have hx3 : 0 <= ((a - 1 : Nat) : Int) /\ ((a - 1 : Nat) : Int) < (n : Int) := by have := hR1.to; omega
         have hx4 : a - 1 < e.size := by omega
         by_cases hcm : hc.c e[a - 1]! e[p]! < 0
         ·(repeat' (first | (simp -implicitDefEqProofs (maxSteps := 1000000) (disch := first | assumption | omega | exact hgA _ | (simp only [ZDI]; omega)) only [*,lenV,Si.fl_len,Si.fl_rd,eq_self,hc.run,Si.slot 43 (by decide),Si.plan 43 (by decide),Si.tya,Si.tyb,rnT_a,rnT_b,rnT_o,Si.same 63 (by decide),Si.same 64 (by decide),Si.same 44 (by decide),G43,Za,Zb,Zc,Zd,Ze,Zf,Zg,Zh,Zi,Zj,Zk,Zl,Zm,Zn,Zo,Ja,Jb,Jc,J6,Jd,Je,rd_m,J7,J8,Jf,Jg,Jh,Ji,Jj,Jk,J9,Jl,Jm,wr_m,Jn,JA,JB,Jo,Jp,Jq,Jr,Js,Jt,Ju,Jv,Jw,Jx,Jy,Jz,J0,J1,J2,J3,J4,J5,reduceCtorEq,JC,JD,JE,JF,JG,JH,JI,JJ]) | ((with_reducible (first | apply Ok.br | apply Ok.gd | apply Ok.ld)) <;> (intro g; (try simp only [ZGS] at g); try (exfalso; omega)))))
          refine Ok.bnd2 (part_R hc hS hb hg hG3 hn4 hl4 hp.1 hp.2 hR1.to hR1.bel) fun y h3 ⟨G5, e5, mid, ap, hy, hG5, hmid, hsz5, hBl, hBr, hlft, hrgt⟩ => ?_
          cases hy
          by_cases hm : mid - a < c - mid
          ·have hm' : (mid : Int) - (a : Int) < (c : Int) - (mid : Int) := by omega
           (repeat' (first | (simp -implicitDefEqProofs (maxSteps := 1000000) (disch := first | assumption | omega | exact hgA _ | (simp only [ZDI]; omega)) only [*,lenV,Si.slot 43 (by decide),Si.plan 43 (by decide),Si.tya,Si.tyb,rnT_a,rnT_b,rnT_o,Si.same 63 (by decide),Si.same 64 (by decide),Si.same 44 (by decide),G43,Za,Zb,Zc,Zd,Ze,Zf,Zg,Zh,Zi,Zj,Zk,Zl,Zm,Zn,Zo,Ja,Jb,Jc,J6,Jd,Je,rd_m,J7,J8,Jf,Jg,Jh,Ji,Jj,Jk,J9,Jl,Jm,wr_m,Jn,JA,JB,Jo,Jp,Jq,Jr,Js,Jt,Ju,Jv,Jw,Jx,Jy,Jz,J0,J1,J2,J3,J4,J5,reduceCtorEq,JC,JD,JE,JF,JG,JH,JI,JJ]) | ((with_reducible (first | apply Ok.br | apply Ok.gd | apply Ok.ld)) <;> (intro g; (try simp only [ZGS] at g); try (exfalso; omega)))))
           refine Ok.bnd2 (ih (i0 := a) (j0 := mid) hG5 (by omega) (by omega) (by omega) (by omega) hlm hBl) fun y h3 ⟨G6, e6, hy, hG6, hp6, hs6⟩ => ?_
           cases hy
           (repeat' (first | (simp -implicitDefEqProofs (maxSteps := 1000000) (disch := first | assumption | omega | exact hgA _ | (simp only [ZDI]; omega)) only [*,lenV,Si.slot 43 (by decide),Si.plan 43 (by decide),Si.tya,Si.tyb,rnT_a,rnT_b,rnT_o,Si.same 63 (by decide),Si.same 64 (by decide),Si.same 44 (by decide),G43,Za,Zb,Zc,Zd,Ze,Zf,Zg,Zh,Zi,Zj,Zk,Zl,Zm,Zn,Zo,Ja,Jb,Jc,J6,Jd,Je,rd_m,J7,J8,Jf,Jg,Jh,Ji,Jj,Jk,J9,Jl,Jm,wr_m,Jn,JA,JB,Jo,Jp,Jq,Jr,Js,Jt,Ju,Jv,Jw,Jx,Jy,Jz,J0,J1,J2,J3,J4,J5,reduceCtorEq,JC,JD,JE,JF,JG,JH,JI,JJ]) | ((with_reducible (first | apply Ok.br | apply Ok.gd | apply Ok.ld)) <;> (intro g; (try simp only [ZGS] at g); try (exfalso; omega)))))
           have hL := hlft e6 hp6 hs6
           exact Turn.next (c - (mid + 1)) (by omega) ⟨rfl, mid + 1, c, lm, _, ap, e6, _, rfl, hlm, rfl, rfl, rfl, rfl, rfl, rfl, rfl, hG6, ⟨by omega, hto, by rw [hp6.1, hsz5]; exact hR1.sz, hL.1, fun R hR hs => (hL.2 R hR hs).elim fun q1 q2 => hR1.fin R q1 q2⟩, by omega⟩
          ·have hm' : ¬ (mid : Int) - (a : Int) < (c : Int) - (mid : Int) := by omega
           (repeat' (first | (simp -implicitDefEqProofs (maxSteps := 1000000) (disch := first | assumption | omega | exact hgA _ | (simp only [ZDI]; omega)) only [*,lenV,Si.slot 43 (by decide),Si.plan 43 (by decide),Si.tya,Si.tyb,rnT_a,rnT_b,rnT_o,Si.same 63 (by decide),Si.same 64 (by decide),Si.same 44 (by decide),G43,Za,Zb,Zc,Zd,Ze,Zf,Zg,Zh,Zi,Zj,Zk,Zl,Zm,Zn,Zo,Ja,Jb,Jc,J6,Jd,Je,rd_m,J7,J8,Jf,Jg,Jh,Ji,Jj,Jk,J9,Jl,Jm,wr_m,Jn,JA,JB,Jo,Jp,Jq,Jr,Js,Jt,Ju,Jv,Jw,Jx,Jy,Jz,J0,J1,J2,J3,J4,J5,reduceCtorEq,JC,JD,JE,JF,JG,JH,JI,JJ]) | ((with_reducible (first | apply Ok.br | apply Ok.gd | apply Ok.ld)) <;> (intro g; (try simp only [ZGS] at g); try (exfalso; omega)))))
           refine Ok.bnd2 (ih (i0 := mid + 1) (j0 := c) hG5 (by omega) (by omega) (by omega) (by omega) hlm hBr) fun y h3 ⟨G6, e6, hy, hG6, hp6, hs6⟩ => ?_
           cases hy
           (repeat' (first | (simp -implicitDefEqProofs (maxSteps := 1000000) (disch := first | assumption | omega | exact hgA _ | (simp only [ZDI]; omega)) only [*,lenV,Si.slot 43 (by decide),Si.plan 43 (by decide),Si.tya,Si.tyb,rnT_a,rnT_b,rnT_o,Si.same 63 (by decide),Si.same 64 (by decide),Si.same 44 (by decide),G43,Za,Zb,Zc,Zd,Ze,Zf,Zg,Zh,Zi,Zj,Zk,Zl,Zm,Zn,Zo,Ja,Jb,Jc,J6,Jd,Je,rd_m,J7,J8,Jf,Jg,Jh,Ji,Jj,Jk,J9,Jl,Jm,wr_m,Jn,JA,JB,Jo,Jp,Jq,Jr,Js,Jt,Ju,Jv,Jw,Jx,Jy,Jz,J0,J1,J2,J3,J4,J5,reduceCtorEq,JC,JD,JE,JF,JG,JH,JI,JJ]) | ((with_reducible (first | apply Ok.br | apply Ok.gd | apply Ok.ld)) <;> (intro g; (try simp only [ZGS] at g); try (exfalso; omega)))))
           have hL := hrgt e6 hp6 hs6
           exact Turn.next (mid - a) (by omega) ⟨rfl, a, mid, lm, _, ap, e6, _, rfl, hlm, rfl, rfl, rfl, rfl, rfl, rfl, rfl, hG6, ⟨hmid.1, by omega, by rw [hp6.1, hsz5]; exact hR1.sz, hL.1, fun R hR hs => (hL.2 R hR hs).elim fun q1 q2 => hR1.fin R q1 q2⟩, by omega⟩
         ·(repeat' (first | (simp -implicitDefEqProofs (maxSteps := 1000000) (disch := first | assumption | omega | exact hgA _ | (simp only [ZDI]; omega)) only [*,lenV,Si.fl_len,Si.fl_rd,eq_self,hc.run,Si.slot 43 (by decide),Si.plan 43 (by decide),Si.tya,Si.tyb,rnT_a,rnT_b,rnT_o,Si.same 63 (by decide),Si.same 64 (by decide),Si.same 44 (by decide),G43,Za,Zb,Zc,Zd,Ze,Zf,Zg,Zh,Zi,Zj,Zk,Zl,Zm,Zn,Zo,Ja,Jb,Jc,J6,Jd,Je,rd_m,J7,J8,Jf,Jg,Jh,Ji,Jj,Jk,J9,Jl,Jm,wr_m,Jn,JA,JB,Jo,Jp,Jq,Jr,Js,Jt,Ju,Jv,Jw,Jx,Jy,Jz,J0,J1,J2,J3,J4,J5,reduceCtorEq,JC,JD,JE,JF,JG,JH,JI,JJ]) | ((with_reducible (first | apply Ok.br | apply Ok.gd | apply Ok.ld)) <;> (intro g; (try simp only [ZGS] at g); try (exfalso; omega)))))
          refine Ok.bnd2 (partEq_R hc hS hb hg hG3 hn4 hl4 hp.1 hp.2 hR1.to ha hR1.bel (by rw [hc.neg]; exact decide_eq_false hcm)) fun y h3 ⟨G5, e5, mid, hy, hG5, hmid, hsz5, hB5, hf5⟩ => ?_
          cases hy
          (repeat' (first | (simp -implicitDefEqProofs (maxSteps := 1000000) (disch := first | assumption | omega | exact hgA _ | (simp only [ZDI]; omega)) only [*,lenV,Si.slot 43 (by decide),Si.plan 43 (by decide),Si.tya,Si.tyb,rnT_a,rnT_b,rnT_o,Si.same 63 (by decide),Si.same 64 (by decide),Si.same 44 (by decide),G43,Za,Zb,Zc,Zd,Ze,Zf,Zg,Zh,Zi,Zj,Zk,Zl,Zm,Zn,Zo,Ja,Jb,Jc,J6,Jd,Je,rd_m,J7,J8,Jf,Jg,Jh,Ji,Jj,Jk,J9,Jl,Jm,wr_m,Jn,JA,JB,Jo,Jp,Jq,Jr,Js,Jt,Ju,Jv,Jw,Jx,Jy,Jz,J0,J1,J2,J3,J4,J5,reduceCtorEq,JC,JD,JE,JF,JG,JH,JI,JJ]) | ((with_reducible (first | apply Ok.br | apply Ok.gd | apply Ok.ld)) <;> (intro g; (try simp only [ZGS] at g); try (exfalso; omega)))))
          exact Turn.next (c - mid) (by omega) ⟨rfl, mid, c, lm, _, true, e5, _, rfl, hlm, rfl, rfl, rfl, rfl, rfl, rfl, rfl, hG5, ⟨hmid.2, hto, by rw [hsz5]; exact hR1.sz, hB5, fun R hR hs => (hf5 R hR hs).elim fun q1 q2 => hR1.fin R q1 q2⟩, by omega⟩
        ·have ha' : ¬ 0 < (a : Int) := by omega
         (repeat' (first | (simp -implicitDefEqProofs (maxSteps := 1000000) (disch := first | assumption | omega | exact hgA _ | (simp only [ZDI]; omega)) only [*,lenV,Si.fl_len,Si.fl_rd,eq_self,hc.run,Si.slot 43 (by decide),Si.plan 43 (by decide),Si.tya,Si.tyb,rnT_a,rnT_b,rnT_o,Si.same 63 (by decide),Si.same 64 (by decide),Si.same 44 (by decide),G43,Za,Zb,Zc,Zd,Ze,Zf,Zg,Zh,Zi,Zj,Zk,Zl,Zm,Zn,Zo,Ja,Jb,Jc,J6,Jd,Je,rd_m,J7,J8,Jf,Jg,Jh,Ji,Jj,Jk,J9,Jl,Jm,wr_m,Jn,JA,JB,Jo,Jp,Jq,Jr,Js,Jt,Ju,Jv,Jw,Jx,Jy,Jz,J0,J1,J2,J3,J4,J5,reduceCtorEq,JC,JD,JE,JF,JG,JH,JI,JJ]) | ((with_reducible (first | apply Ok.br | apply Ok.gd | apply Ok.ld)) <;> (intro g; (try simp only [ZGS] at g); try (exfalso; omega)))))
         refine Ok.bnd2 (part_R hc hS hb hg hG3 hn4 hl4 hp.1 hp.2 hR1.to hR1.bel) fun y h3 ⟨G5, e5, mid, ap, hy, hG5, hmid, hsz5, hBl, hBr, hlft, hrgt⟩ => ?_
         cases hy
         by_cases hm : mid - a < c - mid
         ·have hm' : (mid : Int) - (a : Int) < (c : Int) - (mid : Int) := by omega
          (repeat' (first | (simp -implicitDefEqProofs (maxSteps := 1000000) (disch := first | assumption | omega | exact hgA _ | (simp only [ZDI]; omega)) only [*,lenV,Si.slot 43 (by decide),Si.plan 43 (by decide),Si.tya,Si.tyb,rnT_a,rnT_b,rnT_o,Si.same 63 (by decide),Si.same 64 (by decide),Si.same 44 (by decide),G43,Za,Zb,Zc,Zd,Ze,Zf,Zg,Zh,Zi,Zj,Zk,Zl,Zm,Zn,Zo,Ja,Jb,Jc,J6,Jd,Je,rd_m,J7,J8,Jf,Jg,Jh,Ji,Jj,Jk,J9,Jl,Jm,wr_m,Jn,JA,JB,Jo,Jp,Jq,Jr,Js,Jt,Ju,Jv,Jw,Jx,Jy,Jz,J0,J1,J2,J3,J4,J5,reduceCtorEq,JC,JD,JE,JF,JG,JH,JI,JJ]) | ((with_reducible (first | apply Ok.br | apply Ok.gd | apply Ok.ld)) <;> (intro g; (try simp only [ZGS] at g); try (exfalso; omega)))))
          refine Ok.bnd2 (ih (i0 := a) (j0 := mid) hG5 (by omega) (by omega) (by omega) (by omega) hlm hBl) fun y h3 ⟨G6, e6, hy, hG6, hp6, hs6⟩ => ?_
          cases hy
          (repeat' (first | (simp -implicitDefEqProofs (maxSteps := 1000000) (disch := first | assumption | omega | exact hgA _ | (simp only [ZDI]; omega)) only [*,lenV,Si.slot 43 (by decide),Si.plan 43 (by decide),Si.tya,Si.tyb,rnT_a,rnT_b,rnT_o,Si.same 63 (by decide),Si.same 64 (by decide),Si.same 44 (by decide),G43,Za,Zb,Zc,Zd,Ze,Zf,Zg,Zh,Zi,Zj,Zk,Zl,Zm,Zn,Zo,Ja,Jb,Jc,J6,Jd,Je,rd_m,J7,J8,Jf,Jg,Jh,Ji,Jj,Jk,J9,Jl,Jm,wr_m,Jn,JA,JB,Jo,Jp,Jq,Jr,Js,Jt,Ju,Jv,Jw,Jx,Jy,Jz,J0,J1,J2,J3,J4,J5,reduceCtorEq,JC,JD,JE,JF,JG,JH,JI,JJ]) | ((with_reducible (first | apply Ok.br | apply Ok.gd | apply Ok.ld)) <;> (intro g; (try simp only [ZGS] at g); try (exfalso; omega)))))
          have hL := hlft e6 hp6 hs6
          exact Turn.next (c - (mid + 1)) (by omega) ⟨rfl, mid + 1, c, lm, _, ap, e6, _, rfl, hlm, rfl, rfl, rfl, rfl, rfl, rfl, rfl, hG6, ⟨by omega, hto, by rw [hp6.1, hsz5]; exact hR1.sz, hL.1, fun R hR hs => (hL.2 R hR hs).elim fun q1 q2 => hR1.fin R q1 q2⟩, by omega⟩
         ·have hm' : ¬ (mid : Int) - (a : Int) < (c : Int) - (mid : Int) := by omega
          (repeat' (first | (simp -implicitDefEqProofs (maxSteps := 1000000) (disch := first | assumption | omega | exact hgA _ | (simp only [ZDI]; omega)) only [*,lenV,Si.slot 43 (by decide),Si.plan 43 (by decide),Si.tya,Si.tyb,rnT_a,rnT_b,rnT_o,Si.same 63 (by decide),Si.same 64 (by decide),Si.same 44 (by decide),G43,Za,Zb,Zc,Zd,Ze,Zf,Zg,Zh,Zi,Zj,Zk,Zl,Zm,Zn,Zo,Ja,Jb,Jc,J6,Jd,Je,rd_m,J7,J8,Jf,Jg,Jh,Ji,Jj,Jk,J9,Jl,Jm,wr_m,Jn,JA,JB,Jo,Jp,Jq,Jr,Js,Jt,Ju,Jv,Jw,Jx,Jy,Jz,J0,J1,J2,J3,J4,J5,reduceCtorEq,JC,JD,JE,JF,JG,JH,JI,JJ]) | ((with_reducible (first | apply Ok.br | apply Ok.gd | apply Ok.ld)) <;> (intro g; (try simp only [ZGS] at g); try (exfalso; omega)))))
          refine Ok.bnd2 (ih (i0 := mid + 1) (j0 := c) hG5 (by omega) (by omega) (by omega) (by omega) hlm hBr) fun y h3 ⟨G6, e6, hy, hG6, hp6, hs6⟩ => ?_
          cases hy
          (repeat' (first | (simp -implicitDefEqProofs (maxSteps := 1000000) (disch := first | assumption | omega | exact hgA _ | (simp only [ZDI]; omega)) only [*,lenV,Si.slot 43 (by decide),Si.plan 43 (by decide),Si.tya,Si.tyb,rnT_a,rnT_b,rnT_o,Si.same 63 (by decide),Si.same 64 (by decide),Si.same 44 (by decide),G43,Za,Zb,Zc,Zd,Ze,Zf,Zg,Zh,Zi,Zj,Zk,Zl,Zm,Zn,Zo,Ja,Jb,Jc,J6,Jd,Je,rd_m,J7,J8,Jf,Jg,Jh,Ji,Jj,Jk,J9,Jl,Jm,wr_m,Jn,JA,JB,Jo,Jp,Jq,Jr,Js,Jt,Ju,Jv,Jw,Jx,Jy,Jz,J0,J1,J2,J3,J4,J5,reduceCtorEq,JC,JD,JE,JF,JG,JH,JI,JJ]) | ((with_reducible (first | apply Ok.br | apply Ok.gd | apply Ok.ld)) <;> (intro g; (try simp only [ZGS] at g); try (exfalso; omega)))))
          have hL := hrgt e6 hp6 hs6
          exact Turn.next (mid - a) (by omega) ⟨rfl, a, mid, lm, _, ap, e6, _, rfl, hlm, rfl, rfl, rfl, rfl, rfl, rfl, rfl, hG6, ⟨hmid.1, by omega, by rw [hp6.1, hsz5]; exact hR1.sz, hL.1, fun R hR hs => (hL.2 R hR hs).elim fun q1 q2 => hR1.fin R q1 q2⟩, by omega⟩
       ·(repeat' (first | (simp -implicitDefEqProofs (maxSteps := 1000000) (disch := first | assumption | omega | exact hgA _ | (simp only [ZDI]; omega)) only [*,lenV,Si.slot 43 (by decide),Si.plan 43 (by decide),Si.tya,Si.tyb,rnT_a,rnT_b,rnT_o,Si.same 63 (by decide),Si.same 64 (by decide),Si.same 44 (by decide),G43,Za,Zb,Zc,Zd,Ze,Zf,Zg,Zh,Zi,Zj,Zk,Zl,Zm,Zn,Zo,Ja,Jb,Jc,J6,Jd,Je,rd_m,J7,J8,Jf,Jg,Jh,Ji,Jj,Jk,J9,Jl,Jm,wr_m,Jn,JA,JB,Jo,Jp,Jq,Jr,Js,Jt,Ju,Jv,Jw,Jx,Jy,Jz,J0,J1,J2,J3,J4,J5,reduceCtorEq,JC,JD,JE,JF,JG,JH,JI,JJ]) | ((with_reducible (first | apply Ok.br | apply Ok.gd | apply Ok.ld)) <;> (intro g; (try simp only [ZGS] at g); try (exfalso; omega)))))
        refine Ok.bnd2 (partIns_R hc hS hb hg hG3 (by rw [hR1.sz]; exact hn) (by rw [hR1.sz]; exact hl) (by omega) hR1.to hR1.bel) fun y h3 ⟨G4, e4, r, hy, hG4, hp4, hs4⟩ => ?_
        cases hy
        have hR4 := hR1.perm hn hp4
        cases r with
        | true =>
         (repeat' (first | (simp -implicitDefEqProofs (maxSteps := 1000000) (disch := first | assumption | omega | exact hgA _ | (simp only [ZDI]; omega)) only [*,lenV,Si.slot 43 (by decide),Si.plan 43 (by decide),Si.tya,Si.tyb,rnT_a,rnT_b,rnT_o,Si.same 63 (by decide),Si.same 64 (by decide),Si.same 44 (by decide),G43,Za,Zb,Zc,Zd,Ze,Zf,Zg,Zh,Zi,Zj,Zk,Zl,Zm,Zn,Zo,Ja,Jb,Jc,J6,Jd,Je,rd_m,J7,J8,Jf,Jg,Jh,Ji,Jj,Jk,J9,Jl,Jm,wr_m,Jn,JA,JB,Jo,Jp,Jq,Jr,Js,Jt,Ju,Jv,Jw,Jx,Jy,Jz,J0,J1,J2,J3,J4,J5,reduceCtorEq,JC,JD,JE,JF,JG,JH,JI,JJ]) | ((with_reducible (first | apply Ok.br | apply Ok.gd | apply Ok.ld)) <;> (intro g; (try simp only [ZGS] at g); try (exfalso; omega)))))
         have := hR1.fin e4 hp4 (hs4 rfl)
         exact Turn.ret ⟨rfl, rfl, rfl, e4, hG4, this.1, this.2⟩
        | false =>
         clear hs4 hp4 hG3 hR1
         have hcl := hG4.cells hb
         have hgG := hG4.good hc hg
         have hto := hR4.to
         have hn4 : n <= e4.size := by rw [hR4.sz]; exact hn
         have hl4 : e4.size <= 1000000000 := by rw [hR4.sz]; exact hl
         have hx1 : 0 <= (p : Int) /\ (p : Int) < (n : Int) := by have := hR4.to; omega
         have hx2 : p < e4.size := by omega
         by_cases ha : 0 < a
         ·have ha' : 0 < (a : Int) := by omega
          have e5 : (a : Int) - 1 = ((a - 1 : Nat) : Int) := by omega
          have hx3 : 0 <= ((a - 1 : Nat) : Int) /\ ((a - 1 : Nat) : Int) < (n : Int) := by have := hR4.to; omega
          have hx4 : a - 1 < e4.size := by omega
          by_cases hcm : hc.c e4[a - 1]! e4[p]! < 0
          ·(repeat' (first | (simp -implicitDefEqProofs (maxSteps := 1000000) (disch := first | assumption | omega | exact hgA _ | (simp only [ZDI]; omega)) only [*,lenV,Si.fl_len,Si.fl_rd,eq_self,hc.run,Si.slot 43 (by decide),Si.plan 43 (by decide),Si.tya,Si.tyb,rnT_a,rnT_b,rnT_o,Si.same 63 (by decide),Si.same 64 (by decide),Si.same 44 (by decide),G43,Za,Zb,Zc,Zd,Ze,Zf,Zg,Zh,Zi,Zj,Zk,Zl,Zm,Zn,Zo,Ja,Jb,Jc,J6,Jd,Je,rd_m,J7,J8,Jf,Jg,Jh,Ji,Jj,Jk,J9,Jl,Jm,wr_m,Jn,JA,JB,Jo,Jp,Jq,Jr,Js,Jt,Ju,Jv,Jw,Jx,Jy,Jz,J0,J1,J2,J3,J4,J5,reduceCtorEq,JC,JD,JE,JF,JG,JH,JI,JJ]) | ((with_reducible (first | apply Ok.br | apply Ok.gd | apply Ok.ld)) <;> (intro g; (try simp only [ZGS] at g); try (exfalso; omega)))))
           refine Ok.bnd2 (part_R hc hS hb hg hG4 hn4 hl4 hp.1 hp.2 hR4.to hR4.bel) fun y h3 ⟨G5, e5, mid, ap, hy, hG5, hmid, hsz5, hBl, hBr, hlft, hrgt⟩ => ?_
           cases hy
           by_cases hm : mid - a < c - mid
           ·have hm' : (mid : Int) - (a : Int) < (c : Int) - (mid : Int) := by omega
            (repeat' (first | (simp -implicitDefEqProofs (maxSteps := 1000000) (disch := first | assumption | omega | exact hgA _ | (simp only [ZDI]; omega)) only [*,lenV,Si.slot 43 (by decide),Si.plan 43 (by decide),Si.tya,Si.tyb,rnT_a,rnT_b,rnT_o,Si.same 63 (by decide),Si.same 64 (by decide),Si.same 44 (by decide),G43,Za,Zb,Zc,Zd,Ze,Zf,Zg,Zh,Zi,Zj,Zk,Zl,Zm,Zn,Zo,Ja,Jb,Jc,J6,Jd,Je,rd_m,J7,J8,Jf,Jg,Jh,Ji,Jj,Jk,J9,Jl,Jm,wr_m,Jn,JA,JB,Jo,Jp,Jq,Jr,Js,Jt,Ju,Jv,Jw,Jx,Jy,Jz,J0,J1,J2,J3,J4,J5,reduceCtorEq,JC,JD,JE,JF,JG,JH,JI,JJ]) | ((with_reducible (first | apply Ok.br | apply Ok.gd | apply Ok.ld)) <;> (intro g; (try simp only [ZGS] at g); try (exfalso; omega)))))
            refine Ok.bnd2 (ih (i0 := a) (j0 := mid) hG5 (by omega) (by omega) (by omega) (by omega) hlm hBl) fun y h3 ⟨G6, e6, hy, hG6, hp6, hs6⟩ => ?_
            cases hy
            (repeat' (first | (simp -implicitDefEqProofs (maxSteps := 1000000) (disch := first | assumption | omega | exact hgA _ | (simp only [ZDI]; omega)) only [*,lenV,Si.slot 43 (by decide),Si.plan 43 (by decide),Si.tya,Si.tyb,rnT_a,rnT_b,rnT_o,Si.same 63 (by decide),Si.same 64 (by decide),Si.same 44 (by decide),G43,Za,Zb,Zc,Zd,Ze,Zf,Zg,Zh,Zi,Zj,Zk,Zl,Zm,Zn,Zo,Ja,Jb,Jc,J6,Jd,Je,rd_m,J7,J8,Jf,Jg,Jh,Ji,Jj,Jk,J9,Jl,Jm,wr_m,Jn,JA,JB,Jo,Jp,Jq,Jr,Js,Jt,Ju,Jv,Jw,Jx,Jy,Jz,J0,J1,J2,J3,J4,J5,reduceCtorEq,JC,JD,JE,JF,JG,JH,JI,JJ]) | ((with_reducible (first | apply Ok.br | apply Ok.gd | apply Ok.ld)) <;> (intro g; (try simp only [ZGS] at g); try (exfalso; omega)))))
            have hL := hlft e6 hp6 hs6
            exact Turn.next (c - (mid + 1)) (by omega) ⟨rfl, mid + 1, c, lm, _, ap, e6, _, rfl, hlm, rfl, rfl, rfl, rfl, rfl, rfl, rfl, hG6, ⟨by omega, hto, by rw [hp6.1, hsz5]; exact hR4.sz, hL.1, fun R hR hs => (hL.2 R hR hs).elim fun q1 q2 => hR4.fin R q1 q2⟩, by omega⟩
           ·have hm' : ¬ (mid : Int) - (a : Int) < (c : Int) - (mid : Int) := by omega
            (repeat' (first | (simp -implicitDefEqProofs (maxSteps := 1000000) (disch := first | assumption | omega | exact hgA _ | (simp only [ZDI]; omega)) only [*,lenV,Si.slot 43 (by decide),Si.plan 43 (by decide),Si.tya,Si.tyb,rnT_a,rnT_b,rnT_o,Si.same 63 (by decide),Si.same 64 (by decide),Si.same 44 (by decide),G43,Za,Zb,Zc,Zd,Ze,Zf,Zg,Zh,Zi,Zj,Zk,Zl,Zm,Zn,Zo,Ja,Jb,Jc,J6,Jd,Je,rd_m,J7,J8,Jf,Jg,Jh,Ji,Jj,Jk,J9,Jl,Jm,wr_m,Jn,JA,JB,Jo,Jp,Jq,Jr,Js,Jt,Ju,Jv,Jw,Jx,Jy,Jz,J0,J1,J2,J3,J4,J5,reduceCtorEq,JC,JD,JE,JF,JG,JH,JI,JJ]) | ((with_reducible (first | apply Ok.br | apply Ok.gd | apply Ok.ld)) <;> (intro g; (try simp only [ZGS] at g); try (exfalso; omega)))))
            refine Ok.bnd2 (ih (i0 := mid + 1) (j0 := c) hG5 (by omega) (by omega) (by omega) (by omega) hlm hBr) fun y h3 ⟨G6, e6, hy, hG6, hp6, hs6⟩ => ?_
            cases hy
            (repeat' (first | (simp -implicitDefEqProofs (maxSteps := 1000000) (disch := first | assumption | omega | exact hgA _ | (simp only [ZDI]; omega)) only [*,lenV,Si.slot 43 (by decide),Si.plan 43 (by decide),Si.tya,Si.tyb,rnT_a,rnT_b,rnT_o,Si.same 63 (by decide),Si.same 64 (by decide),Si.same 44 (by decide),G43,Za,Zb,Zc,Zd,Ze,Zf,Zg,Zh,Zi,Zj,Zk,Zl,Zm,Zn,Zo,Ja,Jb,Jc,J6,Jd,Je,rd_m,J7,J8,Jf,Jg,Jh,Ji,Jj,Jk,J9,Jl,Jm,wr_m,Jn,JA,JB,Jo,Jp,Jq,Jr,Js,Jt,Ju,Jv,Jw,Jx,Jy,Jz,J0,J1,J2,J3,J4,J5,reduceCtorEq,JC,JD,JE,JF,JG,JH,JI,JJ]) | ((with_reducible (first | apply Ok.br | apply Ok.gd | apply Ok.ld)) <;> (intro g; (try simp only [ZGS] at g); try (exfalso; omega)))))
            have hL := hrgt e6 hp6 hs6
            exact Turn.next (mid - a) (by omega) ⟨rfl, a, mid, lm, _, ap, e6, _, rfl, hlm, rfl, rfl, rfl, rfl, rfl, rfl, rfl, hG6, ⟨hmid.1, by omega, by rw [hp6.1, hsz5]; exact hR4.sz, hL.1, fun R hR hs => (hL.2 R hR hs).elim fun q1 q2 => hR4.fin R q1 q2⟩, by omega⟩
          ·(repeat' (first | (simp -implicitDefEqProofs (maxSteps := 1000000) (disch := first | assumption | omega | exact hgA _ | (simp only [ZDI]; omega)) only [*,lenV,Si.fl_len,Si.fl_rd,eq_self,hc.run,Si.slot 43 (by decide),Si.plan 43 (by decide),Si.tya,Si.tyb,rnT_a,rnT_b,rnT_o,Si.same 63 (by decide),Si.same 64 (by decide),Si.same 44 (by decide),G43,Za,Zb,Zc,Zd,Ze,Zf,Zg,Zh,Zi,Zj,Zk,Zl,Zm,Zn,Zo,Ja,Jb,Jc,J6,Jd,Je,rd_m,J7,J8,Jf,Jg,Jh,Ji,Jj,Jk,J9,Jl,Jm,wr_m,Jn,JA,JB,Jo,Jp,Jq,Jr,Js,Jt,Ju,Jv,Jw,Jx,Jy,Jz,J0,J1,J2,J3,J4,J5,reduceCtorEq,JC,JD,JE,JF,JG,JH,JI,JJ]) | ((with_reducible (first | apply Ok.br | apply Ok.gd | apply Ok.ld)) <;> (intro g; (try simp only [ZGS] at g); try (exfalso; omega)))))
           refine Ok.bnd2 (partEq_R hc hS hb hg hG4 hn4 hl4 hp.1 hp.2 hR4.to ha hR4.bel (by rw [hc.neg]; exact decide_eq_false hcm)) fun y h3 ⟨G5, e5, mid, hy, hG5, hmid, hsz5, hB5, hf5⟩ => ?_
           cases hy
           (repeat' (first | (simp -implicitDefEqProofs (maxSteps := 1000000) (disch := first | assumption | omega | exact hgA _ | (simp only [ZDI]; omega)) only [*,lenV,Si.slot 43 (by decide),Si.plan 43 (by decide),Si.tya,Si.tyb,rnT_a,rnT_b,rnT_o,Si.same 63 (by decide),Si.same 64 (by decide),Si.same 44 (by decide),G43,Za,Zb,Zc,Zd,Ze,Zf,Zg,Zh,Zi,Zj,Zk,Zl,Zm,Zn,Zo,Ja,Jb,Jc,J6,Jd,Je,rd_m,J7,J8,Jf,Jg,Jh,Ji,Jj,Jk,J9,Jl,Jm,wr_m,Jn,JA,JB,Jo,Jp,Jq,Jr,Js,Jt,Ju,Jv,Jw,Jx,Jy,Jz,J0,J1,J2,J3,J4,J5,reduceCtorEq,JC,JD,JE,JF,JG,JH,JI,JJ]) | ((with_reducible (first | apply Ok.br | apply Ok.gd | apply Ok.ld)) <;> (intro g; (try simp only [ZGS] at g); try (exfalso; omega)))))
           exact Turn.next (c - mid) (by omega) ⟨rfl, mid, c, lm, _, true, e5, _, rfl, hlm, rfl, rfl, rfl, rfl, rfl, rfl, rfl, hG5, ⟨hmid.2, hto, by rw [hsz5]; exact hR4.sz, hB5, fun R hR hs => (hf5 R hR hs).elim fun q1 q2 => hR4.fin R q1 q2⟩, by omega⟩
         ·have ha' : ¬ 0 < (a : Int) := by omega
          (repeat' (first | (simp -implicitDefEqProofs (maxSteps := 1000000) (disch := first | assumption | omega | exact hgA _ | (simp only [ZDI]; omega)) only [*,lenV,Si.fl_len,Si.fl_rd,eq_self,hc.run,Si.slot 43 (by decide),Si.plan 43 (by decide),Si.tya,Si.tyb,rnT_a,rnT_b,rnT_o,Si.same 63 (by decide),Si.same 64 (by decide),Si.same 44 (by decide),G43,Za,Zb,Zc,Zd,Ze,Zf,Zg,Zh,Zi,Zj,Zk,Zl,Zm,Zn,Zo,Ja,Jb,Jc,J6,Jd,Je,rd_m,J7,J8,Jf,Jg,Jh,Ji,Jj,Jk,J9,Jl,Jm,wr_m,Jn,JA,JB,Jo,Jp,Jq,Jr,Js,Jt,Ju,Jv,Jw,Jx,Jy,Jz,J0,J1,J2,J3,J4,J5,reduceCtorEq,JC,JD,JE,JF,JG,JH,JI,JJ]) | ((with_reducible (first | apply Ok.br | apply Ok.gd | apply Ok.ld)) <;> (intro g; (try simp only [ZGS] at g); try (exfalso; omega)))))
          refine Ok.bnd2 (part_R hc hS hb hg hG4 hn4 hl4 hp.1 hp.2 hR4.to hR4.bel) fun y h3 ⟨G5, e5, mid, ap, hy, hG5, hmid, hsz5, hBl, hBr, hlft, hrgt⟩ => ?_
          cases hy
          by_cases hm : mid - a < c - mid
          ·have hm' : (mid : Int) - (a : Int) < (c : Int) - (mid : Int) := by omega
           (repeat' (first | (simp -implicitDefEqProofs (maxSteps := 1000000) (disch := first | assumption | omega | exact hgA _ | (simp only [ZDI]; omega)) only [*,lenV,Si.slot 43 (by decide),Si.plan 43 (by decide),Si.tya,Si.tyb,rnT_a,rnT_b,rnT_o,Si.same 63 (by decide),Si.same 64 (by decide),Si.same 44 (by decide),G43,Za,Zb,Zc,Zd,Ze,Zf,Zg,Zh,Zi,Zj,Zk,Zl,Zm,Zn,Zo,Ja,Jb,Jc,J6,Jd,Je,rd_m,J7,J8,Jf,Jg,Jh,Ji,Jj,Jk,J9,Jl,Jm,wr_m,Jn,JA,JB,Jo,Jp,Jq,Jr,Js,Jt,Ju,Jv,Jw,Jx,Jy,Jz,J0,J1,J2,J3,J4,J5,reduceCtorEq,JC,JD,JE,JF,JG,JH,JI,JJ]) | ((with_reducible (first | apply Ok.br | apply Ok.gd | apply Ok.ld)) <;> (intro g; (try simp only [ZGS] at g); try (exfalso; omega)))))
           refine Ok.bnd2 (ih (i0 := a) (j0 := mid) hG5 (by omega) (by omega) (by omega) (by omega) hlm hBl) fun y h3 ⟨G6, e6, hy, hG6, hp6, hs6⟩ => ?_
           cases hy
           (repeat' (first | (simp -implicitDefEqProofs (maxSteps := 1000000) (disch := first | assumption | omega | exact hgA _ | (simp only [ZDI]; omega)) only [*,lenV,Si.slot 43 (by decide),Si.plan 43 (by decide),Si.tya,Si.tyb,rnT_a,rnT_b,rnT_o,Si.same 63 (by decide),Si.same 64 (by decide),Si.same 44 (by decide),G43,Za,Zb,Zc,Zd,Ze,Zf,Zg,Zh,Zi,Zj,Zk,Zl,Zm,Zn,Zo,Ja,Jb,Jc,J6,Jd,Je,rd_m,J7,J8,Jf,Jg,Jh,Ji,Jj,Jk,J9,Jl,Jm,wr_m,Jn,JA,JB,Jo,Jp,Jq,Jr,Js,Jt,Ju,Jv,Jw,Jx,Jy,Jz,J0,J1,J2,J3,J4,J5,reduceCtorEq,JC,JD,JE,JF,JG,JH,JI,JJ]) | ((with_reducible (first | apply Ok.br | apply Ok.gd | apply Ok.ld)) <;> (intro g; (try simp only [ZGS] at g); try (exfalso; omega)))))
           have hL := hlft e6 hp6 hs6
           exact Turn.next (c - (mid + 1)) (by omega) ⟨rfl, mid + 1, c, lm, _, ap, e6, _, rfl, hlm, rfl, rfl, rfl, rfl, rfl, rfl, rfl, hG6, ⟨by omega, hto, by rw [hp6.1, hsz5]; exact hR4.sz, hL.1, fun R hR hs => (hL.2 R hR hs).elim fun q1 q2 => hR4.fin R q1 q2⟩, by omega⟩
          ·have hm' : ¬ (mid : Int) - (a : Int) < (c : Int) - (mid : Int) := by omega
           (repeat' (first | (simp -implicitDefEqProofs (maxSteps := 1000000) (disch := first | assumption | omega | exact hgA _ | (simp only [ZDI]; omega)) only [*,lenV,Si.slot 43 (by decide),Si.plan 43 (by decide),Si.tya,Si.tyb,rnT_a,rnT_b,rnT_o,Si.same 63 (by decide),Si.same 64 (by decide),Si.same 44 (by decide),G43,Za,Zb,Zc,Zd,Ze,Zf,Zg,Zh,Zi,Zj,Zk,Zl,Zm,Zn,Zo,Ja,Jb,Jc,J6,Jd,Je,rd_m,J7,J8,Jf,Jg,Jh,Ji,Jj,Jk,J9,Jl,Jm,wr_m,Jn,JA,JB,Jo,Jp,Jq,Jr,Js,Jt,Ju,Jv,Jw,Jx,Jy,Jz,J0,J1,J2,J3,J4,J5,reduceCtorEq,JC,JD,JE,JF,JG,JH,JI,JJ]) | ((with_reducible (first | apply Ok.br | apply Ok.gd | apply Ok.ld)) <;> (intro g; (try simp only [ZGS] at g); try (exfalso; omega)))))
           refine Ok.bnd2 (ih (i0 := mid + 1) (j0 := c) hG5 (by omega) (by omega) (by omega) (by omega) hlm hBr) fun y h3 ⟨G6, e6, hy, hG6, hp6, hs6⟩ => ?_
           cases hy
           (repeat' (first | (simp -implicitDefEqProofs (maxSteps := 1000000) (disch := first | assumption | omega | exact hgA _ | (simp only [ZDI]; omega)) only [*,lenV,Si.slot 43 (by decide),Si.plan 43 (by decide),Si.tya,Si.tyb,rnT_a,rnT_b,rnT_o,Si.same 63 (by decide),Si.same 64 (by decide),Si.same 44 (by decide),G43,Za,Zb,Zc,Zd,Ze,Zf,Zg,Zh,Zi,Zj,Zk,Zl,Zm,Zn,Zo,Ja,Jb,Jc,J6,Jd,Je,rd_m,J7,J8,Jf,Jg,Jh,Ji,Jj,Jk,J9,Jl,Jm,wr_m,Jn,JA,JB,Jo,Jp,Jq,Jr,Js,Jt,Ju,Jv,Jw,Jx,Jy,Jz,J0,J1,J2,J3,J4,J5,reduceCtorEq,JC,JD,JE,JF,JG,JH,JI,JJ]) | ((with_reducible (first | apply Ok.br | apply Ok.gd | apply Ok.ld)) <;> (intro g; (try simp only [ZGS] at g); try (exfalso; omega)))))
           have hL := hrgt e6 hp6 hs6
           exact Turn.next (mid - a) (by omega) ⟨rfl, a, mid, lm, _, ap, e6, _, rfl, hlm, rfl, rfl, rfl, rfl, rfl, rfl, rfl, hG6, ⟨hmid.1, by omega, by rw [hp6.1, hsz5]; exact hR4.sz, hL.1, fun R hR hs => (hL.2 R hR hs).elim fun q1 q2 => hR4.fin R q1 q2⟩, by omega⟩
       ·(repeat' (first | (simp -implicitDefEqProofs (maxSteps := 1000000) (disch := first | assumption | omega | exact hgA _ | (simp only [ZDI]; omega)) only [*,lenV,Si.slot 43 (by decide),Si.plan 43 (by decide),Si.tya,Si.tyb,rnT_a,rnT_b,rnT_o,Si.same 63 (by decide),Si.same 64 (by decide),Si.same 44 (by decide),G43,Za,Zb,Zc,Zd,Ze,Zf,Zg,Zh,Zi,Zj,Zk,Zl,Zm,Zn,Zo,Ja,Jb,Jc,J6,Jd,Je,rd_m,J7,J8,Jf,Jg,Jh,Ji,Jj,Jk,J9,Jl,Jm,wr_m,Jn,JA,JB,Jo,Jp,Jq,Jr,Js,Jt,Ju,Jv,Jw,Jx,Jy,Jz,J0,J1,J2,J3,J4,J5,reduceCtorEq,JC,JD,JE,JF,JG,JH,JI,JJ]) | ((with_reducible (first | apply Ok.br | apply Ok.gd | apply Ok.ld)) <;> (intro g; (try simp only [ZGS] at g); try (exfalso; omega)))))
        refine Ok.bnd2 (reverse_R hb hG3 (by rw [hR1.sz]; exact hn) (by rw [hR1.sz]; exact hl) (by omega) hR1.to) fun y h3 ⟨G4, e4, hy, hG4, hp4⟩ => ?_
        cases hy
        have hR4 := hR1.perm hn hp4
        obtain ⟨pv, hpv'⟩ : ∃ pv : Nat, (c : Int) - 1 - ((p : Int) - (a : Int)) = (pv : Int) := ⟨c - 1 - (p - a), by omega⟩
        have hpv : a <= pv /\ pv < c := by omega
        clear hp4 hG3 hR1
        (repeat' (first | (simp -implicitDefEqProofs (maxSteps := 1000000) (disch := first | assumption | omega | exact hgA _ | (simp only [ZDI]; omega)) only [*,lenV,Si.slot 43 (by decide),Si.plan 43 (by decide),Si.tya,Si.tyb,rnT_a,rnT_b,rnT_o,Si.same 63 (by decide),Si.same 64 (by decide),Si.same 44 (by decide),G43,Za,Zb,Zc,Zd,Ze,Zf,Zg,Zh,Zi,Zj,Zk,Zl,Zm,Zn,Zo,Ja,Jb,Jc,J6,Jd,Je,rd_m,J7,J8,Jf,Jg,Jh,Ji,Jj,Jk,J9,Jl,Jm,wr_m,Jn,JA,JB,Jo,Jp,Jq,Jr,Js,Jt,Ju,Jv,Jw,Jx,Jy,Jz,J0,J1,J2,J3,J4,J5,reduceCtorEq,JC,JD,JE,JF,JG,JH,JI,JJ]) | ((with_reducible (first | apply Ok.br | apply Ok.gd | apply Ok.ld)) <;> (intro g; (try simp only [ZGS] at g); try (exfalso; omega)))))
        refine Ok.bnd2 (partIns_R hc hS hb hg hG4 (by rw [hR4.sz]; exact hn) (by rw [hR4.sz]; exact hl) (by omega) hR4.to hR4.bel) fun y h3 ⟨G7, e7, r, hy, hG7, hp4, hs4⟩ => ?_
        cases hy
        have hR7 := hR4.perm hn hp4
        cases r with
        | true =>
         (repeat' (first | (simp -implicitDefEqProofs (maxSteps := 1000000) (disch := first | assumption | omega | exact hgA _ | (simp only [ZDI]; omega)) only [*,lenV,Si.slot 43 (by decide),Si.plan 43 (by decide),Si.tya,Si.tyb,rnT_a,rnT_b,rnT_o,Si.same 63 (by decide),Si.same 64 (by decide),Si.same 44 (by decide),G43,Za,Zb,Zc,Zd,Ze,Zf,Zg,Zh,Zi,Zj,Zk,Zl,Zm,Zn,Zo,Ja,Jb,Jc,J6,Jd,Je,rd_m,J7,J8,Jf,Jg,Jh,Ji,Jj,Jk,J9,Jl,Jm,wr_m,Jn,JA,JB,Jo,Jp,Jq,Jr,Js,Jt,Ju,Jv,Jw,Jx,Jy,Jz,J0,J1,J2,J3,J4,J5,reduceCtorEq,JC,JD,JE,JF,JG,JH,JI,JJ]) | ((with_reducible (first | apply Ok.br | apply Ok.gd | apply Ok.ld)) <;> (intro g; (try simp only [ZGS] at g); try (exfalso; omega)))))
         have := hR4.fin e7 hp4 (hs4 rfl)
         exact Turn.ret ⟨rfl, rfl, rfl, e7, hG7, this.1, this.2⟩
        | false =>
         clear hs4 hp4 hG4 hR4
         have hcl := hG7.cells hb
         have hgG := hG7.good hc hg
         have hto := hR7.to
         have hn4 : n <= e7.size := by rw [hR7.sz]; exact hn
         have hl4 : e7.size <= 1000000000 := by rw [hR7.sz]; exact hl
         have hx1 : 0 <= (pv : Int) /\ (pv : Int) < (n : Int) := by have := hR7.to; omega
         have hx2 : pv < e7.size := by omega
         by_cases ha : 0 < a
         ·have ha' : 0 < (a : Int) := by omega
          have e5 : (a : Int) - 1 = ((a - 1 : Nat) : Int) := by omega
          have hx3 : 0 <= ((a - 1 : Nat) : Int) /\ ((a - 1 : Nat) : Int) < (n : Int) := by have := hR7.to; omega
          have hx4 : a - 1 < e7.size := by omega
          by_cases hcm : hc.c e7[a - 1]! e7[pv]! < 0
          ·(repeat' (first | (simp -implicitDefEqProofs (maxSteps := 1000000) (disch := first | assumption | omega | exact hgA _ | (simp only [ZDI]; omega)) only [*,lenV,Si.fl_len,Si.fl_rd,eq_self,hc.run,Si.slot 43 (by decide),Si.plan 43 (by decide),Si.tya,Si.tyb,rnT_a,rnT_b,rnT_o,Si.same 63 (by decide),Si.same 64 (by decide),Si.same 44 (by decide),G43,Za,Zb,Zc,Zd,Ze,Zf,Zg,Zh,Zi,Zj,Zk,Zl,Zm,Zn,Zo,Ja,Jb,Jc,J6,Jd,Je,rd_m,J7,J8,Jf,Jg,Jh,Ji,Jj,Jk,J9,Jl,Jm,wr_m,Jn,JA,JB,Jo,Jp,Jq,Jr,Js,Jt,Ju,Jv,Jw,Jx,Jy,Jz,J0,J1,J2,J3,J4,J5,reduceCtorEq,JC,JD,JE,JF,JG,JH,JI,JJ]) | ((with_reducible (first | apply Ok.br | apply Ok.gd | apply Ok.ld)) <;> (intro g; (try simp only [ZGS] at g); try (exfalso; omega)))))
           refine Ok.bnd2 (part_R hc hS hb hg hG7 hn4 hl4 hpv.1 hpv.2 hR7.to hR7.bel) fun y h3 ⟨G5, e5, mid, ap, hy, hG5, hmid, hsz5, hBl, hBr, hlft, hrgt⟩ => ?_
           cases hy
           by_cases hm : mid - a < c - mid
           ·have hm' : (mid : Int) - (a : Int) < (c : Int) - (mid : Int) := by omega
            (repeat' (first | (simp -implicitDefEqProofs (maxSteps := 1000000) (disch := first | assumption | omega | exact hgA _ | (simp only [ZDI]; omega)) only [*,lenV,Si.slot 43 (by decide),Si.plan 43 (by decide),Si.tya,Si.tyb,rnT_a,rnT_b,rnT_o,Si.same 63 (by decide),Si.same 64 (by decide),Si.same 44 (by decide),G43,Za,Zb,Zc,Zd,Ze,Zf,Zg,Zh,Zi,Zj,Zk,Zl,Zm,Zn,Zo,Ja,Jb,Jc,J6,Jd,Je,rd_m,J7,J8,Jf,Jg,Jh,Ji,Jj,Jk,J9,Jl,Jm,wr_m,Jn,JA,JB,Jo,Jp,Jq,Jr,Js,Jt,Ju,Jv,Jw,Jx,Jy,Jz,J0,J1,J2,J3,J4,J5,reduceCtorEq,JC,JD,JE,JF,JG,JH,JI,JJ]) | ((with_reducible (first | apply Ok.br | apply Ok.gd | apply Ok.ld)) <;> (intro g; (try simp only [ZGS] at g); try (exfalso; omega)))))
            refine Ok.bnd2 (ih (i0 := a) (j0 := mid) hG5 (by omega) (by omega) (by omega) (by omega) hlm hBl) fun y h3 ⟨G6, e6, hy, hG6, hp6, hs6⟩ => ?_
            cases hy
            (repeat' (first | (simp -implicitDefEqProofs (maxSteps := 1000000) (disch := first | assumption | omega | exact hgA _ | (simp only [ZDI]; omega)) only [*,lenV,Si.slot 43 (by decide),Si.plan 43 (by decide),Si.tya,Si.tyb,rnT_a,rnT_b,rnT_o,Si.same 63 (by decide),Si.same 64 (by decide),Si.same 44 (by decide),G43,Za,Zb,Zc,Zd,Ze,Zf,Zg,Zh,Zi,Zj,Zk,Zl,Zm,Zn,Zo,Ja,Jb,Jc,J6,Jd,Je,rd_m,J7,J8,Jf,Jg,Jh,Ji,Jj,Jk,J9,Jl,Jm,wr_m,Jn,JA,JB,Jo,Jp,Jq,Jr,Js,Jt,Ju,Jv,Jw,Jx,Jy,Jz,J0,J1,J2,J3,J4,J5,reduceCtorEq,JC,JD,JE,JF,JG,JH,JI,JJ]) | ((with_reducible (first | apply Ok.br | apply Ok.gd | apply Ok.ld)) <;> (intro g; (try simp only [ZGS] at g); try (exfalso; omega)))))
            have hL := hlft e6 hp6 hs6
            exact Turn.next (c - (mid + 1)) (by omega) ⟨rfl, mid + 1, c, lm, _, ap, e6, _, rfl, hlm, rfl, rfl, rfl, rfl, rfl, rfl, rfl, hG6, ⟨by omega, hto, by rw [hp6.1, hsz5]; exact hR7.sz, hL.1, fun R hR hs => (hL.2 R hR hs).elim fun q1 q2 => hR7.fin R q1 q2⟩, by omega⟩
           ·have hm' : ¬ (mid : Int) - (a : Int) < (c : Int) - (mid : Int) := by omega
            (repeat' (first | (simp -implicitDefEqProofs (maxSteps := 1000000) (disch := first | assumption | omega | exact hgA _ | (simp only [ZDI]; omega)) only [*,lenV,Si.slot 43 (by decide),Si.plan 43 (by decide),Si.tya,Si.tyb,rnT_a,rnT_b,rnT_o,Si.same 63 (by decide),Si.same 64 (by decide),Si.same 44 (by decide),G43,Za,Zb,Zc,Zd,Ze,Zf,Zg,Zh,Zi,Zj,Zk,Zl,Zm,Zn,Zo,Ja,Jb,Jc,J6,Jd,Je,rd_m,J7,J8,Jf,Jg,Jh,Ji,Jj,Jk,J9,Jl,Jm,wr_m,Jn,JA,JB,Jo,Jp,Jq,Jr,Js,Jt,Ju,Jv,Jw,Jx,Jy,Jz,J0,J1,J2,J3,J4,J5,reduceCtorEq,JC,JD,JE,JF,JG,JH,JI,JJ]) | ((with_reducible (first | apply Ok.br | apply Ok.gd | apply Ok.ld)) <;> (intro g; (try simp only [ZGS] at g); try (exfalso; omega)))))
            refine Ok.bnd2 (ih (i0 := mid + 1) (j0 := c) hG5 (by omega) (by omega) (by omega) (by omega) hlm hBr) fun y h3 ⟨G6, e6, hy, hG6, hp6, hs6⟩ => ?_
            cases hy
            (repeat' (first | (simp -implicitDefEqProofs (maxSteps := 1000000) (disch := first | assumption | omega | exact hgA _ | (simp only [ZDI]; omega)) only [*,lenV,Si.slot 43 (by decide),Si.plan 43 (by decide),Si.tya,Si.tyb,rnT_a,rnT_b,rnT_o,Si.same 63 (by decide),Si.same 64 (by decide),Si.same 44 (by decide),G43,Za,Zb,Zc,Zd,Ze,Zf,Zg,Zh,Zi,Zj,Zk,Zl,Zm,Zn,Zo,Ja,Jb,Jc,J6,Jd,Je,rd_m,J7,J8,Jf,Jg,Jh,Ji,Jj,Jk,J9,Jl,Jm,wr_m,Jn,JA,JB,Jo,Jp,Jq,Jr,Js,Jt,Ju,Jv,Jw,Jx,Jy,Jz,J0,J1,J2,J3,J4,J5,reduceCtorEq,JC,JD,JE,JF,JG,JH,JI,JJ]) | ((with_reducible (first | apply Ok.br | apply Ok.gd | apply Ok.ld)) <;> (intro g; (try simp only [ZGS] at g); try (exfalso; omega)))))
            have hL := hrgt e6 hp6 hs6
            exact Turn.next (mid - a) (by omega) ⟨rfl, a, mid, lm, _, ap, e6, _, rfl, hlm, rfl, rfl, rfl, rfl, rfl, rfl, rfl, hG6, ⟨hmid.1, by omega, by rw [hp6.1, hsz5]; exact hR7.sz, hL.1, fun R hR hs => (hL.2 R hR hs).elim fun q1 q2 => hR7.fin R q1 q2⟩, by omega⟩
          ·(repeat' (first | (simp -implicitDefEqProofs (maxSteps := 1000000) (disch := first | assumption | omega | exact hgA _ | (simp only [ZDI]; omega)) only [*,lenV,Si.fl_len,Si.fl_rd,eq_self,hc.run,Si.slot 43 (by decide),Si.plan 43 (by decide),Si.tya,Si.tyb,rnT_a,rnT_b,rnT_o,Si.same 63 (by decide),Si.same 64 (by decide),Si.same 44 (by decide),G43,Za,Zb,Zc,Zd,Ze,Zf,Zg,Zh,Zi,Zj,Zk,Zl,Zm,Zn,Zo,Ja,Jb,Jc,J6,Jd,Je,rd_m,J7,J8,Jf,Jg,Jh,Ji,Jj,Jk,J9,Jl,Jm,wr_m,Jn,JA,JB,Jo,Jp,Jq,Jr,Js,Jt,Ju,Jv,Jw,Jx,Jy,Jz,J0,J1,J2,J3,J4,J5,reduceCtorEq,JC,JD,JE,JF,JG,JH,JI,JJ]) | ((with_reducible (first | apply Ok.br | apply Ok.gd | apply Ok.ld)) <;> (intro g; (try simp only [ZGS] at g); try (exfalso; omega)))))
           refine Ok.bnd2 (partEq_R hc hS hb hg hG7 hn4 hl4 hpv.1 hpv.2 hR7.to ha hR7.bel (by rw [hc.neg]; exact decide_eq_false hcm)) fun y h3 ⟨G5, e5, mid, hy, hG5, hmid, hsz5, hB5, hf5⟩ => ?_
           cases hy
           (repeat' (first | (simp -implicitDefEqProofs (maxSteps := 1000000) (disch := first | assumption | omega | exact hgA _ | (simp only [ZDI]; omega)) only [*,lenV,Si.slot 43 (by decide),Si.plan 43 (by decide),Si.tya,Si.tyb,rnT_a,rnT_b,rnT_o,Si.same 63 (by decide),Si.same 64 (by decide),Si.same 44 (by decide),G43,Za,Zb,Zc,Zd,Ze,Zf,Zg,Zh,Zi,Zj,Zk,Zl,Zm,Zn,Zo,Ja,Jb,Jc,J6,Jd,Je,rd_m,J7,J8,Jf,Jg,Jh,Ji,Jj,Jk,J9,Jl,Jm,wr_m,Jn,JA,JB,Jo,Jp,Jq,Jr,Js,Jt,Ju,Jv,Jw,Jx,Jy,Jz,J0,J1,J2,J3,J4,J5,reduceCtorEq,JC,JD,JE,JF,JG,JH,JI,JJ]) | ((with_reducible (first | apply Ok.br | apply Ok.gd | apply Ok.ld)) <;> (intro g; (try simp only [ZGS] at g); try (exfalso; omega)))))
           exact Turn.next (c - mid) (by omega) ⟨rfl, mid, c, lm, _, true, e5, _, rfl, hlm, rfl, rfl, rfl, rfl, rfl, rfl, rfl, hG5, ⟨hmid.2, hto, by rw [hsz5]; exact hR7.sz, hB5, fun R hR hs => (hf5 R hR hs).elim fun q1 q2 => hR7.fin R q1 q2⟩, by omega⟩
         ·have ha' : ¬ 0 < (a : Int) := by omega
          (repeat' (first | (simp -implicitDefEqProofs (maxSteps := 1000000) (disch := first | assumption | omega | exact hgA _ | (simp only [ZDI]; omega)) only [*,lenV,Si.fl_len,Si.fl_rd,eq_self,hc.run,Si.slot 43 (by decide),Si.plan 43 (by decide),Si.tya,Si.tyb,rnT_a,rnT_b,rnT_o,Si.same 63 (by decide),Si.same 64 (by decide),Si.same 44 (by decide),G43,Za,Zb,Zc,Zd,Ze,Zf,Zg,Zh,Zi,Zj,Zk,Zl,Zm,Zn,Zo,Ja,Jb,Jc,J6,Jd,Je,rd_m,J7,J8,Jf,Jg,Jh,Ji,Jj,Jk,J9,Jl,Jm,wr_m,Jn,JA,JB,Jo,Jp,Jq,Jr,Js,Jt,Ju,Jv,Jw,Jx,Jy,Jz,J0,J1,J2,J3,J4,J5,reduceCtorEq,JC,JD,JE,JF,JG,JH,JI,JJ]) | ((with_reducible (first | apply Ok.br | apply Ok.gd | apply Ok.ld)) <;> (intro g; (try simp only [ZGS] at g); try (exfalso; omega)))))
          refine Ok.bnd2 (part_R hc hS hb hg hG7 hn4 hl4 hpv.1 hpv.2 hR7.to hR7.bel) fun y h3 ⟨G5, e5, mid, ap, hy, hG5, hmid, hsz5, hBl, hBr, hlft, hrgt⟩ => ?_
          cases hy
          by_cases hm : mid - a < c - mid
          ·have hm' : (mid : Int) - (a : Int) < (c : Int) - (mid : Int) := by omega
           (repeat' (first | (simp -implicitDefEqProofs (maxSteps := 1000000) (disch := first | assumption | omega | exact hgA _ | (simp only [ZDI]; omega)) only [*,lenV,Si.slot 43 (by decide),Si.plan 43 (by decide),Si.tya,Si.tyb,rnT_a,rnT_b,rnT_o,Si.same 63 (by decide),Si.same 64 (by decide),Si.same 44 (by decide),G43,Za,Zb,Zc,Zd,Ze,Zf,Zg,Zh,Zi,Zj,Zk,Zl,Zm,Zn,Zo,Ja,Jb,Jc,J6,Jd,Je,rd_m,J7,J8,Jf,Jg,Jh,Ji,Jj,Jk,J9,Jl,Jm,wr_m,Jn,JA,JB,Jo,Jp,Jq,Jr,Js,Jt,Ju,Jv,Jw,Jx,Jy,Jz,J0,J1,J2,J3,J4,J5,reduceCtorEq,JC,JD,JE,JF,JG,JH,JI,JJ]) | ((with_reducible (first | apply Ok.br | apply Ok.gd | apply Ok.ld)) <;> (intro g; (try simp only [ZGS] at g); try (exfalso; omega)))))
           refine Ok.bnd2 (ih (i0 := a) (j0 := mid) hG5 (by omega) (by omega) (by omega) (by omega) hlm hBl) fun y h3 ⟨G6, e6, hy, hG6, hp6, hs6⟩ => ?_
           cases hy
           (repeat' (first | (simp -implicitDefEqProofs (maxSteps := 1000000) (disch := first | assumption | omega | exact hgA _ | (simp only [ZDI]; omega)) only [*,lenV,Si.slot 43 (by decide),Si.plan 43 (by decide),Si.tya,Si.tyb,rnT_a,rnT_b,rnT_o,Si.same 63 (by decide),Si.same 64 (by decide),Si.same 44 (by decide),G43,Za,Zb,Zc,Zd,Ze,Zf,Zg,Zh,Zi,Zj,Zk,Zl,Zm,Zn,Zo,Ja,Jb,Jc,J6,Jd,Je,rd_m,J7,J8,Jf,Jg,Jh,Ji,Jj,Jk,J9,Jl,Jm,wr_m,Jn,JA,JB,Jo,Jp,Jq,Jr,Js,Jt,Ju,Jv,Jw,Jx,Jy,Jz,J0,J1,J2,J3,J4,J5,reduceCtorEq,JC,JD,JE,JF,JG,JH,JI,JJ]) | ((with_reducible (first | apply Ok.br | apply Ok.gd | apply Ok.ld)) <;> (intro g; (try simp only [ZGS] at g); try (exfalso; omega)))))
           have hL := hlft e6 hp6 hs6
           exact Turn.next (c - (mid + 1)) (by omega) ⟨rfl, mid + 1, c, lm, _, ap, e6, _, rfl, hlm, rfl, rfl, rfl, rfl, rfl, rfl, rfl, hG6, ⟨by omega, hto, by rw [hp6.1, hsz5]; exact hR7.sz, hL.1, fun R hR hs => (hL.2 R hR hs).elim fun q1 q2 => hR7.fin R q1 q2⟩, by omega⟩
          ·have hm' : ¬ (mid : Int) - (a : Int) < (c : Int) - (mid : Int) := by omega
           (repeat' (first | (simp -implicitDefEqProofs (maxSteps := 1000000) (disch := first | assumption | omega | exact hgA _ | (simp only [ZDI]; omega)) only [*,lenV,Si.slot 43 (by decide),Si.plan 43 (by decide),Si.tya,Si.tyb,rnT_a,rnT_b,rnT_o,Si.same 63 (by decide),Si.same 64 (by decide),Si.same 44 (by decide),G43,Za,Zb,Zc,Zd,Ze,Zf,Zg,Zh,Zi,Zj,Zk,Zl,Zm,Zn,Zo,Ja,Jb,Jc,J6,Jd,Je,rd_m,J7,J8,Jf,Jg,Jh,Ji,Jj,Jk,J9,Jl,Jm,wr_m,Jn,JA,JB,Jo,Jp,Jq,Jr,Js,Jt,Ju,Jv,Jw,Jx,Jy,Jz,J0,J1,J2,J3,J4,J5,reduceCtorEq,JC,JD,JE,JF,JG,JH,JI,JJ]) | ((with_reducible (first | apply Ok.br | apply Ok.gd | apply Ok.ld)) <;> (intro g; (try simp only [ZGS] at g); try (exfalso; omega)))))
           refine Ok.bnd2 (ih (i0 := mid + 1) (j0 := c) hG5 (by omega) (by omega) (by omega) (by omega) hlm hBr) fun y h3 ⟨G6, e6, hy, hG6, hp6, hs6⟩ => ?_
           cases hy
           (repeat' (first | (simp -implicitDefEqProofs (maxSteps := 1000000) (disch := first | assumption | omega | exact hgA _ | (simp only [ZDI]; omega)) only [*,lenV,Si.slot 43 (by decide),Si.plan 43 (by decide),Si.tya,Si.tyb,rnT_a,rnT_b,rnT_o,Si.same 63 (by decide),Si.same 64 (by decide),Si.same 44 (by decide),G43,Za,Zb,Zc,Zd,Ze,Zf,Zg,Zh,Zi,Zj,Zk,Zl,Zm,Zn,Zo,Ja,Jb,Jc,J6,Jd,Je,rd_m,J7,J8,Jf,Jg,Jh,Ji,Jj,Jk,J9,Jl,Jm,wr_m,Jn,JA,JB,Jo,Jp,Jq,Jr,Js,Jt,Ju,Jv,Jw,Jx,Jy,Jz,J0,J1,J2,J3,J4,J5,reduceCtorEq,JC,JD,JE,JF,JG,JH,JI,JJ]) | ((with_reducible (first | apply Ok.br | apply Ok.gd | apply Ok.ld)) <;> (intro g; (try simp only [ZGS] at g); try (exfalso; omega)))))
           have hL := hrgt e6 hp6 hs6
           exact Turn.next (mid - a) (by omega) ⟨rfl, a, mid, lm, _, ap, e6, _, rfl, hlm, rfl, rfl, rfl, rfl, rfl, rfl, rfl, hG6, ⟨hmid.1, by omega, by rw [hp6.1, hsz5]; exact hR7.sz, hL.1, fun R hR hs => (hL.2 R hR hs).elim fun q1 q2 => hR7.fin R q1 q2⟩, by omega⟩
  ·intro x ⟨e', l', H'⟩ hW ⟨hx, k2, e, k3, hp, hs⟩
   dsimp only at hW k2 k3
   subst l' hx
   rw [hW.spread]
   clear hW
   simp only [spread_t,spread_f,spread_n,Nat.zero_add,Nat.reduceAdd]
   (repeat' (first | (simp -implicitDefEqProofs (maxSteps := 1000000) (disch := first | assumption | omega | exact hgA _ | (simp only [ZDI]; omega)) only [*,Si.slot 43 (by decide),Si.plan 43 (by decide),Si.tya,Si.tyb,rnT_a,rnT_b,rnT_o,Si.same 63 (by decide),Si.same 64 (by decide),Si.same 44 (by decide),G43,Za,Zb,Zc,Zd,Ze,Zf,Zg,Zh,Zi,Zj,Zk,Zl,Zm,Zn,Zo,Ja,Jb,Jc,J6,Jd,Je,rd_m,J7,J8,Jf,Jg,Jh,Ji,Jj,Jk,J9,Jl,Jm,wr_m,Jn,JA,JB,Jo,Jp,Jq,Jr,Js,Jt,Ju,Jv,Jw,Jx,Jy,Jz,J0,J1,J2,J3,J4,J5,reduceCtorEq,JC,JD,JE,JF,JG,JH,JI,JJ]) | ((with_reducible (first | apply Ok.br | apply Ok.gd | apply Ok.ld)) <;> (intro g; (try simp only [ZGS] at g); try (exfalso; omega)))))
   exact hQ'.out _ ⟨_, e, rfl, k3, hp, hs⟩
end Go.Ev
set_option maxRecDepth 100000
namespace Go.Ev
open Go.Ev renaming exPure -> Ja, ofValue -> Jb, cellsV -> Jc, load -> Jd, store -> Je, binOp -> Jf, intOp -> Jg, rdV -> Jh, vsame -> Ji, vsames -> Jj, makeSliceV -> Jk, resV -> Jl, isCell -> Jm, nilCheckV -> Jn, allV -> Jo, builtinV -> Jp, lenV -> Jq, indexAddrV -> Jr, unOp -> Js, minmaxV -> Jt, minmax -> Ju, sliceV -> Jv, asInt -> Jw, appendV -> Jx, forkB -> Jy, roY -> Jz, rwB -> J0, copyV -> J1, clearV -> J2, convV -> J3, sliceCells -> J4, shift -> J5
open Bool renaming true -> BT, false -> BF
open Nat renaming reduceEqDiff -> J6, reduceLT -> J7, reduceAdd -> J8, reduceBEq -> J9, reduceSub -> JA, reduceMul -> JB, reduceLeDiff -> JJ
open Int renaming reduceLT -> JC, reduceLE -> JD, reduceAdd -> JE, reduceSub -> JF, reduceNeg -> JG, reduceToNat -> JH, reduceEq -> JI
open Go.Proofs Go.Sort
theorem permIn_perm {α : Type} [Inhabited α] {n : Nat} {d e : Array α} (hn : d.size = n) (h : PermIn 0 n d e) : e.toList.Perm d.toList := by
 obtain ⟨h1, _, h3⟩ := h
 rw [<- hn] at h3
 rw [Array.extract_size] at h3
 rw [<- h1, Array.extract_size] at h3
 exact h3
theorem sortedIn_pw {α : Type} [Inhabited α] {lt : α -> α -> Bool} {n : Nat} {d : Array α} (hn : d.size = n) (h : SortedIn lt 0 n d) : d.toList.Pairwise (fun x y => lt y x = false) := by
 rw [List.pairwise_iff_getElem]
 intro i j hi hj hij
 simp only [Array.length_toList] at hi hj
 have := h i j (Nat.zero_le _) hij (by omega)
 rw [getElem!_pos d i hi, getElem!_pos d j hj] at this
 simpa using this
theorem sortN_at {α : Type} [Inhabited α] {val : α -> Nat} {fv : V} {lt : α -> α -> Bool} {G : Heap} {b g n0 n cap z : Nat} {d : Array α} (hc : Cmp (intSI α val) fv lt b n0) (hg : hc.good G) (hS : SWO lt)
  (hG : hcells G b g = some (true, (intSI α val).fl d)) (hn : d.size = n) (hl : n <= 1000000) :
  Ev.Ok (D X (.fn 60 []) [.sl (.at b g 0) n cap z, fv] G) fun y => ∃ l d2, y = (.tup [], (intSI α val).hs (G ++ l) b g d2) /\ d2.toList.Perm d.toList /\ d2.toList.Pairwise (fun x y => lt y x = false) := by
 refine Ok.aim fun Q hQ => ?_
 have hQ' := Hid.mk hQ
 clear hQ
 have hb := hcells_lt hG
 have hA : At (intSI α val) G b g d G := ⟨[], by unfold SI.hs; rw [List.append_nil]; exact (set_same' hG).symm⟩
 have hw : IntKind.u64.wrap (n : Int) = n := u64_nat (by omega)
 (refine Ok.body body60 pin60 ?_; simp only [c60,Try.f60,Option.getD_some,nslot60,List.append_nil,List.map,List.replicate,List.length_cons,List.length_nil,Nat.reduceAdd,Nat.reduceSub,List.cons_append,List.nil_append])
 (repeat' (first | (simp -implicitDefEqProofs (maxSteps := 1000000) (disch := first | assumption | omega | (simp only [ZDI]; omega)) only [*,lenV,G60,Za,Zb,Zc,Zd,Ze,Zf,Zg,Zh,Zi,Zj,Zk,Zl,Zm,Zn,Zo,Ja,Jb,Jc,J6,Jd,Je,rd,J7,J8,Jf,Jg,Jh,Ji,Jj,Jk,J9,Jl,Jm,wr,Jn,JA,JB,Jo,Jp,Jq,Jr,Js,Jt,Ju,Jv,Jw,Jx,Jy,Jz,J0,J1,J2,J3,J4,J5,reduceCtorEq,JC,JD,JE,JF,JG,JH,JI,JJ]) | ((with_reducible (first | apply Ok.br | apply Ok.gd | apply Ok.ld)) <;> (intro g; (try simp only [ZGS] at g); try (exfalso; omega)))))
 refine Ok.bnd2 (len_at (by omega) G) fun y h3 ⟨L, hy, hL⟩ => ?_
 cases hy
 obtain ⟨k, rfl⟩ : ∃ k : Nat, L = k := ⟨L.toNat, by have := hL.1; omega⟩
 have hk : k <= 1000 := by have := hL.2.1; omega
 clear hL
 (repeat' (first | (simp -implicitDefEqProofs (maxSteps := 1000000) (disch := first | assumption | omega | (simp only [ZDI]; omega)) only [*,lenV,G60,Za,Zb,Zc,Zd,Ze,Zf,Zg,Zh,Zi,Zj,Zk,Zl,Zm,Zn,Zo,Ja,Jb,Jc,J6,Jd,Je,rd,J7,J8,Jf,Jg,Jh,Ji,Jj,Jk,J9,Jl,Jm,wr,Jn,JA,JB,Jo,Jp,Jq,Jr,Js,Jt,Ju,Jv,Jw,Jx,Jy,Jz,J0,J1,J2,J3,J4,J5,reduceCtorEq,JC,JD,JE,JF,JG,JH,JI,JJ]) | ((with_reducible (first | apply Ok.br | apply Ok.gd | apply Ok.ld)) <;> (intro g; (try simp only [ZGS] at g); try (exfalso; omega)))))
 have hp := pdq_R hc hS hb hg n (n := n) (cap := cap) (z := z) (i0 := 0) (j0 := n) (lm := k) hA (by omega) (by omega) (by omega) ⟨by omega, Nat.le_refl _⟩ hk (.inl rfl)
 rw [show (intSI α val).f 43 = 67 from rfl] at hp
 refine Ok.bnd2 hp fun y h3 ⟨G2, d2, hy, ⟨l, hG2⟩, hp, hs⟩ => ?_
 cases hy
 subst hG2
 have hs2 : d2.size = n := by rw [hp.1, hn]
 (repeat' (first | (simp -implicitDefEqProofs (maxSteps := 1000000) (disch := first | assumption | omega | (simp only [ZDI]; omega)) only [*,lenV,G60,Za,Zb,Zc,Zd,Ze,Zf,Zg,Zh,Zi,Zj,Zk,Zl,Zm,Zn,Zo,Ja,Jb,Jc,J6,Jd,Je,rd,J7,J8,Jf,Jg,Jh,Ji,Jj,Jk,J9,Jl,Jm,wr,Jn,JA,JB,Jo,Jp,Jq,Jr,Js,Jt,Ju,Jv,Jw,Jx,Jy,Jz,J0,J1,J2,J3,J4,J5,reduceCtorEq,JC,JD,JE,JF,JG,JH,JI,JJ]) | ((with_reducible (first | apply Ok.br | apply Ok.gd | apply Ok.ld)) <;> (intro g; (try simp only [ZGS] at g); try (exfalso; omega)))))
 exact hQ'.out _ ⟨l, d2, rfl, permIn_perm hn hp, sortedIn_pw hs2 hs⟩
theorem fl_ofN {α : Type} (val : α -> Nat) (d : Array α) : (intSI α val).fl d = ofN (d.toList.map val) := by
 unfold SI.fl SI.flL ofN intSI
 induction d.toList with
 | nil => rfl
 | cons x l ih => simp only [List.map_cons,List.flatten_cons,ih]; rfl
theorem index_at {h : Heap} {v : V} {l : List Nat} (hr : NatsAt h v l) {k a : Nat} (hk : l[k]? = some a) (hf : ∀ j, j < k -> l[j]? ≠ some a) :
  D X (.fn 58 []) [v, .int .i64 a] h = some (.int .i64 k, h) := by
 refine Ok.eq ?_
 refine Ok.aim fun Q hQ => ?_
 have hQ' := Hid.mk hQ
 clear hQ
 obtain ⟨va, cap, z, rfl, h1, h2⟩ := hr
 have hkl := (List.getElem?_eq_some_iff.1 hk).1
 rcases h2 with rfl | ⟨b, q, o, rw, full, rfl, hb, hfull⟩
 ·simp at hkl
 have hk' := Hid.mk hk
 have hf' := Hid.mk hf
 clear hk hf
 (refine Ok.body body58 pin58 ?_; simp only [c58,Try.f58,Option.getD_some,nslot58,List.append_nil,List.map,List.replicate,List.length_cons,List.length_nil,Nat.reduceAdd,Nat.reduceSub,List.cons_append,List.nil_append])
 (repeat' (first | (simp -implicitDefEqProofs (maxSteps := 1000000) (disch := first | assumption | omega | (simp only [ZDI]; omega)) only [*,lenV,G58,Za,Zb,Zc,Zd,Ze,Zf,Zg,Zh,Zi,Zj,Zk,Zl,Zm,Zn,Zo,Ja,Jb,Jc,J6,Jd,Je,rd,J7,J8,Jf,Jg,Jh,Ji,Jj,Jk,J9,Jl,Jm,wr,Jn,JA,JB,Jo,Jp,Jq,Jr,Js,Jt,Ju,Jv,Jw,Jx,Jy,Jz,J0,J1,J2,J3,J4,J5,reduceCtorEq,JC,JD,JE,JF,JG,JH,JI,JJ]) | ((with_reducible (first | apply Ok.br | apply Ok.gd | apply Ok.ld)) <;> (intro g; (try simp only [ZGS] at g); try (exfalso; omega)))))
 refine Ok.loop [BF, BF, BF, BF, BT, BT, BF, BF, BT, BT, BT, BT, BT, BT, BT, BT, BT, BT, BT] (fun m s2 => ∃ (i : Nat), m = k - i /\ i <= k /\ tv s2.e 8 = .v (.int .i64 i) /\ s2.l = [] /\ s2.h = h)
  (fun y s2 => y = .ret /\ tv s2.e 4 = .v (.int .i64 k) /\ s2.l = [] /\ s2.h = h) (k - 0) ⟨0, rfl, Nat.zero_le _, rfl, rfl, rfl⟩ ?_ ?_
 ·intro m ⟨e', l', g⟩ hW ⟨i, hm, hi, h8, k2, k3⟩
  dsimp only at hW h8 k2 k3
  subst l' g
  rw [hW.spread]
  simp only [spread_t,spread_f,spread_n,Nat.zero_add,Nat.reduceAdd,h8]
  clear hW hQ'
  have hlt' : (i : Int) < (l.length : Int) := by omega
  have g1 : 0 <= (i : Int) /\ (i : Int) < (l.length : Int) := by omega
  obtain ⟨y, hy⟩ : ∃ y, l[i]? = some y := ⟨_, List.getElem?_eq_getElem (by omega)⟩
  have hfy := hfull i y hy
  by_cases e : i = k
  ·have ey : a = y := by rw [e, hk'.out] at hy; exact Option.some.inj hy
   have eya : (a : Int) = (y : Int) := by omega
   clear hy hfull
   subst e ey
   clear eya
   have eya : (a : Int) = (a : Int) := rfl
   (repeat' (first | (simp -implicitDefEqProofs (maxSteps := 1000000) (disch := first | assumption | omega | (simp only [ZDI]; omega)) only [*,lenV,G58,Za,Zb,Zc,Zd,Ze,Zf,Zg,Zh,Zi,Zj,Zk,Zl,Zm,Zn,Zo,Ja,Jb,Jc,J6,Jd,Je,rd,J7,J8,Jf,Jg,Jh,Ji,Jj,Jk,J9,Jl,Jm,wr,Jn,JA,JB,Jo,Jp,Jq,Jr,Js,Jt,Ju,Jv,Jw,Jx,Jy,Jz,J0,J1,J2,J3,J4,J5,reduceCtorEq,JC,JD,JE,JF,JG,JH,JI,JJ]) | ((with_reducible (first | apply Ok.br | apply Ok.gd | apply Ok.ld)) <;> (intro g; (try simp only [ZGS] at g); try (exfalso; omega)))))
   exact Turn.ret ⟨rfl, rfl, rfl, rfl, rfl⟩
  ·have ney : ¬ (a : Int) = (y : Int) := fun e2 => hf'.out i (by omega) (by rw [hy]; congr 1; omega)
   have hy' := Hid.mk hy
   clear hy hfull
   (repeat' (first | (simp -implicitDefEqProofs (maxSteps := 1000000) (disch := first | assumption | omega | (simp only [ZDI]; omega)) only [*,lenV,G58,Za,Zb,Zc,Zd,Ze,Zf,Zg,Zh,Zi,Zj,Zk,Zl,Zm,Zn,Zo,Ja,Jb,Jc,J6,Jd,Je,rd,J7,J8,Jf,Jg,Jh,Ji,Jj,Jk,J9,Jl,Jm,wr,Jn,JA,JB,Jo,Jp,Jq,Jr,Js,Jt,Ju,Jv,Jw,Jx,Jy,Jz,J0,J1,J2,J3,J4,J5,reduceCtorEq,JC,JD,JE,JF,JG,JH,JI,JJ]) | ((with_reducible (first | apply Ok.br | apply Ok.gd | apply Ok.ld)) <;> (intro g; (try simp only [ZGS] at g); try (exfalso; omega)))))
   exact Turn.next (k - (i + 1)) (by omega) ⟨rfl, i + 1, rfl, by omega, rfl, rfl, rfl⟩
 ·intro y ⟨e', l', g⟩ hW ⟨hy, h4, k2, k3⟩
  dsimp only at hW h4 k2 k3
  subst l' g hy
  rw [hW.spread]
  clear hW
  simp only [spread_t,spread_f,spread_n,Nat.zero_add,Nat.reduceAdd,h4]
  (repeat' (first | (simp -implicitDefEqProofs (maxSteps := 1000000) (disch := first | assumption | omega | (simp only [ZDI]; omega)) only [*,lenV,G58,Za,Zb,Zc,Zd,Ze,Zf,Zg,Zh,Zi,Zj,Zk,Zl,Zm,Zn,Zo,Ja,Jb,Jc,J6,Jd,Je,rd,J7,J8,Jf,Jg,Jh,Ji,Jj,Jk,J9,Jl,Jm,wr,Jn,JA,JB,Jo,Jp,Jq,Jr,Js,Jt,Ju,Jv,Jw,Jx,Jy,Jz,J0,J1,J2,J3,J4,J5,reduceCtorEq,JC,JD,JE,JF,JG,JH,JI,JJ]) | ((with_reducible (first | apply Ok.br | apply Ok.gd | apply Ok.ld)) <;> (intro g; (try simp only [ZGS] at g); try (exfalso; omega)))))
  exact hQ'.out _ rfl
theorem cloneI_at {h : Heap} {b g o n cap z : Nat} {rw : Bool} {full : List V} (hb : hcells h b g = some (rw, full)) (hn : 0 < n) (hl : n <= 100000000) (ho : o + n <= full.length) :
  D X (.fn 59 []) [.sl (.at b g o) n cap z] h = some (.sl (.at (h.length + 1) 0 0) n n 1, h ++ [.cells 0 true [], .cells 0 true ((full.drop o).take n)]) := by
 refine Ok.eq ?_
 have h0 : ¬ n = 0 := by omega
 have h1 : ¬ n <= 0 := by omega
 have hbl := hcells_lt hb
 have h2 : n * 8 <= 35184372088832 /\ n <= 35184372088832 := by omega
 (refine Ok.body body59 pin59 ?_; simp only [c59,Try.f59,Option.getD_some,nslot59,List.append_nil,List.map,List.replicate,List.length_cons,List.length_nil,Nat.reduceAdd,Nat.reduceSub,List.cons_append,List.nil_append])
 (repeat' (first | (simp -implicitDefEqProofs (maxSteps := 1000000) (disch := first | assumption | omega | (simp only [ZDI]; omega)) only [*,lenV,appendV,sliceCells,newBlk,Nat.zero_add,Nat.mul_one,G59,Za,Zb,Zc,Zd,Ze,Zf,Zg,Zh,Zi,Zj,Zk,Zl,Zm,Zn,Zo,Ja,Jb,Jc,J6,Jd,Je,rd,J7,J8,Jf,Jg,Jh,Ji,Jj,Jk,J9,Jl,Jm,wr,Jn,JA,JB,Jo,Jp,Jq,Jr,Js,Jt,Ju,Jv,Jw,Jx,Jy,Jz,J0,J1,J2,J3,J4,J5,reduceCtorEq,JC,JD,JE,JF,JG,JH,JI,JJ]) | ((with_reducible (first | apply Ok.br | apply Ok.gd | apply Ok.ld)) <;> (intro g; (try simp only [ZGS] at g); try (exfalso; omega)))))
end Go.Ev
set_option maxRecDepth 100000
namespace Go.Ev
open Go.Ev renaming exPure -> Ja, ofValue -> Jb, cellsV -> Jc, load -> Jd, store -> Je, binOp -> Jf, intOp -> Jg, rdV -> Jh, vsame -> Ji, vsames -> Jj, makeSliceV -> Jk, resV -> Jl, isCell -> Jm, nilCheckV -> Jn, allV -> Jo, builtinV -> Jp, lenV -> Jq, indexAddrV -> Jr, unOp -> Js, minmaxV -> Jt, minmax -> Ju, sliceV -> Jv, asInt -> Jw, appendV -> Jx, forkB -> Jy, roY -> Jz, rwB -> J0, copyV -> J1, clearV -> J2, convV -> J3, sliceCells -> J4, shift -> J5
open Bool renaming true -> BT, false -> BF
open Nat renaming reduceEqDiff -> J6, reduceLT -> J7, reduceAdd -> J8, reduceBEq -> J9, reduceSub -> JA, reduceMul -> JB, reduceLeDiff -> JJ
open Int renaming reduceLT -> JC, reduceLE -> JD, reduceAdd -> JE, reduceSub -> JF, reduceNeg -> JG, reduceToNat -> JH, reduceEq -> JI
open Go.Proofs Go.Sort
theorem ahead_swo (S : NS) (N : Nat) : SWO (fun x y : Fin N => aheadB S x.val y.val) where
 irrefl x := by unfold aheadB ltR; simp
 trans x y z := by
  unfold aheadB ltR
  generalize S.q x.val = a1; generalize S.q y.val = b1; generalize S.q z.val = c1
  generalize S.l x.val = a2; generalize S.l y.val = b2; generalize S.l z.val = c2
  generalize S.i x.val = a3; generalize S.i y.val = b3; generalize S.i z.val = c3
  split <;> split <;> split <;> simp <;> omega
 ntrans x y z := by
  unfold aheadB ltR
  generalize S.q x.val = a1; generalize S.q y.val = b1; generalize S.q z.val = c1
  generalize S.l x.val = a2; generalize S.l y.val = b2; generalize S.l z.val = c2
  generalize S.i x.val = a3; generalize S.i y.val = b3; generalize S.i z.val = c3
  split <;> split <;> split <;> simp <;> omega
structure NetAt (H : Heap) (nb b g N : Nat) (S : NS) (mt lw : Nat -> Nat) (cp : Nat -> Option Nat) (mv cv : V) : Prop where
 net : hcells H nb 0 = some (true, [.sl (.at b g 0) N N 7, mv, cv])
 nodes : hcells H b g = some (true, nfl N S mt lw cp)
 ne : nb ≠ b
theorem NetAt.keep {F : List Nat} {H H' : Heap} {nb b g N : Nat} {S : NS} {mt lw : Nat -> Nat} {cp : Nat -> Option Nat} {mv cv : V} (h : NetAt H nb b g N S mt lw cp mv cv) (k : Keeps F H H') (h1 : nb ∉ F) (h2 : b ∉ F) : NetAt H' nb b g N S mt lw cp mv cv :=
 ⟨k.cells h.net h1, k.cells h.nodes h2, h.ne⟩
def netCmp {pb nb b g N B n0 : Nat} {S : NS} {mt lw : Nat -> Nat} {cp : Nat -> Option Nat} {mv cv : V} (h1 : pb < n0) (h2 : nb < n0) (h3 : b < n0) (e1 : pb ≠ B) (e2 : nb ≠ B) (e3 : b ≠ B) :
  Cmp (intSI (Fin N) Fin.val) (.fn 61 [.ptr pb 0 0]) (fun x y => aheadB S x.val y.val) B n0 where
 c x y := ord (aheadB S x.val y.val) (aheadB S y.val x.val)
 good H := hcells H pb 0 = some (true, [.ptr nb 0 0]) /\ NetAt H nb b g N S mt lw cp mv cv /\ n0 <= H.length
 run x y H hg := by
  obtain ⟨hp, hn, _⟩ := hg
  have hnet := hn.net
  have a1 := ahead_at hn.nodes x.isLt y.isLt
  have a2 := ahead_at hn.nodes y.isLt x.isLt
  have a3 := order3_at (aheadB S x.val y.val) (aheadB S y.val x.val) H
  have i1 : 0 <= (x.val : Int) /\ (x.val : Int) < (N : Int) := by have := x.isLt; omega
  have i2 : 0 <= (y.val : Int) /\ (y.val : Int) < (N : Int) := by have := y.isLt; omega
  refine Ok.eq ?_
  simp only [intSI]
  (refine Ok.body body61 pin61 ?_; simp only [c61,Try.f61,Option.getD_some,nslot61,List.append_nil,List.map,List.replicate,List.length_cons,List.length_nil,Nat.reduceAdd,Nat.reduceSub,List.cons_append,List.nil_append])
  (repeat' (first | (simp -implicitDefEqProofs (maxSteps := 1000000) (disch := first | assumption | omega | (simp only [ZDI]; omega)) only [*,lenV,G61,Za,Zb,Zc,Zd,Ze,Zf,Zg,Zh,Zi,Zj,Zk,Zl,Zm,Zn,Zo,Ja,Jb,Jc,J6,Jd,Je,rd,J7,J8,Jf,Jg,Jh,Ji,Jj,Jk,J9,Jl,Jm,wr,Jn,JA,JB,Jo,Jp,Jq,Jr,Js,Jt,Ju,Jv,Jw,Jx,Jy,Jz,J0,J1,J2,J3,J4,J5,reduceCtorEq,JC,JD,JE,JF,JG,JH,JI,JJ]) | ((with_reducible (first | apply Ok.br | apply Ok.gd | apply Ok.ld)) <;> (intro g; (try simp only [ZGS] at g); try (exfalso; omega)))))
 neg x y := ord_neg _ _
 gset H i x hg hi := by
  obtain ⟨hp, hn, hl⟩ := hg
  have k : Keeps [B, i] H (H.set i x) := (Keeps.refl _ _).set (.inl (by simp)) x
  refine ⟨?_, ⟨?_, ?_, hn.ne⟩, by rw [List.length_set]; exact hl⟩
  ·rw [hcells_set_ne (by omega)]; exact hp
  ·rw [hcells_set_ne (by omega)]; exact hn.net
  ·rw [hcells_set_ne (by omega)]; exact hn.nodes
 gapp H l hg := by
  obtain ⟨hp, hn, hl⟩ := hg
  exact ⟨by rw [hcells_app (hcells_lt hp)]; exact hp, ⟨by rw [hcells_app (hcells_lt hn.net)]; exact hn.net, by rw [hcells_app (hcells_lt hn.nodes)]; exact hn.nodes, hn.ne⟩, by rw [List.length_append]; omega⟩
 glen H hg := hg.2.2
theorem pmap_val {N : Nat} : ∀ (l : List Nat) (h : ∀ x ∈ l, x < N), (l.pmap Fin.mk h).map Fin.val = l
 | [], _ => rfl
 | x :: l, h => by simp only [List.pmap_cons,List.map_cons]; rw [pmap_val l]
def setC (cp : Nat -> Option Nat) (l : List Nat) (c : Nat) : Nat -> Option Nat := fun u => if u ∈ l then some c else cp u
theorem setC_nil (cp : Nat -> Option Nat) (c : Nat) : setC cp [] c = cp := by funext u; simp [setC]
theorem setC_step {cp : Nat -> Option Nat} {l : List Nat} {i x c : Nat} (h : l[i]? = some x) : upd (setC cp (l.take i) c) x (some c) = setC cp (l.take (i + 1)) c := by
 funext u
 rw [List.take_add_one, h]
 by_cases e : u = x
 ·rw [e, upd_eq]; simp [setC]
 ·rw [upd_ne _ _ e]; simp [setC, e]
set_option maxHeartbeats 8000000 in
theorem close_at {H : Heap} {nb b g N : Nat} {S : NS} {mt lw : Nat -> Nat} {cp : Nat -> Option Nat} {mv cv : V} {ob og n cap k a m : Nat} {O : List Nat} {cl : List V}
  (hnet : NetAt H nb b g N S mt lw cp mv cv) (hO : VecAt H (.sl (.at ob og 0) n cap 1) 1 n (ofN O)) (hn : O.length = n) (hk : O[k]? = some a) (hf : ∀ j, j < k -> O[j]? ≠ some a) (hlt : ∀ x ∈ O, x < N)
  (hcv : VecAt H cv 1 m cl) (hm : m < 1000000) (hn2 : n <= 1000000) (c1 : nb ∉ own cv) (c2 : b ∉ own cv) (c3 : ob ∉ own cv) (o1 : ob ≠ nb) (o2 : ob ≠ b) :
  Ev.Ok (D X (.fn 45 []) [.ptr nb 0 0, .int .i64 a, .sl (.at ob og 0) n cap 1] H) fun y => ∃ H' cv' v' c', y = (.sl (.at ob og 0) k cap 1, H') /\ Keeps ([b, nb] ++ own cv) H H' /\ NetAt H' nb b g N S mt lw (setC cp (O.drop k) m) mv cv' /\
   VecAt H' cv' 1 (m + 1) (cl ++ [v']) /\ NatsAt H' v' c' /\ (∀ x ∈ own v', H.length <= x /\ x ∉ own cv') /\ (∀ x ∈ own cv', x ∈ own cv \/ H.length <= x) /\ c'.Perm (O.drop k) /\ c'.Pairwise (fun x y => aheadB S y x = false) := by
 refine Ok.aim fun Q hQ => ?_
 have hQ' := Hid.mk hQ
 clear hQ
 have hkl := (List.getElem?_eq_some_iff.1 hk).1
 obtain ⟨ob', og', cap', full, e0, hob, hfl, hcap, hcap2, hfo⟩ := hO.at (by omega)
 cases e0
 have hfl' : full.length = cap := by omega
 have hn1 : NatsAt (H ++ [.cells 0 true [.ptr nb 0 0]]) (.sl (.at ob og 0) n cap 1) O := by
  have := VecAt.nats (l := O) (by rw [hn]; exact hO)
  exact this.keep (Keeps.app [] H _) (by simp)
 have hix := index_at hn1 hk hf
 have hobl := hcells_lt hob
 obtain ⟨d, hd⟩ : ∃ d, n - k = d := ⟨_, rfl⟩
 have hcl := cloneI_at (h := H ++ [.cells 0 true [.ptr nb 0 0]]) (b := ob) (g := og) (o := k) (n := d) (cap := cap - k) (z := 1) (rw := true) (full := full) (by rw [hcells_app hobl]; exact hob) (by omega) (by omega) (by omega)
 have hseg : (full.drop k).take d = ofN (O.drop k) := by
  have h1 : full.take n = ofN O := by rw [hfo, Nat.mul_one]
  have h2 : (full.take n).drop k = (full.drop k).take (n - k) := List.drop_take
  rw [<- hd, <- h2, h1]
  simp [ofN]
 rw [hseg] at hcl
 have hsl : (O.drop k).length = d := by rw [List.length_drop]; omega
 have hltd : ∀ x ∈ O.drop k, x < N := fun x hx => hlt x (List.mem_of_mem_drop hx)
 have haN : a < N := hlt a (List.mem_of_getElem? hk)
 clear hn1 hseg hf hlt hfo hO
 generalize hsg : O.drop k = sg at hQ' hcl hsl hltd
 clear hk
 have hkn : (0 : Int) <= (k : Int) /\ (k : Int) <= (n : Int) := by omega
 have hkc : (0 : Int) <= (k : Int) /\ (k : Int) <= (cap : Int) := by omega
 have hkcap : k < cap := by omega
 clear hkl
 have hnet1 := hnet.net
 have hnet2 := hnet.nodes
 have hne := hnet.ne
 have hne2 := hne.symm
 have hbl := hcells_lt hnet2
 have hnbl := hcells_lt hnet1
 obtain ⟨c0, cc, cy, rfl⟩ := hcv.sl
 have hcv' := Hid.mk hcv
 have hcok := hcv.ok (by omega)
 have hcok' := Hid.mk hcok
 have hltd' := Hid.mk hltd
 clear hcv hnet hcok hltd
 have happ := appendV_vec (t := 67) ty67 ty70 (by decide) (by decide) rfl
 dsimp only at happ
 have hcut : cnd (decide (k = 0)) (some (TV.v (V.sl (SA.at ob og 0) n cap 1))) (some (TV.v (V.sl (SA.at ob og k) d (cap - k) 1))) = some (TV.v (V.sl (SA.at ob og k) d (cap - k) 1)) := by
  by_cases hk0 : k = 0
  ·subst hk0
   rw [show n - 0 = n from rfl] at hd
   subst hd
   rfl
  ·rw [decide_eq_false hk0]; rfl
 have hd2 : d <= 1000000 := by omega
 have hsl' := Hid.mk hsl
 have hOn := Hid.mk hn
 have hcp2 := Hid.mk hcap
 have hcp3 := Hid.mk hcap2
 have hful := Hid.mk hfl
 clear hn hsl hfl hfl' hcap hcap2 hn2
 have hsg' := Hid.mk hsg
 clear hsg
 (refine Ok.body body45 pin45 ?_; simp only [c45,Try.f45,Option.getD_some,nslot45,List.append_nil,List.map,List.replicate,List.length_cons,List.length_nil,Nat.reduceAdd,Nat.reduceSub,List.cons_append,List.nil_append])
 (repeat' (first | (simp -implicitDefEqProofs (maxSteps := 1000000) (disch := first | assumption | omega | exact hgA _ | exact hgB _ | (simp only [ZDI]; omega)) only [*,lenV,SA.add,Nat.mul_one,Nat.sub_zero,List.append_assoc,G45,Za,Zb,Zc,Zd,Ze,Zf,Zg,Zh,Zi,Zj,Zk,Zl,Zm,Zn,Zo,Ja,Jb,Jc,J6,Jd,Je,rd,J7,J8,Jf,Jg,Jh,Ji,Jj,Jk,J9,Jl,Jm,wr,Jn,JA,JB,Jo,Jp,Jq,Jr,Js,Jt,Ju,Jv,Jw,hcells_push,Jy,Jz,J0,J1,J2,J3,J4,J5,reduceCtorEq,JC,JD,JE,JF,JG,JH,JI,JJ]) | ((with_reducible (first | apply Ok.br | apply Ok.gd | apply Ok.ld)) <;> (intro g; (try simp only [ZGS] at g); try (exfalso; omega)))))
 have hkHB : Keeps [] H (H ++ [Blk.cells 0 true [V.ptr nb 0 0], Blk.cells 0 true [], Blk.cells 0 true (ofN sg)]) := .app _ _ _
 have hB1 : hcells (H ++ [Blk.cells 0 true [V.ptr nb 0 0], Blk.cells 0 true [], Blk.cells 0 true (ofN sg)]) nb 0 = _ := hkHB.cells hnet1 (by simp)
 have hB2 : hcells (H ++ [Blk.cells 0 true [V.ptr nb 0 0], Blk.cells 0 true [], Blk.cells 0 true (ofN sg)]) b g = _ := hkHB.cells hnet2 (by simp)
 have hB3 : hcells (H ++ [Blk.cells 0 true [V.ptr nb 0 0], Blk.cells 0 true [], Blk.cells 0 true (ofN sg)]) H.length 0 = some (true, [.ptr nb 0 0]) := by
  rw [hcells_ge (Nat.le_refl _), Nat.sub_self]; exact grd_t rfl _
 have hB4 : hcells (H ++ [Blk.cells 0 true [V.ptr nb 0 0], Blk.cells 0 true [], Blk.cells 0 true (ofN sg)]) (H.length + 1 + 1) 0 = some (true, ofN sg) := by
  rw [hcells_ge (by omega), show H.length + 1 + 1 - H.length = 2 by omega]; exact grd_t rfl _
 have hHl : (H ++ [Blk.cells 0 true [V.ptr nb 0 0], Blk.cells 0 true [], Blk.cells 0 true (ofN sg)]).length = H.length + 3 := by simp
 generalize H ++ [Blk.cells 0 true [V.ptr nb 0 0], Blk.cells 0 true [], Blk.cells 0 true (ofN sg)] = HB at hkHB hB1 hB2 hB3 hB4 hHl ⊢
 obtain ⟨pb, hpb⟩ : ∃ pb, H.length = pb := ⟨_, rfl⟩
 obtain ⟨cb, hcb⟩ : ∃ cb, pb + 1 + 1 = cb := ⟨_, rfl⟩
 rw [hpb] at hB3 hB4 hHl hbl hnbl hobl ⊢
 rw [hcb] at hB4 ⊢
 have hsame := set_same' hB2
 rw [<- setC_nil cp m] at hsame
 have hown : ∀ x ∈ own (V.sl c0 m cc cy), x < pb := by rw [<- hpb]; exact hcv'.out.own_lt
 have hown' := Hid.mk hown
 have happ' := Hid.mk happ
 have hkHB' := Hid.mk hkHB
 have hsame' := Hid.mk hsame
 clear hix hcl hcut hob hd hkn hkcap hnet1 hnet2 hown happ hkHB hsame
 have hcbl : cb < HB.length := by omega
 have hpbl : pb < HB.length := by omega
 have hbB : b < HB.length := by omega
 have hpc : pb ≠ cb := by omega
 have hpbb : pb ≠ b := by omega
 have hcbb : cb ≠ b := by omega
 refine Ok.loop [BF, BF, BF, BF, BF, BF, BF, BF, BF, BF, BT, BF, BF, BF, BF, BF, BF, BF, BF, BF, BT, BT, BT, BT, BT, BT, BT, BT, BT, BT, BT, BT, BT, BT, BT, BT, BT, BF, BF, BF, BF, BF, BF, BF, BF, BF, BF, BF, BF, BF, BF, BF, BF] (fun q s2 => ∃ (i : Nat), q = d - i /\ i <= d /\ tv s2.e 20 = .v (.int .i64 i) /\ s2.l = [(0, [])] /\ s2.h = HB.set b (.cells g true (nfl N S mt lw (setC cp (sg.take i) m))))
  (fun y s2 => y = .exit 0 /\ s2.l = [(0, [])] /\ s2.h = HB.set b (.cells g true (nfl N S mt lw (setC cp sg m)))) (d - 0) ⟨0, rfl, Nat.zero_le _, rfl, rfl, hsame'.out.symm⟩ ?_ ?_
 ·intro q ⟨e', l', G⟩ hW ⟨i, hq, hi, h20, k2, k3⟩
  dsimp only at hW h20 k2 k3
  subst l' G
  rw [hW.spread]
  simp only [spread_t,spread_f,spread_n,Nat.zero_add,Nat.reduceAdd,h20]
  clear hW hQ'
  by_cases hlt : i < d
  ·have hlt' : (i : Int) < (d : Int) := by omega
   have g1 : 0 <= (i : Int) /\ (i : Int) < (d : Int) := by omega
   obtain ⟨x, hx⟩ : ∃ x, sg[i]? = some x := ⟨_, List.getElem?_eq_getElem (by rw [hsl'.out]; exact hlt)⟩
   have hxN := hltd'.out x (List.mem_of_getElem? hx)
   have g2 : 0 <= (x : Int) /\ (x : Int) < (N : Int) := by omega
   have hget := ofN_get hx
   have hst := setC_step (cp := cp) (c := m) hx
   have hst' := Hid.mk hst
   have hx67 : x * 7 + 6 < N * 7 := by omega
   clear hx hst
   (repeat' (first | (simp -implicitDefEqProofs (maxSteps := 1000000) (disch := first | assumption | omega | (simp only [ZDI]; omega)) only [*,lenV,Nat.mul_one,Nat.zero_add,nfl_sc,nfl_len,G45,Za,Zb,Zc,Zd,Ze,Zf,Zg,Zh,Zi,Zj,Zk,Zl,Zm,Zn,Zo,Ja,Jb,Jc,J6,Jd,Je,rd,J7,J8,Jf,Jg,Jh,Ji,Jj,Jk,J9,Jl,Jm,wr,Jn,JA,JB,Jo,Jp,Jq,Jr,Js,Jt,Ju,Jv,Jw,Jx,Jy,Jz,J0,J1,J2,J3,J4,J5,reduceCtorEq,JC,JD,JE,JF,JG,JH,JI,JJ]) | ((with_reducible (first | apply Ok.br | apply Ok.gd | apply Ok.ld)) <;> (intro g; (try simp only [ZGS] at g); try (exfalso; omega)))))
   rw [hst'.out]
   exact Turn.next (d - (i + 1)) (by omega) ⟨rfl, i + 1, rfl, by omega, rfl, rfl, rfl⟩
  ·have hlt' : ¬ (i : Int) < (d : Int) := by omega
   rw [List.take_of_length_le (by rw [hsl'.out]; omega)]
   (repeat' (first | (simp -implicitDefEqProofs (maxSteps := 1000000) (disch := first | assumption | omega | (simp only [ZDI]; omega)) only [*,lenV,G45,Za,Zb,Zc,Zd,Ze,Zf,Zg,Zh,Zi,Zj,Zk,Zl,Zm,Zn,Zo,Ja,Jb,Jc,J6,Jd,Je,rd,J7,J8,Jf,Jg,Jh,Ji,Jj,Jk,J9,Jl,Jm,wr,Jn,JA,JB,Jo,Jp,Jq,Jr,Js,Jt,Ju,Jv,Jw,Jx,Jy,Jz,J0,J1,J2,J3,J4,J5,reduceCtorEq,JC,JD,JE,JF,JG,JH,JI,JJ]) | ((with_reducible (first | apply Ok.br | apply Ok.gd | apply Ok.ld)) <;> (intro g; (try simp only [ZGS] at g); try (exfalso; omega)))))
   exact Turn.exit ⟨rfl, rfl, rfl, rfl⟩
 ·intro y ⟨e', l', G⟩ hW ⟨hy, k2, k3⟩
  dsimp only at hW k2 k3
  subst l' G hy
  rw [hW.spread]
  clear hW
  simp only [spread_t,spread_f,spread_n,Nat.zero_add,Nat.reduceAdd]
  have hkG : Keeps [b] H (HB.set b (.cells g true (nfl N S mt lw (setC cp sg m)))) := (hkHB'.out.mono fun i _ h => nomatch h).set (.inl (by simp)) _
  have hG1 : hcells (HB.set b (.cells g true (nfl N S mt lw (setC cp sg m)))) nb 0 = _ := (hcells_set_ne hne).trans hB1
  have hG2 : hcells (HB.set b (.cells g true (nfl N S mt lw (setC cp sg m)))) b g = _ := hcells_set_eq hbB
  have hG3 : hcells (HB.set b (.cells g true (nfl N S mt lw (setC cp sg m)))) pb 0 = _ := (hcells_set_ne hpbb).trans hB3
  have hG4 : hcells (HB.set b (.cells g true (nfl N S mt lw (setC cp sg m)))) cb 0 = _ := (hcells_set_ne hcbb).trans hB4
  have hGl : (HB.set b (.cells g true (nfl N S mt lw (setC cp sg m)))).length = pb + 3 := by rw [List.length_set]; exact hHl
  generalize HB.set b (.cells g true (nfl N S mt lw (setC cp sg m))) = G at hkG hG1 hG2 hG3 hG4 hGl ⊢
  clear hB1 hB2 hB3 hB4 hsame' hkHB'
  letI : Inhabited (Fin N) := ⟨⟨a, haN⟩⟩
  have hfl : (intSI (Fin N) Fin.val).fl (sg.pmap Fin.mk hltd'.out).toArray = ofN sg := by rw [fl_ofN]; simp only [List.toList_toArray]; rw [pmap_val]
  have hC : Cmp (intSI (Fin N) Fin.val) (.fn 61 [.ptr pb 0 0]) (fun x y => aheadB S x.val y.val) cb (pb + 3) := netCmp (nb := nb) (b := b) (g := g) (mt := mt) (lw := lw) (cp := setC cp sg m) (mv := mv) (cv := V.sl c0 m cc cy) (by omega) (by omega) (by omega) (by omega) (by omega) (by omega)
  (repeat' (first | (simp -implicitDefEqProofs (maxSteps := 1000000) (disch := first | assumption | omega | (simp only [ZDI]; omega)) only [*,lenV,G45,Za,Zb,Zc,Zd,Ze,Zf,Zg,Zh,Zi,Zj,Zk,Zl,Zm,Zn,Zo,Ja,Jb,Jc,J6,Jd,Je,rd,J7,J8,Jf,Jg,Jh,Ji,Jj,Jk,J9,Jl,Jm,wr,Jn,JA,JB,Jo,Jp,Jq,Jr,Js,Jt,Ju,Jv,Jw,Jx,Jy,Jz,J0,J1,J2,J3,J4,J5,reduceCtorEq,JC,JD,JE,JF,JG,JH,JI,JJ]) | ((with_reducible (first | apply Ok.br | apply Ok.gd | apply Ok.ld)) <;> (intro g; (try simp only [ZGS] at g); try (exfalso; omega)))))
  refine Ok.bnd2 (sortN_at (n := d) (cap := d) (z := 1) (netCmp (N := N) (nb := nb) (b := b) (g := g) (S := S) (mt := mt) (lw := lw) (cp := setC cp sg m) (mv := mv) (cv := V.sl c0 m cc cy) (pb := pb) (B := cb) (n0 := pb + 3) (by omega) (by omega) (by omega) (by omega) (by omega) (by omega))
   ⟨hG3, ⟨hG1, hG2, hne⟩, by omega⟩ (ahead_swo S N) (d := (sg.pmap Fin.mk hltd'.out).toArray) (by rw [hfl]; exact hG4) (by simp [hsl'.out]) (by omega)) fun y h3 ⟨l, d2, hy, hp, hs⟩ => ?_
  cases hy
  have hmv : (intSI (Fin N) Fin.val).fl d2 = ofN (d2.toList.map Fin.val) := fl_ofN _ _
  have hpm : (d2.toList.map Fin.val).Perm sg := by
   have := hp.map Fin.val
   rw [List.toList_toArray, pmap_val] at this
   exact this
  have hpw : (d2.toList.map Fin.val).Pairwise (fun x y => aheadB S y x = false) := by
   rw [List.pairwise_map]; exact hs
  unfold SI.hs
  rw [hmv]
  generalize d2.toList.map Fin.val = c' at hpm hpw ⊢
  clear hp hs hmv hfl hC
  have hkG2 : Keeps [b] H ((G ++ l).set cb (.cells 0 true (ofN c'))) := (hkG.snoc l).set (.inr (by omega)) _
  have hcbl2 : cb < (G ++ l).length := by rw [List.length_append]; omega
  have hJ1 : hcells ((G ++ l).set cb (.cells 0 true (ofN c'))) nb 0 = _ := (hcells_set_ne (by omega)).trans ((hcells_app (by omega)).trans hG1)
  have hJ2 : hcells ((G ++ l).set cb (.cells 0 true (ofN c'))) b g = _ := (hcells_set_ne (by omega)).trans ((hcells_app (by omega)).trans hG2)
  have hJ3 : hcells ((G ++ l).set cb (.cells 0 true (ofN c'))) pb 0 = _ := (hcells_set_ne (by omega)).trans ((hcells_app (by omega)).trans hG3)
  have hJ4 : hcells ((G ++ l).set cb (.cells 0 true (ofN c'))) cb 0 = some (true, ofN c') := hcells_set_eq hcbl2
  have hJl : pb + 3 <= ((G ++ l).set cb (.cells 0 true (ofN c'))).length := by rw [List.length_set, List.length_append]; omega
  generalize (G ++ l).set cb (.cells 0 true (ofN c')) = J at hkG2 hJ1 hJ2 hJ3 hJ4 hJl ⊢
  clear hkG hG1 hG2 hG3 hG4 hGl hcbl2 hcbl hpbl hbB hHl
  have happ := happ'.out
  have hcb3 : cb ∉ own (V.sl c0 m cc cy) := fun h => by have := hown'.out cb h; omega
  have hcvJ := hcv'.out.keep hkG2 (fun x hx => by have : x ≠ b := fun e => c2 (e ▸ hx); simpa using this)
  have hok := hcvJ.ok (by omega)
  have hnbp : nb ≠ pb := by omega
  have hnbJ : nb < J.length := by omega
  have hbJ : b < J.length := by omega
  have hcbJ : cb < J.length := by omega
  have hP := hcvJ.push (by omega) (show [V.sl (.at cb 0 0) d d 1].length = 1 from rfl)
  obtain ⟨a9, c9, y9, hsh⟩ := hP.sl
  have hoP := own_push J (V.sl c0 m cc cy) 1 [V.sl (.at cb 0 0) d d 1]
  rw [hsh] at hP hoP
  have hkP := vpush_keeps J (V.sl c0 m cc cy) 1 [V.sl (.at cb 0 0) d d 1]
  have hpbo : pb ∉ own (V.sl c0 m cc cy) := fun h => by have := hown'.out pb h; omega
  have hpbJ : pb < J.length := by omega
  have hkG2' := Hid.mk hkG2
  have hcvJ' := Hid.mk hcvJ
  have hpm' := Hid.mk hpm
  have hpw' := Hid.mk hpw
  have hP' := Hid.mk hP
  have hoP' := Hid.mk hoP
  have hkP' := Hid.mk hkP
  clear hkG2 hcvJ hpm hpw hP hoP hkP
  (repeat' (first | (simp -implicitDefEqProofs (maxSteps := 1000000) (disch := first | assumption | omega | exact hgA _ | exact hgB _ | (simp only [ZDI]; omega)) only [*,lenV,Nat.mul_one,Nat.zero_add,List.drop_zero,List.take_succ_cons,List.take_zero,G45,Za,Zb,Zc,Zd,Ze,Zf,Zg,Zh,Zi,Zj,Zk,Zl,Zm,Zn,Zo,Ja,Jb,Jc,J6,Jd,Je,rd,J7,J8,Jf,Jg,Jh,Ji,Jj,Jk,J9,Jl,Jm,wr,Jn,JA,JB,Jo,Jp,Jq,Jr,Js,Jt,Ju,Jv,Jw,hcells_push,Jy,Jz,J0,J1,J2,J3,J4,J5,reduceCtorEq,JC,JD,JE,JF,JG,JH,JI,JJ]) | ((with_reducible (first | apply Ok.br | apply Ok.gd | apply Ok.ld)) <;> (intro g; (try simp only [ZGS] at g); try (exfalso; omega)))))
  have hkP := hkP'.out
  have hP := hP'.out
  have hnbP : nb < (vpush J (V.sl c0 m cc cy) 1 [V.sl (.at cb 0 0) d d 1]).2.length := Nat.lt_of_lt_of_le hnbJ hkP.1
  have hp2 : hcells (vpush J (V.sl c0 m cc cy) 1 [V.sl (.at cb 0 0) d d 1]).2 b g = _ := hkP.cells hJ2 c2
  have hp4 : hcells (vpush J (V.sl c0 m cc cy) 1 [V.sl (.at cb 0 0) d d 1]).2 cb 0 = _ := hkP.cells hJ4 hcb3
  generalize (vpush J (V.sl c0 m cc cy) 1 [V.sl (.at cb 0 0) d d 1]).2 = P at hkP hP hnbP hp2 hp4 ⊢
  have hon := hoP'.out
  have hcl' : c'.length = d := by rw [hpm'.out.length_eq]; exact hsl'.out
  refine hQ'.out _ ⟨_, V.sl a9 (m + 1) c9 y9, V.sl (.at cb 0 0) d d 1, c', rfl, ?_, ⟨hcells_set_eq hnbP, (hcells_set_ne hne2).trans hp2, hne⟩, ?_, ?_, ?_, ?_, ?_, hpw'.out⟩
  ·refine Keeps.set (Keeps.wide (hkG2'.out.mono fun i _ h => ?_) hkP fun j hj _ => ?_) (.inl (by simp)) _
   ·have : i = b := by simpa using h
    simp [this]
   ·simp only [List.mem_append]; exact .inr hj
  ·refine hP.keep (F := [nb]) ((Keeps.refl _ _).set (.inl (by simp)) _) fun x hx => ?_
   rcases hon x hx with k | k
   ·have : x ≠ nb := fun e => c1 (e ▸ k)
    simpa using this
   ·have : x ≠ nb := by omega
    simpa using this
  ·refine ⟨_, _, _, by rw [hcl'], by omega, .inr ⟨cb, 0, 0, true, ofN c', rfl, (hcells_set_ne (by omega)).trans hp4, fun i x hx => ?_⟩⟩
   rw [Nat.zero_add]; exact ofN_get hx
  ·intro x hx
   have : x = cb := by simpa [own] using hx
   rw [this, hpb]
   refine ⟨by omega, fun k => ?_⟩
   rcases hon cb k with k | k
   ·exact hcb3 k
   ·omega
  ·intro x hx
   rcases hon x hx with k | k
   ·exact .inl k
   ·exact .inr (by omega)
  ·exact hpm'.out
end Go.Ev
set_option maxRecDepth 100000
namespace Go.Ev
open Go.Proofs Go.Sort
theorem nodup_le : ∀ (N : Nat) (l : List Nat), l.Nodup -> (∀ x ∈ l, x < N) -> l.length <= N
 | 0, [], _, _ => Nat.le_refl _
 | 0, x :: l, _, h => absurd (h x List.mem_cons_self) (Nat.not_lt_zero _)
 | N + 1, l, hn, h => by
  by_cases hm : N ∈ l
  ·have h1 := nodup_le N (l.erase N) (hn.erase N) fun x hx => by
    have h2 := (List.Nodup.mem_erase_iff hn).1 hx
    have := h x h2.2
    have := h2.1
    omega
   rw [List.length_erase_of_mem hm] at h1
   omega
  ·have := nodup_le N l hn fun x hx => by
    have h1 := h x hx
    have : x ≠ N := fun e => hm (e ▸ hx)
    omega
   omega
theorem filter_lt {α : Type} {P Q : α -> Bool} : ∀ {l : List α}, (∀ u, Q u = true -> P u = true) -> (∃ u ∈ l, P u = true /\ Q u = false) -> (l.filter Q).length < (l.filter P).length
 | [], _, ⟨u, hu, _⟩ => nomatch hu
 | x :: l, h, ⟨u, hu, h1, h2⟩ => by
  have hle : ∀ l : List α, (l.filter Q).length <= (l.filter P).length := fun l => by
   induction l with
   | nil => exact Nat.le_refl _
   | cons y l ih =>
    rw [List.filter_cons, List.filter_cons]
    by_cases hq : Q y = true
    ·rw [if_pos hq, if_pos (h y hq)]; simp only [List.length_cons]; omega
    ·rw [if_neg hq]; split
     ·simp only [List.length_cons]; omega
     ·exact ih
  rw [List.filter_cons, List.filter_cons]
  rcases List.mem_cons.1 hu with rfl | hu
  ·rw [if_pos h1, if_neg (by rw [h2]; simp)]
   have := hle l
   simp only [List.length_cons]; omega
  ·have ih := filter_lt h ⟨u, hu, h1, h2⟩
   by_cases hq : Q x = true
   ·rw [if_pos hq, if_pos (h x hq)]; simp only [List.length_cons]; omega
   ·rw [if_neg hq]; split
    ·simp only [List.length_cons]; omega
    ·exact ih
structure TC (s : TS) : Prop where
 le : s.cs.length + s.O.length <= s.m
 all : ∃ M : List Nat, M.Nodup /\ M.length = s.m /\ ∀ u, u ∈ M ↔ 0 < s.mt u
theorem TC.init : TC TS.init := ⟨Nat.le_refl _, [], List.nodup_nil, rfl, fun u => by simp [TS.init]⟩
theorem TC.m_le {N : Nat} {nd : Nat -> List Nat} {s : TS} (h : TC s) (t : TInv N nd s) : s.m <= N := by
 obtain ⟨M, h1, h2, h3⟩ := h.all
 rw [<- h2]
 exact nodup_le N M h1 fun x hx => t.dom x ((h3 x).1 hx)
theorem TC.enter {s : TS} (h : TC s) {a : Nat} (h0 : s.mt a = 0) : TC { s with m := s.m + 1, mt := upd s.mt a (s.m + 1), lw := upd s.lw a (s.m + 1), O := a :: s.O } := by
 obtain ⟨M, h1, h2, h3⟩ := h.all
 have ha : a ∉ M := fun k => by have := (h3 a).1 k; omega
 refine ⟨by have := h.le; simp only [List.length_cons]; omega, a :: M, List.nodup_cons.2 ⟨ha, h1⟩, by simp [h2], fun u => ?_⟩
 dsimp only
 rw [List.mem_cons, h3]
 by_cases e : u = a
 ·rw [e, upd_eq]; simp
 ·rw [upd_ne _ _ e]; simp [e]
theorem TInv.wnodup {N : Nat} {nd : Nat -> List Nat} {s : TS} (t : TInv N nd s) : (s.W.map Prod.fst).Nodup := by
 unfold List.Nodup
 rw [List.pairwise_map]
 have h1 := t.wsort
 have h2 := t.wtail
 cases hw : s.W with
 | nil => exact List.Pairwise.nil
 | cons p r =>
  rw [hw] at h1 h2
  rw [List.pairwise_cons] at h1 ⊢
  have hr : ∀ q ∈ r, 0 < s.mt q.1 := fun q hq => ((t.opn q.1).1 (h2 q hq)).1
  refine ⟨fun q hq e => ?_, h1.2.imp_of_mem fun {x y} hx hy k e => ?_⟩
  ·have := hr q hq
   rcases h1.1 q hq with k | k
   ·rw [e] at k; omega
   ·rw [e] at k; omega
  ·rcases k with k | k
   ·rw [e] at k; omega
   ·have := hr x hx; omega
theorem TInv.w_le {N : Nat} {nd : Nat -> List Nat} {s : TS} (t : TInv N nd s) : s.W.length <= N := by
 have := nodup_le N _ t.wnodup fun x hx => by
  obtain ⟨p, hp, rfl⟩ := List.mem_map.1 hx
  exact (t.wdom p hp).1
 simpa using this
def unm (N : Nat) (s : TS) : Nat := ((List.range N).filter fun u => decide (s.mt u = 0) && !decide (u ∈ s.W.map Prod.fst)).length
def frames (W : List (Nat × Nat)) : List RP := W.reverse.map fun p => ((p.1 : Int), (p.2 : Int))
theorem frames_cons (a nx : Nat) (r : List (Nat × Nat)) : frames ((a, nx) :: r) = frames r ++ [((a : Int), (nx : Int))] := by unfold frames; simp
theorem frames_len (W : List (Nat × Nat)) : (frames W).length = W.length := by unfold frames; simp
theorem way_len (r : List (Nat × Nat)) : (flL (frames r)).length = r.length * 2 := by rw [flL_len, frames_len]
section
variable {r : List (Nat × Nat)} {x y : V} {l : List V}
theorem way_a : (flL (frames r) ++ x :: l)[r.length * 2]? = some x := by
 rw [List.getElem?_append_right (by rw [way_len]; exact Nat.le_refl _), way_len, Nat.sub_self]; rfl
theorem way_b : (flL (frames r) ++ x :: y :: l)[r.length * 2 + 1]? = some y := by
 rw [List.getElem?_append_right (by rw [way_len]; omega), way_len, Nat.add_sub_cancel_left]; rfl
theorem way_sb (v : V) : (flL (frames r) ++ x :: y :: l).set (r.length * 2 + 1) v = flL (frames r) ++ x :: v :: l := by
 rw [List.set_append_right _ _ (by rw [way_len]; omega), way_len, Nat.add_sub_cancel_left]; rfl
end
theorem VecAt.top {H : Heap} {wv : V} {a nx : Nat} {r : List (Nat × Nat)} {n : Nat} (hn : n = r.length + 1) (h : VecAt H wv 2 n (flL (frames ((a, nx) :: r)))) :
  ∃ wb wg cap rest, wv = .sl (.at wb wg 0) (r.length + 1) cap 2 /\ hcells H wb wg = some (true, flL (frames r) ++ V.int .i64 a :: V.int .i64 nx :: rest) /\ r.length + 1 <= cap /\ cap <= 100000000 /\ r.length * 2 + 2 + rest.length = cap * 2 := by
 subst hn
 obtain ⟨wb, wg, cap, full, rfl, h1, h2, h3, h4, h5⟩ := h.at (by omega)
 refine ⟨wb, wg, cap, full.drop ((r.length + 1) * 2), rfl, ?_, h3, h4, by rw [List.length_drop, h2]; omega⟩
 rw [h1]
 congr 2
 conv => lhs; rw [<- List.take_append_drop ((r.length + 1) * 2) full]
 rw [<- h5, frames_cons, flL_app]
 simp [flL]
theorem VecAt.ofTop {H : Heap} {a nx wb wg cap : Nat} {r : List (Nat × Nat)} {rest : List V} (h : hcells H wb wg = some (true, flL (frames r) ++ V.int .i64 a :: V.int .i64 nx :: rest)) (h1 : r.length + 1 <= cap) (h2 : cap <= 100000000) (h3 : r.length * 2 + 2 + rest.length = cap * 2) :
  VecAt H (.sl (.at wb wg 0) (r.length + 1) cap 2) 2 (r.length + 1) (flL (frames ((a, nx) :: r))) := by
 refine .inr ⟨wb, wg, cap, _, rfl, h, ?_, h1, h2, ?_⟩
 ·simp only [List.length_append,way_len,List.length_cons]; omega
 ·rw [frames_cons, flL_app]
  have : (r.length + 1) * 2 = (flL (frames r)).length + 2 := by rw [way_len]; omega
  rw [this, List.take_length_add_append]
  rfl
structure WM (H0 H : Heap) (nb b g N : Nat) (S : NS) (mv : V) (s : TS) (wv ov cv : V) (cl : List V) : Prop where
 bl : b < H0.length
 nbl : nb < H0.length
 keep : Keeps [b, nb] H0 H
 net : NetAt H nb b g N S s.mt s.lw s.cp mv cv
 way : VecAt H wv 2 s.W.length (flL (frames s.W))
 opn : VecAt H ov 1 s.O.length (ofN s.O.reverse)
 cvs : VecAt H cv 1 s.cs.length cl
 cls : ∀ (i : Nat) (v : V), cl[i]? = some v -> ∃ l, s.cs[i]? = some l /\ NatsAt H v l
 clo : ∀ v ∈ cl, ∀ x ∈ own v, H0.length <= x /\ x ∉ own wv /\ x ∉ own ov /\ x ∉ own cv
 sw : ∀ x ∈ own wv, H0.length <= x /\ x ∉ own ov /\ x ∉ own cv
 so : ∀ x ∈ own ov, H0.length <= x /\ x ∉ own cv
 sc : ∀ x ∈ own cv, H0.length <= x
 srt : ∀ l ∈ s.cs, l.Pairwise (fun x y => aheadB S y x = false)
section
variable {H0 H H' : Heap} {nb b g N : Nat} {S : NS} {mv : V} {s s' : TS} {wv wv' ov ov' cv cv' : V} {cl : List V}
theorem NatsAt.own_lt {v : V} {l : List Nat} (h : NatsAt H v l) : l = [] \/ ∀ x ∈ own v, x < H.length := by
 obtain ⟨a, cap, z, rfl, h1, h2⟩ := h
 refine h2.imp id ?_
 rintro ⟨b, g, o, rw, full, rfl, e2, e3⟩
 intro x hx
 have : x = b := by simpa [own] using hx
 rw [this]; exact hcells_lt e2
theorem WM.next (h : WM H0 H nb b g N S mv s wv ov cv cl) (hcn : ∀ l ∈ s.cs, l ≠ []) (F : List Nat) (k : Keeps F H H') (hF : ∀ x ∈ F, x = b \/ x = nb \/ x ∈ own wv) (net : NetAt H' nb b g N S s'.mt s'.lw s'.cp mv cv)
  (way : VecAt H' wv' 2 s'.W.length (flL (frames s'.W))) (ow : ∀ x ∈ own wv', x ∈ own wv \/ H.length <= x) (eO : s'.O = s.O) (ec : s'.cs = s.cs) : WM H0 H' nb b g N S mv s' wv' ov cv cl := by
 have hl := h.keep.1
 have hbl := h.bl
 have hnbl := h.nbl
 have hnF : ∀ x, H0.length <= x -> x ∉ own wv -> x ∉ F := fun x h1 h2 hx => by
  rcases hF x hx with e | e | e
  ·omega
  ·omega
  ·exact h2 e
 have hov : ∀ x ∈ own ov, x ∉ F := fun x hx => hnF x (h.so x hx).1 fun hw => (h.sw x hw).2.1 hx
 have hcv : ∀ x ∈ own cv, x ∉ F := fun x hx => hnF x (h.sc x hx) fun hw => (h.sw x hw).2.2 hx
 have hcl : ∀ v ∈ cl, ∀ x ∈ own v, x ∉ F := fun v hv x hx => hnF x (h.clo v hv x hx).1 (h.clo v hv x hx).2.1
 have hcll : ∀ v ∈ cl, ∀ x ∈ own v, x < H.length := fun v hv x hx => by
  obtain ⟨i, hi, hiv⟩ := List.mem_iff_getElem.1 hv
  obtain ⟨l, hl, hn⟩ := h.cls i v (by rw [List.getElem?_eq_getElem hi, hiv])
  rcases hn.own_lt with e | e
  ·exact absurd e (hcn l (List.mem_of_getElem? hl))
  ·exact e x hx
 constructor
 ·exact h.bl
 ·exact h.nbl
 ·exact h.keep.wide k fun x hx hlt => by
   rcases hF x hx with e | e | e
   ·simp [e]
   ·simp [e]
   ·have := (h.sw x e).1; omega
 ·exact net
 ·exact way
 ·rw [eO]; exact h.opn.keep k hov
 ·rw [ec]; exact h.cvs.keep k hcv
 ·intro i v hv
  obtain ⟨l, h1, h2⟩ := h.cls i v hv
  exact ⟨l, by rw [ec]; exact h1, h2.keep k (hcl v (List.mem_of_getElem? hv))⟩
 ·intro v hv x hx
  obtain ⟨h1, h2, h3, h4⟩ := h.clo v hv x hx
  refine ⟨h1, fun hw => ?_, h3, h4⟩
  rcases ow x hw with e | e
  ·exact h2 e
  ·have := hcll v hv x hx; omega
 ·intro x hx
  rcases ow x hx with e | e
  ·exact h.sw x e
  ·have ho := h.opn.own_lt
   have hc := h.cvs.own_lt
   exact ⟨by omega, fun k => by have := ho x k; omega, fun k => by have := hc x k; omega⟩
 ·exact h.so
 ·exact h.sc
 ·rw [ec]; exact h.srt
theorem WM.open (h : WM H0 H nb b g N S mv s wv ov cv cl) (hcn : ∀ l ∈ s.cs, l ≠ []) (F : List Nat) (k : Keeps F H H') (hF : ∀ x ∈ F, x = b \/ x = nb \/ x ∈ own ov) (net : NetAt H' nb b g N S s'.mt s'.lw s'.cp mv cv)
  (opn : VecAt H' ov' 1 s'.O.length (ofN s'.O.reverse)) (oo : ∀ x ∈ own ov', x ∈ own ov \/ H.length <= x) (eW : s'.W = s.W) (ec : s'.cs = s.cs) : WM H0 H' nb b g N S mv s' wv ov' cv cl := by
 have hl := h.keep.1
 have hbl := h.bl
 have hnbl := h.nbl
 have hnF : ∀ x, H0.length <= x -> x ∉ own ov -> x ∉ F := fun x h1 h2 hx => by
  rcases hF x hx with e | e | e
  ·omega
  ·omega
  ·exact h2 e
 have hwv : ∀ x ∈ own wv, x ∉ F := fun x hx => hnF x (h.sw x hx).1 (h.sw x hx).2.1
 have hcv : ∀ x ∈ own cv, x ∉ F := fun x hx => hnF x (h.sc x hx) fun hw => (h.so x hw).2 hx
 have hcl : ∀ v ∈ cl, ∀ x ∈ own v, x ∉ F := fun v hv x hx => hnF x (h.clo v hv x hx).1 (h.clo v hv x hx).2.2.1
 have hcll : ∀ v ∈ cl, ∀ x ∈ own v, x < H.length := fun v hv x hx => by
  obtain ⟨i, hi, hiv⟩ := List.mem_iff_getElem.1 hv
  obtain ⟨l, hl, hn⟩ := h.cls i v (by rw [List.getElem?_eq_getElem hi, hiv])
  rcases hn.own_lt with e | e
  ·exact absurd e (hcn l (List.mem_of_getElem? hl))
  ·exact e x hx
 constructor
 ·exact h.bl
 ·exact h.nbl
 ·exact h.keep.wide k fun x hx hlt => by
   rcases hF x hx with e | e | e
   ·simp [e]
   ·simp [e]
   ·have := (h.so x e).1; omega
 ·exact net
 ·rw [eW]; exact h.way.keep k hwv
 ·exact opn
 ·rw [ec]; exact h.cvs.keep k hcv
 ·intro i v hv
  obtain ⟨l, h1, h2⟩ := h.cls i v hv
  exact ⟨l, by rw [ec]; exact h1, h2.keep k (hcl v (List.mem_of_getElem? hv))⟩
 ·intro v hv x hx
  obtain ⟨h1, h2, h3, h4⟩ := h.clo v hv x hx
  refine ⟨h1, h2, fun hw => ?_, h4⟩
  rcases oo x hw with e | e
  ·exact h3 e
  ·have := hcll v hv x hx; omega
 ·intro x hx
  obtain ⟨h1, h2, h3⟩ := h.sw x hx
  refine ⟨h1, fun hw => ?_, h3⟩
  rcases oo x hw with e | e
  ·exact h2 e
  ·have := h.way.own_lt x hx; omega
 ·intro x hx
  rcases oo x hx with e | e
  ·exact h.so x e
  ·exact ⟨by omega, fun k => by have := h.cvs.own_lt x k; omega⟩
 ·exact h.sc
 ·rw [ec]; exact h.srt
theorem WM.closed (h : WM H0 H nb b g N S mv s wv ov cv cl) (hcn : ∀ l ∈ s.cs, l ≠ []) {v' : V} {c' : List Nat} (k : Keeps ([b, nb] ++ own cv) H H') (net : NetAt H' nb b g N S s'.mt s'.lw s'.cp mv cv')
  (opn : VecAt H' ov' 1 s'.O.length (ofN s'.O.reverse)) (oo : ∀ x ∈ own ov', x ∈ own ov) (eW : s'.W = s.W) (ec : s'.cs = s.cs ++ [c']) (cvs : VecAt H' cv' 1 (s.cs.length + 1) (cl ++ [v'])) (hv' : NatsAt H' v' c')
  (ow : ∀ x ∈ own v', H.length <= x /\ x ∉ own cv') (oc : ∀ x ∈ own cv', x ∈ own cv \/ H.length <= x) (hs : c'.Pairwise (fun x y => aheadB S y x = false)) : WM H0 H' nb b g N S mv s' wv ov' cv' (cl ++ [v']) := by
 have hl := h.keep.1
 have hbl := h.bl
 have hnbl := h.nbl
 have hnF : ∀ x, H0.length <= x -> x ∉ own cv -> x ∉ [b, nb] ++ own cv := fun x h1 h2 hx => by
  simp only [List.cons_append,List.nil_append,List.mem_cons] at hx
  rcases hx with e | e | e
  ·omega
  ·omega
  ·exact h2 e
 have hcll : ∀ v ∈ cl, ∀ x ∈ own v, x < H.length := fun v hv x hx => by
  obtain ⟨i, hi, hiv⟩ := List.mem_iff_getElem.1 hv
  obtain ⟨l, hl, hn⟩ := h.cls i v (by rw [List.getElem?_eq_getElem hi, hiv])
  rcases hn.own_lt with e | e
  ·exact absurd e (hcn l (List.mem_of_getElem? hl))
  ·exact e x hx
 have hlen : cl.length = s.cs.length := by have := h.cvs.len; omega
 constructor
 ·exact h.bl
 ·exact h.nbl
 ·exact h.keep.wide k fun x hx hlt => by
   simp only [List.cons_append,List.nil_append,List.mem_cons] at hx
   rcases hx with e | e | e
   ·simp [e]
   ·simp [e]
   ·have := h.sc x e; omega
 ·exact net
 ·rw [eW]; exact h.way.keep k fun x hx => hnF x (h.sw x hx).1 (h.sw x hx).2.2
 ·exact opn
 ·rw [ec, List.length_append]; exact cvs
 ·intro i v hv
  rw [ec]
  by_cases hi : i < s.cs.length
  ·rw [List.getElem?_append_left (by omega)] at hv
   obtain ⟨l, h1, h2⟩ := h.cls i v hv
   have hm := List.mem_of_getElem? hv
   exact ⟨l, by rw [List.getElem?_append_left hi]; exact h1, h2.keep k fun x hx => hnF x (h.clo v hm x hx).1 (h.clo v hm x hx).2.2.2⟩
  ·have hlt := (List.getElem?_eq_some_iff.1 hv).1
   simp only [List.length_append,List.length_cons,List.length_nil] at hlt
   have e : i = s.cs.length := by omega
   rw [e, List.getElem?_append_right (by omega), hlen, Nat.sub_self] at hv
   have : v' = v := Option.some.inj hv
   rw [<- this]
   exact ⟨c', by rw [e, List.getElem?_append_right (Nat.le_refl _), Nat.sub_self]; rfl, hv'⟩
 ·intro v hv x hx
  rcases List.mem_append.1 hv with hv | hv
  ·obtain ⟨h1, h2, h3, h4⟩ := h.clo v hv x hx
   refine ⟨h1, h2, fun hw => h3 (oo x hw), fun hw => ?_⟩
   rcases oc x hw with e | e
   ·exact h4 e
   ·have := hcll v hv x hx; omega
  ·have : v = v' := by simpa using hv
   rw [this] at hx
   obtain ⟨h1, h2⟩ := ow x hx
   exact ⟨by omega, fun hw => by have := h.way.own_lt x hw; omega, fun hw => by have := h.opn.own_lt x (oo x hw); omega, h2⟩
 ·intro x hx
  obtain ⟨h1, h2, h3⟩ := h.sw x hx
  refine ⟨h1, fun hw => h2 (oo x hw), fun hw => ?_⟩
  rcases oc x hw with e | e
  ·exact h3 e
  ·have := h.way.own_lt x hx; omega
 ·intro x hx
  obtain ⟨h1, h2⟩ := h.so x (oo x hx)
  refine ⟨h1, fun hw => ?_⟩
  rcases oc x hw with e | e
  ·exact h2 e
  ·have := h.opn.own_lt x (oo x hx); omega
 ·intro x hx
  rcases oc x hx with e | e
  ·exact h.sc x e
  ·omega
 ·intro l hl
  rw [ec] at hl
  rcases List.mem_append.1 hl with hl | hl
  ·exact h.srt l hl
  ·have : l = c' := by simpa using hl
   rw [this]; exact hs
end
end Go.Ev
set_option maxRecDepth 100000
namespace Go.Ev
open Go.Ev renaming exPure -> Ja, ofValue -> Jb, cellsV -> Jc, load -> Jd, store -> Je, binOp -> Jf, intOp -> Jg, rdV -> Jh, vsame -> Ji, vsames -> Jj, makeSliceV -> Jk, resV -> Jl, isCell -> Jm, nilCheckV -> Jn, allV -> Jo, builtinV -> Jp, lenV -> Jq, indexAddrV -> Jr, unOp -> Js, minmaxV -> Jt, minmax -> Ju, sliceV -> Jv, asInt -> Jw, appendV -> Jx, forkB -> Jy, roY -> Jz, rwB -> J0, copyV -> J1, clearV -> J2, convV -> J3, sliceCells -> J4, shift -> J5
open Bool renaming true -> BT, false -> BF
open Nat renaming reduceEqDiff -> J6, reduceLT -> J7, reduceAdd -> J8, reduceBEq -> J9, reduceSub -> JA, reduceMul -> JB, reduceLeDiff -> JJ
open Int renaming reduceLT -> JC, reduceLE -> JD, reduceAdd -> JE, reduceSub -> JF, reduceNeg -> JG, reduceToNat -> JH, reduceEq -> JI
open Go.Proofs Go.Sort
theorem filter_le {α : Type} {P Q : α -> Bool} : ∀ (l : List α), (∀ u ∈ l, Q u = true -> P u = true) -> (l.filter Q).length <= (l.filter P).length
 | [], _ => Nat.le_refl _
 | x :: l, h => by
  have ih := filter_le l fun u hu => h u (List.mem_cons_of_mem _ hu)
  rw [List.filter_cons, List.filter_cons]
  by_cases hq : Q x = true
  ·rw [if_pos hq, if_pos (h x List.mem_cons_self hq)]; simp only [List.length_cons]; omega
  ·rw [if_neg hq]; split
   ·simp only [List.length_cons]; omega
   ·exact ih
theorem unm_le {N : Nat} {s s' : TS} (h : ∀ u, u < N -> s'.mt u = 0 -> u ∉ s'.W.map Prod.fst -> s.mt u = 0 /\ u ∉ s.W.map Prod.fst) : unm N s' <= unm N s := by
 unfold unm
 refine filter_le _ fun u hu hq => ?_
 simp only [Bool.and_eq_true,decide_eq_true_eq,Bool.not_eq_true',decide_eq_false_iff_not] at hq ⊢
 exact h u (List.mem_range.1 hu) hq.1 hq.2
theorem unm_push {N : Nat} {s : TS} {a nx k : Nat} {r : List (Nat × Nat)} (hw : s.W = (a, nx) :: r) (h0 : s.mt k = 0) (hk : k ∉ s.W.map Prod.fst) (hN : k < N) : unm N { s with W := (k, 0) :: (a, nx + 1) :: r } < unm N s := by
 unfold unm
 rw [hw] at hk ⊢
 simp only [List.map_cons,List.mem_cons,not_or] at hk ⊢
 refine filter_lt (fun u hu => ?_) ⟨k, List.mem_range.2 hN, ?_, ?_⟩
 ·simp only [Bool.and_eq_true,decide_eq_true_eq,Bool.not_eq_true',decide_eq_false_iff_not,not_or] at hu ⊢
  exact ⟨hu.1, hu.2.2⟩
 ·simp only [Bool.and_eq_true,decide_eq_true_eq,Bool.not_eq_true',decide_eq_false_iff_not,not_or]
  exact ⟨h0, hk⟩
 ·simp
theorem cpI_n : cpI none = -1 := rfl
theorem setC_eq {cp : Nat -> Option Nat} {seg : List Nat} {a c : Nat} : setC cp (a :: seg.reverse) c = fun u => if u ∈ seg ++ [a] then some c else cp u := by
 funext u
 unfold setC
 simp only [List.mem_cons,List.mem_reverse,List.mem_append,List.mem_singleton,List.not_mem_nil,or_false,false_or,Or.comm]
theorem min_cast (a b : Nat) : (if (b : Int) < (a : Int) then (b : Int) else (a : Int)) = ((min a b : Nat) : Int) := by
 split <;> omega
set_option maxHeartbeats 16000000 in
theorem walk_at {H0 : Heap} {nb b g N : Nat} {S : NS} {mv : V} {nd : Nat -> List Nat} (hnet : NetAt H0 nb b g N S (fun _ => 0) (fun _ => 0) (fun _ => none) mv (.sl .nil 0 0 0)) (hN : N <= 100000)
    (hnd : ∀ u, u < N -> NatsAt H0 (S.v u) (nd u)) (hown : ∀ u, u < N -> ∀ x ∈ own (S.v u), x ≠ b /\ x ≠ nb) (hdom : ∀ u, u < N -> ∀ k ∈ nd u, k < N) :
    Ev.Ok (D X (.fn 35 []) [.ptr nb 0 0] H0) fun y => ∃ H' s wv ov cv cl, y = (.tup [], H') /\ WM H0 H' nb b g N S mv s wv ov cv cl /\ TInv N nd s /\ s.W = [] /\ ∀ u, u < N -> 0 < s.mt u := by
  refine Ok.aim fun Q hQ => ?_
  have hQ' := Hid.mk hQ
  clear hQ
  have hnd' : Hid (∀ H, Keeps [b, nb] H0 H -> ∀ u, u < N -> NatsAt H (S.v u) (nd u)) := ⟨fun H k u hu => (hnd u hu).keep k fun x hx => by have := hown u hu x hx; simp [this.1, this.2]⟩
  have hdom' := Hid.mk hdom
  have hnet1 := hnet.net
  have hbl := hcells_lt hnet.nodes
  have hnbl := hcells_lt hnet1
  have hWM0 : Hid (WM H0 H0 nb b g N S mv TS.init (.sl .nil 0 0 0) (.sl .nil 0 0 0) (.sl .nil 0 0 0) []) := ⟨⟨hbl, hnbl, .refl _ _, hnet, .zero _ _, .zero _ _, .zero _ _, (fun i v h => nomatch h), (fun v h => nomatch h), (by simp [own]), (by simp [own]), (by simp [own]), (by simp [TS.init])⟩⟩
  have hT0 : Hid (TInv N nd TS.init) := ⟨.init N nd⟩
  have hC0 : Hid (TC TS.init) := ⟨.init⟩
  have happW := appendV_vec (t := 81) ty81 ty83 (by decide) (by decide) rfl
  have happO := appendV_vec (t := 70) ty70 ty3 (by decide) (by decide) rfl
  dsimp only at happW happO
  have happW' := Hid.mk happW
  have happO' := Hid.mk happO
  clear happW happO hdom hown hnd hnet
  (refine Ok.body body35 pin35 ?_; simp only [c35,Try.f35,Option.getD_some,nslot35,List.append_nil,List.map,List.replicate,List.length_cons,List.length_nil,Nat.reduceAdd,Nat.reduceSub,List.cons_append,List.nil_append])
  (repeat' (first | (simp -implicitDefEqProofs (maxSteps := 1000000) (disch := first | assumption | omega | (simp only [ZDI]; omega)) only [*,lenV,G35,Za,Zb,Zc,Zd,Ze,Zf,Zg,Zh,Zi,Zj,Zk,Zl,Zm,Zn,Zo,Ja,Jb,Jc,J6,Jd,Je,rd,J7,J8,Jf,Jg,Jh,Ji,Jj,Jk,J9,Jl,Jm,wr,Jn,JA,JB,Jo,Jp,Jq,Jr,Js,Jt,Ju,Jv,Jw,Jx,Jy,Jz,J0,J1,J2,J3,J4,J5,reduceCtorEq,JC,JD,JE,JF,JG,JH,JI,JJ]) | ((with_reducible (first | apply Ok.br | apply Ok.gd | apply Ok.ld)) <;> (intro g; (try simp only [ZGS] at g); try (exfalso; omega)))))
  clear hnet1
  refine Ok.loop [BF, BF, BT, BT, BT, BT, BT, BT, BT, BT, BT, BT, BT, BF, BF, BF, BF, BF, BT, BT, BT, BT, BT, BT, BT, BT, BT, BT, BT, BT, BT, BT, BT, BT, BT, BT, BT, BT, BT, BT, BT, BT, BT, BT, BT, BT, BT, BT, BT, BT, BT, BT, BT, BT, BT, BT, BT, BT, BT, BT, BT, BT, BT, BT, BT, BT, BT, BT, BT, BT, BT, BT, BT, BT, BT, BT, BT, BT, BT, BT, BT, BT, BT, BT, BT, BT, BT, BT, BT, BT, BT, BT, BT, BT, BT, BT, BT, BT, BT, BT, BT, BT, BT, BT, BT, BT, BT, BT, BT, BT, BT, BT, BT, BT, BT, BT, BT, BT, BT, BT, BT, BT, BT, BT, BT, BT, BT, BT, BT, BT, BT, BT, BT, BT, BT, BT, BT, BT, BT, BT, BT, BT, BT, BT, BT, BT, BT, BT, BT, BT, BT, BT, BT, BT, BT, BT, BT, BT, BT, BT, BT, BT, BT, BT, BT, BT, BT, BT, BT, BT, BT, BT, BT, BT, BT, BT, BT, BT, BT, BT, BT, BT, BT, BT, BT, BT, BT, BT, BT, BT, BT, BT, BT] (fun q s2 => ∃ (i : Nat) (s : TS) (wv ov cv : V) (cl : List V) (k1 k2 k3 : Nat) (c1 c2 c3 : List V), q = N - i /\ i <= N /\ tv s2.e 18 = .v (.int .i64 i) /\ tv s2.e 2 = .v (.int .i64 s.m) /\ tv s2.e 3 = .v wv /\ tv s2.e 4 = .v ov /\ s2.l = [(k1, c1), (k2, c2), (k3, c3)] /\ WM H0 s2.h nb b g N S mv s wv ov cv cl /\ TInv N nd s /\ TC s /\ s.W = [] /\ ∀ u, u < i -> 0 < s.mt u)
    (fun y s2 => y = .exit 0 /\ ∃ (s : TS) (wv ov cv : V) (cl : List V), WM H0 s2.h nb b g N S mv s wv ov cv cl /\ TInv N nd s /\ s.W = [] /\ ∀ u, u < N -> 0 < s.mt u) (N - 0)
    ⟨0, TS.init, _, _, _, _, _, _, _, _, _, _, rfl, Nat.zero_le _, rfl, rfl, rfl, rfl, rfl, hWM0.out, hT0.out, hC0.out, rfl, fun u hu => absurd hu (Nat.not_lt_zero _)⟩ ?_ ?_
  · intro q ⟨e', l', G⟩ hW ⟨i, s, wv, ov, cv, cl, k1, k2, k3, c1, c2, c3, hq, hi, h18, h2, h3, h4, hl, hWM, hT, hC, hsW, hmet⟩
    dsimp only at hW h18 h2 h3 h4 hl hWM
    subst l'
    rw [hW.spread]
    simp only [spread_t,spread_f,spread_n,Nat.zero_add,Nat.reduceAdd,h18,h2,h3,h4]
    clear hW hQ' hWM0 hT0 hC0
    have hn1 := hWM.net.net
    have hn2 := hWM.net.nodes
    by_cases hlt : i < N
    · have hlt' : (i : Int) < (N : Int) := by omega
      have g1 : 0 <= (i : Int) /\ (i : Int) < (N : Int) := by omega
      by_cases hm : 0 < s.mt i
      · have hm' : (0 : Int) < (s.mt i : Int) := by omega
        have hWM' := Hid.mk hWM
        have hT' := Hid.mk hT
        have hC' := Hid.mk hC
        have hsW' := Hid.mk hsW
        have hmet' := Hid.mk hmet
        clear hWM hT hC hsW hmet
        (repeat' (first | (simp -implicitDefEqProofs (maxSteps := 1000000) (disch := first | assumption | omega | (simp only [ZDI]; omega)) only [*,lenV,nfl_m,G35,Za,Zb,Zc,Zd,Ze,Zf,Zg,Zh,Zi,Zj,Zk,Zl,Zm,Zn,Zo,Ja,Jb,Jc,J6,Jd,Je,rd,J7,J8,Jf,Jg,Jh,Ji,Jj,Jk,J9,Jl,Jm,wr,Jn,JA,JB,Jo,Jp,Jq,Jr,Js,Jt,Ju,Jv,Jw,Jx,Jy,Jz,J0,J1,J2,J3,J4,J5,reduceCtorEq,JC,JD,JE,JF,JG,JH,JI,JJ]) | ((with_reducible (first | apply Ok.br | apply Ok.gd | apply Ok.ld)) <;> (intro g; (try simp only [ZGS] at g); try (exfalso; omega)))))
        exact Turn.next (N - (i + 1)) (by omega) ⟨rfl, i + 1, s, _, _, _, _, _, _, _, _, _, _, rfl, by omega, rfl, rfl, rfl, rfl, rfl, hWM'.out, hT'.out, hC'.out, hsW'.out, fun u hu => by
          by_cases e : u = i
          · rw [e]; exact hm
          · exact hmet'.out u (by omega)⟩
      · have hm' : ¬ (0 : Int) < (s.mt i : Int) := by omega
        have h0 : s.mt i = 0 := by omega
        have happ := happW'.out
        have hok : VecOk G wv 2 := hWM.way.ok (by rw [hsW]; decide)
        have hP := hWM.way.push (q := [V.int .i64 i, V.int .i64 0]) (by rw [hsW]; decide) rfl
        obtain ⟨a9, c9, y9, hsh⟩ := hP.sl
        have hoP := own_push G wv 2 [V.int .i64 i, V.int .i64 0]
        rw [hsh] at hP hoP
        rw [show s.W.length + 1 = 1 by rw [hsW]; rfl] at hsh hP hoP
        have hkP := vpush_keeps G wv 2 [V.int .i64 i, V.int .i64 0]
        have hb1 : nb ∉ own wv := fun h => by have := (hWM.sw nb h).1; omega
        have hb2 : b ∉ own wv := fun h => by have := (hWM.sw b h).1; omega
        have hWM2 : WM H0 (vpush G wv 2 [V.int .i64 i, V.int .i64 0]).2 nb b g N S mv { s with W := [(i, 0)] } (.sl a9 1 c9 y9) ov cv cl := by
          refine hWM.next (fun l hl => (hT.csok l hl).2) _ hkP (fun x hx => .inr (.inr hx)) (hWM.net.keep hkP hb1 hb2) ?_ (fun x hx => (hoP x hx).imp id fun e => by omega) rfl rfl
          rw [hsW] at hP
          exact hP
        have hT2 := hT.root hsW hlt h0
        have hC2 : TC { s with W := [(i, 0)] } := ⟨hC.le, hC.all⟩
        have hWM2' := Hid.mk hWM2
        have hT2' := Hid.mk hT2
        have hC2' := Hid.mk hC2
        have hmet' := Hid.mk hmet
        clear hWM2 hT2 hC2 hmet hWM hT hC hP hoP hkP hb1 hb2
        (repeat' (first | (simp -implicitDefEqProofs (maxSteps := 1000000) (disch := first | assumption | omega | exact hgA _ | exact hgB _ | (simp only [ZDI]; omega)) only [*,lenV,nfl_m,List.drop_zero,List.take_succ_cons,List.take_zero,G35,Za,Zb,Zc,Zd,Ze,Zf,Zg,Zh,Zi,Zj,Zk,Zl,Zm,Zn,Zo,Ja,Jb,Jc,J6,Jd,Je,rd,J7,J8,Jf,Jg,Jh,Ji,Jj,Jk,J9,Jl,Jm,wr,Jn,JA,JB,Jo,Jp,Jq,Jr,Js,Jt,Ju,Jv,Jw,hcells_push,Jy,Jz,J0,J1,J2,J3,J4,J5,reduceCtorEq,JC,JD,JE,JF,JG,JH,JI,JJ]) | ((with_reducible (first | apply Ok.br | apply Ok.gd | apply Ok.ld)) <;> (intro g; (try simp only [ZGS] at g); try (exfalso; omega)))))
        clear hsh hok happ hn1 hn2 hm' hsW hm h18 h2 h3 h4
        refine Ok.loop [BF, BF, BT, BT, BT, BF, BT, BT, BT, BT, BT, BT, BT, BF, BF, BF, BF, BF, BF, BF, BF, BF, BF, BF, BF, BF, BF, BF, BF, BF, BF, BF, BF, BF, BF, BT, BT, BT, BT, BT, BT, BT, BT, BT, BT, BT, BT, BT, BT, BT, BT, BT, BT, BT, BT, BT, BT, BT, BT, BT, BT, BT, BT, BT, BT, BT, BT, BT, BT, BT, BT, BT, BT, BT, BT, BT, BT, BT, BT, BT, BT, BT, BT, BT, BT, BT, BT, BT, BT, BT, BT, BT, BT, BT, BT, BT, BT, BT, BT, BT, BT, BT, BT, BT, BT, BT, BT, BT, BT, BT, BT, BT, BT, BT, BT, BT, BT, BT, BT, BT, BT, BT, BT, BT, BT, BT, BT, BT, BT, BT, BT, BT, BT, BT, BT, BT, BT, BT, BT, BT, BT, BT, BT, BT, BT, BT, BT, BT, BT, BT, BT, BT, BT, BT, BT, BT, BT, BT, BT, BT, BT, BT, BT, BT, BT, BT, BT, BT, BT, BT, BT, BT, BT, BT, BT, BT, BT, BT, BT, BT, BT, BT, BT, BT, BT, BT, BT, BT, BT, BT, BT, BT, BF] (fun q s2 => ∃ (s : TS) (wv ov cv : V) (cl : List V) (k1 k2 k3 : Nat) (c1 c2 c3 : List V), q = 2 * unm N s + s.W.length /\ tv s2.e 2 = .v (.int .i64 s.m) /\ tv s2.e 3 = .v wv /\ tv s2.e 4 = .v ov /\ s2.l = [(k1, c1), (k2, c2), (k3, c3)] /\ WM H0 s2.h nb b g N S mv s wv ov cv cl /\ TInv N nd s /\ TC s /\ (∀ u, u < i -> 0 < s.mt u) /\ (0 < s.mt i \/ ∃ p ∈ s.W, p.1 = i))
          (fun y s2 => y = .exit 2 /\ ∃ (s : TS) (wv ov cv : V) (cl : List V) (k1 k2 k3 : Nat) (c1 c2 c3 : List V), tv s2.e 2 = .v (.int .i64 s.m) /\ tv s2.e 3 = .v wv /\ tv s2.e 4 = .v ov /\ s2.l = [(k1, c1), (k2, c2), (k3, c3)] /\ WM H0 s2.h nb b g N S mv s wv ov cv cl /\ TInv N nd s /\ TC s /\ s.W = [] /\ ∀ u, u < i + 1 -> 0 < s.mt u) (2 * unm N { s with W := [(i, 0)] } + 1)
          ⟨{ s with W := [(i, 0)] }, _, _, _, _, _, _, _, _, _, _, rfl, rfl, rfl, rfl, rfl, hWM2'.out, hT2'.out, hC2'.out, hmet'.out, .inr ⟨_, List.mem_cons_self, rfl⟩⟩ ?_ ?_
        · intro q1 ⟨e1, l1, G1⟩ hW ⟨s, wv, ov, cv, cl, k1, k2, k3, c1, c2, c3, hq1, h2, h3, h4, hl, hWM, hT, hC, hmet, hroot⟩
          dsimp only at hW h2 h3 h4 hl hWM
          subst l1
          rw [hW.spread]
          simp only [spread_t,spread_f,spread_n,Nat.zero_add,Nat.reduceAdd,h2,h3,h4]
          clear hW hWM2' hT2' hC2' hmet' h0
          have hn1 := hWM.net.net
          have hn2 := hWM.net.nodes
          cases hsW : s.W with
          | nil =>
            have hw := hWM.way
            rw [hsW] at hw
            simp only [List.length_nil] at hw
            obtain ⟨a0, c0, y0, rfl⟩ := hw.sl
            have hmi : ∀ u, u < i + 1 -> 0 < s.mt u := fun u hu => by
              rcases hroot with k | ⟨p, hp, _⟩
              · by_cases e : u = i
                · rw [e]; exact k
                · exact hmet u (by omega)
              · rw [hsW] at hp; cases hp
            have hWM' := Hid.mk hWM
            have hT' := Hid.mk hT
            have hC' := Hid.mk hC
            have hmi' := Hid.mk hmi
            have hsW' := Hid.mk hsW
            clear hWM hT hC hmet hroot hw hmi hsW
            (repeat' (first | (simp -implicitDefEqProofs (maxSteps := 1000000) (disch := first | assumption | omega | (simp only [ZDI]; omega)) only [*,lenV,G35,Za,Zb,Zc,Zd,Ze,Zf,Zg,Zh,Zi,Zj,Zk,Zl,Zm,Zn,Zo,Ja,Jb,Jc,J6,Jd,Je,rd,J7,J8,Jf,Jg,Jh,Ji,Jj,Jk,J9,Jl,Jm,wr,Jn,JA,JB,Jo,Jp,Jq,Jr,Js,Jt,Ju,Jv,Jw,Jx,Jy,Jz,J0,J1,J2,J3,J4,J5,reduceCtorEq,JC,JD,JE,JF,JG,JH,JI,JJ]) | ((with_reducible (first | apply Ok.br | apply Ok.gd | apply Ok.ld)) <;> (intro g; (try simp only [ZGS] at g); try (exfalso; omega)))))
            exact Turn.exit ⟨rfl, rfl, s, _, _, _, _, _, _, _, _, _, _, rfl, rfl, rfl, rfl, hWM'.out, hT'.out, hC'.out, hsW'.out, hmi'.out⟩
          | cons p r =>
            obtain ⟨a, nx⟩ := p
            have hwl : s.W.length = r.length + 1 := by rw [hsW]; rfl
            have hw := hWM.way
            rw [hsW] at hw
            obtain ⟨wb, wg, cap, rest, rfl, hw1, hw2, hw3, hw4⟩ := hw.top rfl
            have haN : a < N := (hT.wdom (a, nx) (by rw [hsW]; exact List.mem_cons_self)).1
            have hswb := hWM.sw wb (by simp [own])
            have hwb1 : wb ≠ b := by omega
            have hwb2 : wb ≠ nb := by omega
            have hwb3 : H0.length <= wb := hswb.1
            have hwb4 := hcells_lt hw1
            have hrl : r.length < 100000 := by have := hT.w_le; omega
            have hml : s.m <= 100000 := by have := hC.m_le hT; omega
            have E1 : ((r.length + 1 : Nat) : Int) - 1 = (r.length : Int) := by omega
            have gr : (0 : Int) < ((r.length + 1 : Nat) : Int) := by omega
            have g2 : 0 <= (r.length : Int) /\ (r.length : Int) < ((r.length + 1 : Nat) : Int) := by omega
            have g3 : 0 <= (a : Int) /\ (a : Int) < (N : Int) := by omega
            have x4 : a * 7 + 4 < N * 7 := by omega
            have x5 : a * 7 + 5 < N * 7 := by omega
            have hbG : b < G1.length := by have := hWM.keep.1; omega
            have hle2 : 2 * unm N s + (r.length + 1) <= q1 := by omega
            have hwbne : b ≠ wb := hwb1.symm
            clear hw hswb hq1 hwl
            by_cases h0 : s.mt a = 0
            case' pos =>
              have h0' : (s.mt a : Int) = 0 := by omega
              have e1m : (s.m : Int) + 1 = ((s.m + 1 : Nat) : Int) := by omega
              have hbo : b ∉ own ov := fun h => by have := (hWM.so b h).1; omega
              have hkM : Keeps [b] G1 (G1.set b (.cells g true (nfl N S (upd s.mt a (s.m + 1)) (upd s.lw a (s.m + 1)) s.cp))) := (Keeps.refl _ _).set (.inl (by simp)) _
              have hoM := hWM.opn.keep hkM (fun x hx => by have : x ≠ b := fun e => hbo (e ▸ hx); simpa using this)
              have hOl : s.O.length < 100000000 := by have := hC.le; omega
              have hok : VecOk (G1.set b (.cells g true (nfl N S (upd s.mt a (s.m + 1)) (upd s.lw a (s.m + 1)) s.cp))) ov 1 := hoM.ok hOl
              have hP := hoM.push (q := [V.int .i64 a]) hOl rfl
              obtain ⟨a9, c9, y9, hsh⟩ := hP.sl
              have hoP := own_push (G1.set b (.cells g true (nfl N S (upd s.mt a (s.m + 1)) (upd s.lw a (s.m + 1)) s.cp))) ov 1 [V.int .i64 a]
              rw [hsh] at hP hoP
              have hkP := vpush_keeps (G1.set b (.cells g true (nfl N S (upd s.mt a (s.m + 1)) (upd s.lw a (s.m + 1)) s.cp))) ov 1 [V.int .i64 a]
              have hkk : Keeps ([b] ++ own ov) G1 (vpush (G1.set b (.cells g true (nfl N S (upd s.mt a (s.m + 1)) (upd s.lw a (s.m + 1)) s.cp))) ov 1 [V.int .i64 a]).2 :=
                (hkM.mono fun i _ h => List.mem_append.2 (.inl h)).wide hkP fun j hj _ => List.mem_append.2 (.inr hj)
              have hnbo : nb ∉ own ov := fun h => by have := (hWM.so nb h).1; omega
              have hne := hWM.net.ne
              have hWM2 : WM H0 (vpush (G1.set b (.cells g true (nfl N S (upd s.mt a (s.m + 1)) (upd s.lw a (s.m + 1)) s.cp))) ov 1 [V.int .i64 a]).2 nb b g N S mv { s with m := s.m + 1, mt := upd s.mt a (s.m + 1), lw := upd s.lw a (s.m + 1), O := a :: s.O } (.sl (.at wb wg 0) (r.length + 1) cap 2) (.sl a9 (s.O.length + 1) c9 y9) cv cl := by
                refine hWM.open (fun l hl => (hT.csok l hl).2) _ hkk (fun x hx => ?_) ⟨?_, ?_, hne⟩ ?_ (fun x hx => ?_) rfl rfl
                · simp only [List.cons_append,List.nil_append,List.mem_cons] at hx
                  exact hx.imp id .inr
                · exact hkP.cells ((hcells_set_ne hne).trans hn1) hnbo
                · exact hkP.cells (hcells_set_eq hbG) hbo
                · dsimp only
                  rw [List.reverse_cons, ofN_app, List.length_cons]
                  exact hP
                · refine (hoP x hx).imp id fun e => ?_
                  rw [List.length_set] at e; omega
              have hT2 := hT.enter hsW h0
              have hC2 := hC.enter h0
              have hmet2 : ∀ u, u < i -> 0 < upd s.mt a (s.m + 1) u := fun u hu => by
                by_cases e : u = a
                · rw [e, upd_eq]; omega
                · rw [upd_ne _ _ e]; exact hmet u hu
              have hroot2 : 0 < upd s.mt a (s.m + 1) i \/ ∃ p ∈ s.W, p.1 = i := hroot.imp (fun k => by
                by_cases e : i = a
                · rw [e, upd_eq]; omega
                · rw [upd_ne _ _ e]; exact k) id
              have hun : unm N { s with m := s.m + 1, mt := upd s.mt a (s.m + 1), lw := upd s.lw a (s.m + 1), O := a :: s.O } <= unm N s := unm_le fun u hu h1 h2 => by
                dsimp only at h1 h2
                by_cases e : u = a
                · rw [e, upd_eq] at h1; omega
                · rw [upd_ne _ _ e] at h1; exact ⟨h1, h2⟩
              have hWM2' := Hid.mk hWM2
              have hT2' := Hid.mk hT2
              have hC2' := Hid.mk hC2
              have hmet2' := Hid.mk hmet2
              have hroot2' := Hid.mk hroot2
              have hsW' := Hid.mk hsW
              have happ := happO'.out
              clear hWM2 hT2 hC2 hmet2 hroot2 hWM hT hC hmet hroot hkM hoM hP hoP hkP hkk hsW
              (repeat' (first | (simp -implicitDefEqProofs (maxSteps := 1000000) (disch := first | assumption | omega | exact hgA _ | exact hgB _ | (simp only [ZDI]; omega)) only [*,lenV,nfl_m,nfl_sm,nfl_sw,nfl_len,way_a,List.drop_zero,List.take_succ_cons,List.take_zero,G35,Za,Zb,Zc,Zd,Ze,Zf,Zg,Zh,Zi,Zj,Zk,Zl,Zm,Zn,Zo,Ja,Jb,Jc,J6,Jd,Je,rd,J7,J8,Jf,Jg,Jh,Ji,Jj,Jk,J9,Jl,Jm,wr,Jn,JA,JB,Jo,Jp,Jq,Jr,Js,Jt,Ju,Jv,Jw,hcells_push,Jy,Jz,J0,J1,J2,J3,J4,J5,reduceCtorEq,JC,JD,JE,JF,JG,JH,JI,JJ]) | ((with_reducible (first | apply Ok.br | apply Ok.gd | apply Ok.ld)) <;> (intro g; (try simp only [ZGS] at g); try (exfalso; omega)))))
              obtain ⟨s1, hs1⟩ : ∃ s1 : TS, s1 = { s with m := s.m + 1, mt := upd s.mt a (s.m + 1), lw := upd s.lw a (s.m + 1), O := a :: s.O } := ⟨_, rfl⟩
              have hm1 : s.m + 1 = s1.m := by rw [hs1]
              have hWM3 := hWM2'.out
              have hT3 := hT2'.out
              have hC3 := hC2'.out
              rw [<- hs1] at hWM3 hT3 hC3 hun
              have hmet3 : ∀ u, u < i -> 0 < s1.mt u := by rw [hs1]; exact hmet2'.out
              have hroot3 : 0 < s1.mt i \/ ∃ p ∈ s1.W, p.1 = i := by rw [hs1]; exact hroot2'.out
              have hs1W : s1.W = (a, nx) :: r := by rw [hs1]; exact hsW'.out
              have haO : a ∈ s1.O := by rw [hs1]; exact List.mem_cons_self
              have hun3 : 2 * unm N s1 + (r.length + 1) <= q1 := by omega
              have hml3 : s1.m <= 100001 := by omega
              rw [hm1] at hWM3 ⊢
              generalize (vpush (G1.set b (.cells g true (nfl N S (upd s.mt a s1.m) (upd s.lw a s1.m) s.cp))) ov 1 [V.int .i64 a]).2 = G2 at hWM3 ⊢
              generalize V.sl a9 (s.O.length + 1) c9 y9 = ov1 at hWM3 ⊢
              clear hsh hok happ hWM2' hT2' hC2' hmet2' hroot2' hsW' hs1 hm1 hun h0 h0' e1m hml
            case' neg =>
              have h0' : ¬ (s.mt a : Int) = 0 := by omega
              have haO := hT.topO hsW (by omega)
              have hWM' := Hid.mk hWM
              have hT' := Hid.mk hT
              have hC' := Hid.mk hC
              have hsW' := Hid.mk hsW
              have hmet' := Hid.mk hmet
              have hroot' := Hid.mk hroot
              clear hWM hT hC hsW hmet hroot
              (repeat' (first | (simp -implicitDefEqProofs (maxSteps := 1000000) (disch := first | assumption | omega | (simp only [ZDI]; omega)) only [*,lenV,nfl_m,way_a,G35,Za,Zb,Zc,Zd,Ze,Zf,Zg,Zh,Zi,Zj,Zk,Zl,Zm,Zn,Zo,Ja,Jb,Jc,J6,Jd,Je,rd,J7,J8,Jf,Jg,Jh,Ji,Jj,Jk,J9,Jl,Jm,wr,Jn,JA,JB,Jo,Jp,Jq,Jr,Js,Jt,Ju,Jv,Jw,Jx,Jy,Jz,J0,J1,J2,J3,J4,J5,reduceCtorEq,JC,JD,JE,JF,JG,JH,JI,JJ]) | ((with_reducible (first | apply Ok.br | apply Ok.gd | apply Ok.ld)) <;> (intro g; (try simp only [ZGS] at g); try (exfalso; omega)))))
              have hWM3 := hWM'.out
              have hT3 := hT'.out
              have hC3 := hC'.out
              have hmet3 := hmet'.out
              have hroot3 := hroot'.out
              have hs1W := hsW'.out
              have hun3 := hle2
              have hml3 : s.m <= 100001 := by omega
              obtain ⟨s1, rfl⟩ : ∃ s1, s1 = s := ⟨s, rfl⟩
              obtain ⟨G2, rfl⟩ : ∃ G2, G2 = G1 := ⟨G1, rfl⟩
              obtain ⟨ov1, rfl⟩ : ∃ ov1, ov1 = ov := ⟨ov, rfl⟩
              clear hWM' hT' hC' hsW' hmet' hroot' h0 h0' hml
            all_goals
              clear hw1 hw2 hw3 hw4 hwb4 hbG hle2 hn1 hn2 h2 h3 h4
              refine Ok.loop [BF, BF, BF, BT, BF, BF, BF, BF, BT, BT, BF, BF, BF, BF, BF, BF, BF, BF, BF, BF, BF, BF, BF, BF, BF, BF, BF, BF, BF, BF, BF, BF, BF, BF, BF, BF, BF, BF, BF, BF, BF, BF, BF, BF, BF, BF, BF, BF, BF, BF, BF, BF, BF, BF, BF, BF, BF, BF, BF, BF, BF, BF, BF, BF, BF, BF, BF, BF, BF, BF, BF, BF, BF, BF, BT, BT, BT, BT, BT, BT, BT, BT, BT, BT, BT, BT, BT, BT, BT, BT, BT, BT, BT, BT, BT, BT, BT, BT, BT, BT, BT, BT, BT, BT, BT, BT, BT, BT, BT, BT, BT, BT, BT, BT, BT, BT, BT, BT, BT, BT, BT, BT, BT, BT, BT, BT, BT, BT, BT, BT, BT, BT, BT, BT, BF, BF, BF, BF, BF, BF, BF, BF, BF, BF, BF, BF, BF, BF, BF, BF, BF, BF, BF, BF, BF, BF, BF, BF, BF, BF, BF, BF, BF, BF, BF, BF, BF, BF, BF, BF, BF, BF, BF, BF, BF, BF, BF, BF, BF, BF, BF, BF, BF, BF, BF, BF, BF, BF, BF, BF, BF, BF, BF] (fun q s2 => ∃ (nx' : Nat) (s' : TS) (k1 k2 k3 : Nat) (c1 c2 c3 : List V), q = (nd a).length - nx' /\ s'.W = (a, nx') :: r /\ tv s2.e 3 = .v (.sl (.at wb wg 0) (r.length + 1) cap 2) /\ s2.l = [(k1, c1), (k2, c2), (k3, c3)] /\ WM H0 s2.h nb b g N S mv s' (.sl (.at wb wg 0) (r.length + 1) cap 2) ov1 cv cl /\ TInv N nd s' /\ TC s' /\ a ∈ s'.O /\ s'.m = s1.m /\ 2 * unm N s' + (r.length + 1) <= q1 /\ (∀ u, u < i -> 0 < s'.mt u) /\ (0 < s'.mt i \/ ∃ p ∈ s'.W, p.1 = i))
                (fun y s2 => ∃ (s' : TS) (k1 k2 k3 : Nat) (c1 c2 c3 : List V), s2.l = [(k1, c1), (k2, c2), (k3, c3)] /\ TInv N nd s' /\ TC s' /\ s'.m = s1.m /\ (∀ u, u < i -> 0 < s'.mt u) /\ (0 < s'.mt i \/ ∃ p ∈ s'.W, p.1 = i) /\
                  ((y = .exit 4 /\ s'.W = (a, (nd a).length) :: r /\ a ∈ s'.O /\ tv s2.e 3 = .v (.sl (.at wb wg 0) (r.length + 1) cap 2) /\ WM H0 s2.h nb b g N S mv s' (.sl (.at wb wg 0) (r.length + 1) cap 2) ov1 cv cl /\ 2 * unm N s' + (r.length + 1) <= q1) \/
                   (y = .exit 3 /\ ∃ wv', tv s2.e 3 = .v wv' /\ WM H0 s2.h nb b g N S mv s' wv' ov1 cv cl /\ 2 * unm N s' + s'.W.length < q1))) ((nd a).length - nx)
                ⟨nx, s1, _, _, _, _, _, _, rfl, hs1W, rfl, rfl, hWM3, hT3, hC3, haO, rfl, hun3, hmet3, hroot3⟩ ?_ ?_
              · intro q2 ⟨e2, l2, G3⟩ hW ⟨nx', s', k1, k2, k3, c1, c2, c3, hq2, hsW, h3, hl, hWM, hT, hC, haO, hsm, hun, hmet, hroot⟩
                dsimp only at hW h3 hl hWM
                subst l2
                rw [hW.spread]
                simp only [spread_t,spread_f,spread_n,Nat.zero_add,Nat.reduceAdd,h3]
                clear hW hWM3 hT3 hC3 hmet3 hroot3 hs1W hun3
                have hn1 := hWM.net.net
                have hn2 := hWM.net.nodes
                have hw := hWM.way
                rw [hsW] at hw
                obtain ⟨wb', wg', cap', rest, e0, hw1, hw2, hw3, hw4⟩ := hw.top rfl
                cases e0
                have hwbG := hcells_lt hw1
                have hbG := hcells_lt hn2
                obtain ⟨va, ncap, nz, hva, hnl, hnf⟩ := hnd'.out G3 hWM.keep a haN
                clear hw
                by_cases hlt : nx' < (nd a).length
                · rcases hnf with e | ⟨b4, g4, o4, rw4, full4, rfl, hb4, hfull4⟩
                  · rw [e] at hlt; simp at hlt
                  have hlt' : (nx' : Int) < ((nd a).length : Int) := by omega
                  have g5 : 0 <= (nx' : Int) /\ (nx' : Int) < ((nd a).length : Int) := by omega
                  obtain ⟨k, hk⟩ : ∃ k, (nd a)[nx']? = some k := ⟨_, List.getElem?_eq_getElem hlt⟩
                  have hfk := hfull4 nx' k hk
                  have hkN := hdom'.out a haN k (List.mem_of_getElem? hk)
                  have g6 : 0 <= (k : Int) /\ (k : Int) < (N : Int) := by omega
                  have e2x : (nx' : Int) + 1 = ((nx' + 1 : Nat) : Int) := by omega
                  have x6 : r.length * 2 + 1 < cap * 2 := by omega
                  have x7 : (flL (frames r) ++ V.int .i64 a :: V.int .i64 nx' :: rest).length = cap * 2 := by simp only [List.length_append,way_len,List.length_cons]; omega
                  have hkM : Keeps [wb] G3 (G3.set wb (.cells wg true (flL (frames r) ++ V.int .i64 a :: V.int .i64 ((nx' + 1 : Nat) : Int) :: rest))) := (Keeps.refl _ _).set (.inl (by simp)) _
                  have hvM : VecAt (G3.set wb (.cells wg true (flL (frames r) ++ V.int .i64 a :: V.int .i64 ((nx' + 1 : Nat) : Int) :: rest))) (.sl (.at wb wg 0) (r.length + 1) cap 2) 2 (r.length + 1) (flL (frames ((a, nx' + 1) :: r))) := VecAt.ofTop (hcells_set_eq hwbG) hw2 hw3 hw4
                  have hne := hWM.net.ne
                  have hbM : b < ((G3.set wb (.cells wg true (flL (frames r) ++ V.int .i64 a :: V.int .i64 ((nx' + 1 : Nat) : Int) :: rest)))).length := by rw [List.length_set]; exact hbG
                  have hbnw : b ∉ own (V.sl (.at wb wg 0) (r.length + 1) cap 2) := by simp [own]; omega
                  have hnbnw : nb ∉ own (V.sl (.at wb wg 0) (r.length + 1) cap 2) := by simp [own]; omega
                  by_cases hk0 : s'.mt k = 0
                  · have hk0' : (s'.mt k : Int) = 0 := by omega
                    have hkn : k ∉ s'.W.map Prod.fst := fun h => by
                      obtain ⟨p, hp, e⟩ := List.mem_map.1 h
                      rw [hsW] at hp
                      rcases List.mem_cons.1 hp with e2 | hp
                      · rw [e2] at e; dsimp only at e; have := ((hT.opn a).1 haO).1; rw [e] at this; omega
                      · have := ((hT.opn p.1).1 (hT.wtail p (by rw [hsW]; exact hp))).1; rw [e] at this; omega
                    have hup := unm_push hsW hk0 hkn hkN
                    have hok : VecOk (G3.set wb (.cells wg true (flL (frames r) ++ V.int .i64 a :: V.int .i64 ((nx' + 1 : Nat) : Int) :: rest))) (.sl (.at wb wg 0) (r.length + 1) cap 2) 2 := hvM.ok (by omega)
                    have hP := hvM.push (q := [V.int .i64 k, V.int .i64 0]) (by omega) rfl
                    obtain ⟨a9, c9, y9, hsh⟩ := hP.sl
                    have hoP := own_push (G3.set wb (.cells wg true (flL (frames r) ++ V.int .i64 a :: V.int .i64 ((nx' + 1 : Nat) : Int) :: rest))) (.sl (.at wb wg 0) (r.length + 1) cap 2) 2 [V.int .i64 k, V.int .i64 0]
                    rw [hsh] at hP hoP
                    have hkP := vpush_keeps (G3.set wb (.cells wg true (flL (frames r) ++ V.int .i64 a :: V.int .i64 ((nx' + 1 : Nat) : Int) :: rest))) (.sl (.at wb wg 0) (r.length + 1) cap 2) 2 [V.int .i64 k, V.int .i64 0]
                    have hWM2 : WM H0 (vpush (G3.set wb (.cells wg true (flL (frames r) ++ V.int .i64 a :: V.int .i64 ((nx' + 1 : Nat) : Int) :: rest))) (.sl (.at wb wg 0) (r.length + 1) cap 2) 2 [V.int .i64 k, V.int .i64 0]).2 nb b g N S mv { s' with W := (k, 0) :: (a, nx' + 1) :: r } (.sl a9 (r.length + 1 + 1) c9 y9) ov1 cv cl := by
                      refine hWM.next (fun l hl => (hT.csok l hl).2) [wb] (hkM.trans hkP) (fun x hx => .inr (.inr hx)) ⟨?_, ?_, hne⟩ ?_ (fun x hx => ?_) rfl rfl
                      · exact hkP.cells ((hcells_set_ne hwb2.symm).trans hn1) hnbnw
                      · exact hkP.cells ((hcells_set_ne hwbne).trans hn2) hbnw
                      · dsimp only
                        rw [frames_cons, flL_app]
                        exact hP
                      · refine (hoP x hx).imp id fun e => ?_
                        rw [List.length_set] at e; omega
                    have hT2 := hT.push hdom'.out hsW haO hk hk0
                    have hC2 : TC { s' with W := (k, 0) :: (a, nx' + 1) :: r } := ⟨hC.le, hC.all⟩
                    have hroot2 : 0 < s'.mt i \/ ∃ p ∈ (k, 0) :: (a, nx' + 1) :: r, p.1 = i := hroot.imp id fun ⟨p, hp, e⟩ => by
                      rw [hsW] at hp
                      rcases List.mem_cons.1 hp with e2 | hp
                      · rw [e2] at e; exact ⟨(a, nx' + 1), List.mem_cons_of_mem _ List.mem_cons_self, e⟩
                      · exact ⟨p, List.mem_cons_of_mem _ (List.mem_cons_of_mem _ hp), e⟩
                    have hWM2' := Hid.mk hWM2
                    have hT2' := Hid.mk hT2
                    have hC2' := Hid.mk hC2
                    have hmet' := Hid.mk hmet
                    have hroot2' := Hid.mk hroot2
                    have happ := happW'.out
                    have hup' := Hid.mk hup
                    clear hWM2 hT2 hC2 hroot2 hWM hT hC hmet hroot hkM hvM hP hoP hkP hkn hk hfull4 hsW hup
                    (repeat' (first | (simp -implicitDefEqProofs (maxSteps := 1000000) (disch := first | assumption | omega | exact hgA _ | exact hgB _ | (simp only [ZDI]; omega)) only [*,lenV,nfl_v,nfl_m,way_b,way_sb,List.drop_zero,List.take_succ_cons,List.take_zero,G35,Za,Zb,Zc,Zd,Ze,Zf,Zg,Zh,Zi,Zj,Zk,Zl,Zm,Zn,Zo,Ja,Jb,Jc,J6,Jd,Je,rd,J7,J8,Jf,Jg,Jh,Ji,Jj,Jk,J9,Jl,Jm,wr,Jn,JA,JB,Jo,Jp,Jq,Jr,Js,Jt,Ju,Jv,Jw,hcells_push,Jy,Jz,J0,J1,J2,J3,J4,J5,reduceCtorEq,JC,JD,JE,JF,JG,JH,JI,JJ]) | ((with_reducible (first | apply Ok.br | apply Ok.gd | apply Ok.ld)) <;> (intro g; (try simp only [ZGS] at g); try (exfalso; omega)))))
                    exact Turn.exit ⟨rfl, _, _, _, _, _, _, _, rfl, hT2'.out, hC2'.out, hsm, hmet'.out, hroot2'.out, .inr ⟨rfl, _, rfl, hWM2'.out, by have := hup'.out; simp only [List.length_cons]; omega⟩⟩
                  · have hk0' : ¬ (s'.mt k : Int) = 0 := by omega
                    have hT2 := hT.see hsW haO hk (by omega)
                    have hroot2 : 0 < s'.mt i \/ ∃ p ∈ (a, nx' + 1) :: r, p.1 = i := hroot.imp id fun ⟨p, hp, e⟩ => by
                      rw [hsW] at hp
                      rcases List.mem_cons.1 hp with e2 | hp
                      · rw [e2] at e; exact ⟨(a, nx' + 1), List.mem_cons_self, e⟩
                      · exact ⟨p, List.mem_cons_of_mem _ hp, e⟩
                    have hun2 : ∀ f : Nat -> Nat, unm N { s' with W := (a, nx' + 1) :: r, lw := f } <= unm N s' := fun f => unm_le fun u hu h1 h2 => by
                      refine ⟨h1, ?_⟩
                      rw [hsW]
                      simpa using h2
                    have hwbM : wb < ((G3.set wb (.cells wg true (flL (frames r) ++ V.int .i64 a :: V.int .i64 ((nx' + 1 : Nat) : Int) :: rest)))).length := by rw [List.length_set]; exact hwbG
                    by_cases hc : s'.cp k = none
                    · rw [if_pos hc] at hT2
                      have hcI : cpI (s'.cp k) = -1 := by rw [hc]; rfl
                      have hmin := min_cast (s'.lw a) (s'.mt k)
                      have hkB : Keeps [wb, b] G3 (((G3.set wb (.cells wg true (flL (frames r) ++ V.int .i64 a :: V.int .i64 ((nx' + 1 : Nat) : Int) :: rest)))).set b (.cells g true (nfl N S s'.mt (upd s'.lw a (min (s'.lw a) (s'.mt k))) s'.cp))) := (hkM.mono fun i _ h => by simp at h; simp [h]).set (.inl (by simp)) _
                      have hWM2 : WM H0 (((G3.set wb (.cells wg true (flL (frames r) ++ V.int .i64 a :: V.int .i64 ((nx' + 1 : Nat) : Int) :: rest)))).set b (.cells g true (nfl N S s'.mt (upd s'.lw a (min (s'.lw a) (s'.mt k))) s'.cp))) nb b g N S mv { s' with W := (a, nx' + 1) :: r, lw := upd s'.lw a (min (s'.lw a) (s'.mt k)) } (.sl (.at wb wg 0) (r.length + 1) cap 2) ov1 cv cl := by
                        refine hWM.next (fun l hl => (hT.csok l hl).2) [wb, b] hkB (fun x hx => ?_) ⟨?_, hcells_set_eq hbM, hne⟩ ?_ (fun x hx => .inl hx) rfl rfl
                        · simp only [List.mem_cons,List.not_mem_nil,or_false] at hx
                          rcases hx with e | e
                          · exact .inr (.inr (by simp [own, e]))
                          · exact .inl e
                        · exact (hcells_set_ne hne).trans ((hcells_set_ne hwb2.symm).trans hn1)
                        · exact hvM.keep (F := [b]) ((Keeps.refl _ _).set (.inl (by simp)) _) fun x hx => by
                            have : x = wb := by simpa [own] using hx
                            simp [this, hwb1]
                      have hC2 : TC { s' with W := (a, nx' + 1) :: r, lw := upd s'.lw a (min (s'.lw a) (s'.mt k)) } := ⟨hC.le, hC.all⟩
                      have hun3 := hun2 (upd s'.lw a (min (s'.lw a) (s'.mt k)))
                      have hWM2' := Hid.mk hWM2
                      have hT2' := Hid.mk hT2
                      have hC2' := Hid.mk hC2
                      have hmet' := Hid.mk hmet
                      have hroot2' := Hid.mk hroot2
                      have hun3' := Hid.mk hun3
                      clear hWM2 hT2 hC2 hroot2 hWM hT hC hmet hroot hkM hvM hk hfull4 hsW hun2 hkB hc hun3
                      (repeat' (first | (simp -implicitDefEqProofs (maxSteps := 1000000) (disch := first | assumption | omega | exact hgA _ | exact hgB _ | (simp only [ZDI]; omega)) only [*,lenV,nfl_v,nfl_m,nfl_w,nfl_c,nfl_sw,nfl_len,way_b,way_sb,G35,Za,Zb,Zc,Zd,Ze,Zf,Zg,Zh,Zi,Zj,Zk,Zl,Zm,Zn,Zo,Ja,Jb,Jc,J6,Jd,Je,rd,J7,J8,Jf,Jg,Jh,Ji,Jj,Jk,J9,Jl,Jm,wr,Jn,JA,JB,Jo,Jp,Jq,Jr,Js,Jt,Ju,Jv,Jw,hcells_push,Jy,Jz,J0,J1,J2,J3,J4,J5,reduceCtorEq,JC,JD,JE,JF,JG,JH,JI,JJ]) | ((with_reducible (first | apply Ok.br | apply Ok.gd | apply Ok.ld)) <;> (intro g; (try simp only [ZGS] at g); try (exfalso; omega)))))
                      exact Turn.next ((nd a).length - (nx' + 1)) (by omega) ⟨rfl, nx' + 1, _, _, _, _, _, _, _, rfl, rfl, rfl, rfl, hWM2'.out, hT2'.out, hC2'.out, haO, hsm, by have := hun3'.out; omega, hmet'.out, hroot2'.out⟩
                    · rw [if_neg hc] at hT2
                      obtain ⟨c, hcs⟩ : ∃ c, s'.cp k = some c := by
                        cases h : s'.cp k with
                        | none => exact absurd h hc
                        | some c => exact ⟨c, rfl⟩
                      have hcI : cpI (s'.cp k) = (c : Int) := by rw [hcs]; rfl
                      have hcn : ¬ (c : Int) < 0 := by omega
                      have hWM2 : WM H0 (G3.set wb (.cells wg true (flL (frames r) ++ V.int .i64 a :: V.int .i64 ((nx' + 1 : Nat) : Int) :: rest))) nb b g N S mv { s' with W := (a, nx' + 1) :: r } (.sl (.at wb wg 0) (r.length + 1) cap 2) ov1 cv cl := by
                        refine hWM.next (fun l hl => (hT.csok l hl).2) [wb] hkM (fun x hx => .inr (.inr hx)) ⟨?_, ?_, hne⟩ hvM (fun x hx => .inl hx) rfl rfl
                        · exact (hcells_set_ne hwb2.symm).trans hn1
                        · exact (hcells_set_ne hwbne).trans hn2
                      have hC2 : TC { s' with W := (a, nx' + 1) :: r } := ⟨hC.le, hC.all⟩
                      have hun3 := hun2 s'.lw
                      have hWM2' := Hid.mk hWM2
                      have hT2' := Hid.mk hT2
                      have hC2' := Hid.mk hC2
                      have hmet' := Hid.mk hmet
                      have hroot2' := Hid.mk hroot2
                      have hun3' := Hid.mk hun3
                      clear hWM2 hT2 hC2 hroot2 hWM hT hC hmet hroot hkM hvM hk hfull4 hsW hun2 hc hcs hun3
                      (repeat' (first | (simp -implicitDefEqProofs (maxSteps := 1000000) (disch := first | assumption | omega | exact hgA _ | exact hgB _ | (simp only [ZDI]; omega)) only [*,lenV,nfl_v,nfl_m,nfl_w,nfl_c,nfl_sw,nfl_len,way_b,way_sb,G35,Za,Zb,Zc,Zd,Ze,Zf,Zg,Zh,Zi,Zj,Zk,Zl,Zm,Zn,Zo,Ja,Jb,Jc,J6,Jd,Je,rd,J7,J8,Jf,Jg,Jh,Ji,Jj,Jk,J9,Jl,Jm,wr,Jn,JA,JB,Jo,Jp,Jq,Jr,Js,Jt,Ju,Jv,Jw,hcells_push,Jy,Jz,J0,J1,J2,J3,J4,J5,reduceCtorEq,JC,JD,JE,JF,JG,JH,JI,JJ]) | ((with_reducible (first | apply Ok.br | apply Ok.gd | apply Ok.ld)) <;> (intro g; (try simp only [ZGS] at g); try (exfalso; omega)))))
                      exact Turn.next ((nd a).length - (nx' + 1)) (by omega) ⟨rfl, nx' + 1, _, _, _, _, _, _, _, rfl, rfl, rfl, rfl, hWM2'.out, hT2'.out, hC2'.out, haO, hsm, by have := hun3'.out; omega, hmet'.out, hroot2'.out⟩
                · have hlt' : ¬ (nx' : Int) < ((nd a).length : Int) := by omega
                  have hnx : nx' = (nd a).length := by
                    have := (hT.wdom (a, nx') (by rw [hsW]; exact List.mem_cons_self)).2
                    dsimp only at this; omega
                  have hsW2 : s'.W = (a, (nd a).length) :: r := by rw [hsW, hnx]
                  have hWM' := Hid.mk hWM
                  have hT' := Hid.mk hT
                  have hC' := Hid.mk hC
                  have hmet' := Hid.mk hmet
                  have hroot' := Hid.mk hroot
                  have hsW' := Hid.mk hsW2
                  clear hWM hT hC hmet hroot hsW hnf hnx hsW2
                  (repeat' (first | (simp -implicitDefEqProofs (maxSteps := 1000000) (disch := first | assumption | omega | (simp only [ZDI]; omega)) only [*,lenV,nfl_v,way_b,G35,Za,Zb,Zc,Zd,Ze,Zf,Zg,Zh,Zi,Zj,Zk,Zl,Zm,Zn,Zo,Ja,Jb,Jc,J6,Jd,Je,rd,J7,J8,Jf,Jg,Jh,Ji,Jj,Jk,J9,Jl,Jm,wr,Jn,JA,JB,Jo,Jp,Jq,Jr,Js,Jt,Ju,Jv,Jw,Jx,Jy,Jz,J0,J1,J2,J3,J4,J5,reduceCtorEq,JC,JD,JE,JF,JG,JH,JI,JJ]) | ((with_reducible (first | apply Ok.br | apply Ok.gd | apply Ok.ld)) <;> (intro g; (try simp only [ZGS] at g); try (exfalso; omega)))))
                  exact Turn.exit ⟨rfl, s', _, _, _, _, _, _, rfl, hT'.out, hC'.out, hsm, hmet'.out, hroot'.out, .inl ⟨rfl, hsW'.out, haO, rfl, hWM'.out, hun⟩⟩
              · intro y ⟨e2, l2, G3⟩ hW ⟨s', k1, k2, k3, c1, c2, c3, hl, hT, hC, hsm, hmet, hroot, hcase⟩
                dsimp only at hW hl hcase
                subst l2
                rw [hW.spread]
                clear hW hWM3 hT3 hC3 hmet3 hroot3 hs1W hun3 haO
                rcases hcase with ⟨rfl, hsW, haO, h3, hWM, hun⟩ | ⟨rfl, wv', h3, hWM, hun⟩
                · simp only [spread_t,spread_f,spread_n,Nat.zero_add,Nat.reduceAdd,h3]
                  have hn1 := hWM.net.net
                  have hn2 := hWM.net.nodes
                  have hw := hWM.way
                  rw [hsW] at hw
                  obtain ⟨wb', wg', cap', rest, e0, hw1, hw2, hw3, hw4⟩ := hw.top rfl
                  cases e0
                  have hbG := hcells_lt hn2
                  have hne := hWM.net.ne
                  have hro : ∀ p ∈ r, p.1 ∈ s'.O := fun p hp => hT.wtail p (by rw [hsW]; exact hp)
                  have haM := ((hT.opn a).1 haO).1
                  have hun2 : ∀ (o : List Nat) (l : Nat -> Nat) (c : Nat -> Option Nat) (cs : List (List Nat)), unm N { s' with W := r, O := o, lw := l, cp := c, cs := cs } <= unm N s' := fun o l c cs => unm_le fun u hu h1 h2 => by
                    refine ⟨h1, ?_⟩
                    dsimp only at h1 h2
                    rw [hsW, List.map_cons, List.mem_cons, not_or]
                    refine ⟨fun e => ?_, h2⟩
                    dsimp only at e
                    rw [e] at h1; omega
                  have hroot2 : 0 < s'.mt i \/ ∃ p ∈ r, p.1 = i := by
                    rcases hroot with k | ⟨p, hp, e⟩
                    · exact .inl k
                    · rw [hsW] at hp
                      rcases List.mem_cons.1 hp with e2 | hp
                      · rw [e2] at e; dsimp only at e; rw [<- e]; exact .inl haM
                      · exact .inr ⟨p, hp, e⟩
                  have hcut : VecAt G3 (.sl (.at wb wg 0) r.length cap 2) 2 r.length (flL (frames r)) := by
                    have := hw.cut (m := r.length) (by omega)
                    rw [frames_cons, flL_app, List.take_left' (way_len r)] at this
                    exact this
                  have gc : 0 <= (r.length : Int) /\ (r.length : Int) <= (cap : Int) := by omega
                  have hmlN : s'.m <= N := hC.m_le hT
                  clear hw
                  by_cases hlow : s'.lw a = s'.mt a
                  · have hlow' : (s'.lw a : Int) = (s'.mt a : Int) := by omega
                    obtain ⟨seg, rst, hO⟩ := List.append_of_mem haO
                    have hOn : 0 < s'.O.length := by rw [hO]; simp; omega
                    obtain ⟨ob, og, ocap, ofull, rfl, ho1, ho2, ho3, ho4, ho5⟩ := hWM.opn.at hOn
                    have hrev : s'.O.reverse = rst.reverse ++ a :: seg.reverse := by rw [hO]; simp
                    have hnd1 : (rst.reverse ++ a :: seg.reverse).Nodup := by
                      rw [<- hrev]
                      unfold List.Nodup
                      rw [List.pairwise_reverse]
                      exact hT.osort.imp fun {x y} k e => by rw [e] at k; omega
                    have hark : a ∉ rst.reverse := fun h => (List.nodup_append.1 hnd1).2.2 a h a List.mem_cons_self rfl
                    have hso := hWM.so ob (by simp [own])
                    have hclose := close_at (k := rst.length) (a := a) hWM.net hWM.opn (by simp) (by rw [hrev, List.getElem?_append_right (by simp)]; simp)
                      (fun j hj => by
                        rw [hrev, List.getElem?_append_left (by simpa using hj)]
                        exact fun h => hark (List.mem_of_getElem? h))
                      (fun x hx => hT.dom x ((hT.opn x).1 (List.mem_reverse.1 hx)).1) hWM.cvs (by have := hC.le; omega) (by have := hC.le; omega)
                      (fun h => by have := hWM.sc nb h; omega) (fun h => by have := hWM.sc b h; omega) hso.2 (by omega) (by omega)
                    rw [hrev, List.drop_left' (by simp)] at hclose
                    have hlow2 := Hid.mk hlow
                    have hWM' := Hid.mk hWM
                    have hT' := Hid.mk hT
                    have hC' := Hid.mk hC
                    have hmet' := Hid.mk hmet
                    have hroot2' := Hid.mk hroot2
                    have hsW' := Hid.mk hsW
                    have hO' := Hid.mk hO
                    have hun2' := Hid.mk hun2
                    have hcut' := Hid.mk hcut
                    have hro' := Hid.mk hro
                    clear hWM hT hC hmet hroot hroot2 hsW hO hun2 hcut hro hrev hnd1 hark hso ho1 ho2 ho3 ho4 ho5 hlow
                    (repeat' (first | (simp -implicitDefEqProofs (maxSteps := 1000000) (disch := first | assumption | omega | (simp only [ZDI]; omega)) only [*,lenV,nfl_m,nfl_w,way_a,G35,Za,Zb,Zc,Zd,Ze,Zf,Zg,Zh,Zi,Zj,Zk,Zl,Zm,Zn,Zo,Ja,Jb,Jc,J6,Jd,Je,rd,J7,J8,Jf,Jg,Jh,Ji,Jj,Jk,J9,Jl,Jm,wr,Jn,JA,JB,Jo,Jp,Jq,Jr,Js,Jt,Ju,Jv,Jw,Jx,Jy,Jz,J0,J1,J2,J3,J4,J5,reduceCtorEq,JC,JD,JE,JF,JG,JH,JI,JJ]) | ((with_reducible (first | apply Ok.br | apply Ok.gd | apply Ok.ld)) <;> (intro g; (try simp only [ZGS] at g); try (exfalso; omega)))))
                    refine Ok.bnd2 hclose fun y3 h33 ⟨H', cv', v', c', hy3, hkp, hnet', hcv3, hv3, how, hoc, hperm, hpw⟩ => ?_
                    cases hy3
                    have hWMa := hWM'.out.closed (s' := { s' with O := rst, cp := setC s'.cp (a :: seg.reverse) s'.cs.length, cs := s'.cs ++ [c'] }) (fun l hl => (hT'.out.csok l hl).2) (ov' := .sl (.at ob og 0) rst.length ocap 1) hkp hnet' (by
                        have h1 := hWM'.out.opn.cut (m := rst.length) (by rw [hO'.out]; simp; omega)
                        have h2 : (ofN s'.O.reverse).take (rst.length * 1) = ofN rst.reverse := by
                          rw [hO'.out, List.reverse_append, List.reverse_cons, List.append_assoc, ofN_app, List.take_left' (by rw [ofN_len]; simp)]
                        rw [h2] at h1
                        exact h1.keep hkp fun x hx => by
                          have hx' : x = ob := by simpa [own] using hx
                          have := hWM'.out.so ob (by simp [own])
                          simp only [List.cons_append,List.nil_append,List.mem_cons,not_or]
                          refine ⟨by omega, by omega, by rw [hx']; exact this.2⟩)
                      (fun x hx => by simpa [own] using hx) rfl rfl hcv3 hv3 how hoc hpw
                    have hT2 := hT'.out.close (c := c') hsW'.out hO'.out hlow2.out (hperm.trans (by
                      refine List.perm_iff_count.2 fun x => ?_
                      simp [List.count_append, List.count_cons]))
                    rw [<- setC_eq] at hT2
                    have hcsn : ∀ l ∈ s'.cs ++ [c'], l ≠ [] := fun l hl => (hT2.csok l hl).2
                    have hcutH : VecAt h33 (.sl (.at wb wg 0) r.length cap 2) 2 r.length (flL (frames r)) := hcut'.out.keep hkp fun x hx => by
                      have hx' : x = wb := by simpa [own] using hx
                      have := hWM'.out.sw wb (by simp [own])
                      simp only [List.cons_append,List.nil_append,List.mem_cons,not_or]
                      refine ⟨by omega, by omega, by rw [hx']; exact this.2.2⟩
                    have hWM2 : WM H0 h33 nb b g N S mv { s' with W := r, O := rst, cp := setC s'.cp (a :: seg.reverse) s'.cs.length, cs := s'.cs ++ [c'] } (.sl (.at wb wg 0) r.length cap 2) (.sl (.at ob og 0) rst.length ocap 1) cv' (cl ++ [v']) :=
                      hWMa.next hcsn [] (Keeps.refl _ _) (fun x hx => nomatch hx) hnet' hcutH (fun x hx => .inl (by simpa [own] using hx)) rfl rfl
                    have hC2 : TC { s' with W := r, O := rst, cp := setC s'.cp (a :: seg.reverse) s'.cs.length, cs := s'.cs ++ [c'] } := ⟨by have := hC'.out.le; rw [hO'.out] at this; simp only [List.length_append,List.length_cons,List.length_nil] at this ⊢; omega, hC'.out.all⟩
                    have hun3 := hun2'.out rst s'.lw (setC s'.cp (a :: seg.reverse) s'.cs.length) (s'.cs ++ [c'])
                    have hcpa : cpI (setC s'.cp (a :: seg.reverse) s'.cs.length a) = (s'.cs.length : Int) := by unfold setC; rw [if_pos List.mem_cons_self]; rfl
                    have hge : (0 : Int) <= (s'.cs.length : Int) := by omega
                    have hm1 := hnet'.net
                    have hm2 := hnet'.nodes
                    have hWM2' := Hid.mk hWM2
                    have hT2' := Hid.mk hT2
                    have hC2' := Hid.mk hC2
                    have hun3' := Hid.mk hun3
                    clear hWM2 hT2 hC2 hun3 hWMa hcsn hcutH hkp hnet' hcv3 hv3 how hoc hperm hpw hWM' hT' hC' hO' hsW' hun2' hcut' hlow2
                    cases r with
                    | nil =>
                      (repeat' (first | (simp -implicitDefEqProofs (maxSteps := 1000000) (disch := first | assumption | omega | (simp only [ZDI]; omega)) only [*,lenV,nfl_m,nfl_w,nfl_c,way_a,G35,Za,Zb,Zc,Zd,Ze,Zf,Zg,Zh,Zi,Zj,Zk,Zl,Zm,Zn,Zo,Ja,Jb,Jc,J6,Jd,Je,rd,J7,J8,Jf,Jg,Jh,Ji,Jj,Jk,J9,Jl,Jm,wr,Jn,JA,JB,Jo,Jp,Jq,Jr,Js,Jt,Ju,Jv,Jw,Jx,Jy,Jz,J0,J1,J2,J3,J4,J5,reduceCtorEq,JC,JD,JE,JF,JG,JH,JI,JJ]) | ((with_reducible (first | apply Ok.br | apply Ok.gd | apply Ok.ld)) <;> (intro g; (try simp only [ZGS] at g); try (exfalso; omega)))))
                      exact Turn.next _ (by have := hun3'.out; have := hun; simp only [List.length_nil] at *; omega) ⟨rfl, _, _, _, _, _, _, _, _, _, _, _, rfl, by rw [hsm]; rfl, rfl, rfl, rfl, hWM2'.out, hT2'.out, hC2'.out, hmet'.out, hroot2'.out⟩
                    | cons p r' =>
                      have hrp : (0 : Int) < ((r'.length + 1 : Nat) : Int) := by omega
                      have E2 : ((r'.length + 1 + 1 : Nat) : Int) - 1 = ((r'.length + 1 : Nat) : Int) := by omega
                      have gc2 : 0 <= ((r'.length + 1 : Nat) : Int) /\ ((r'.length + 1 : Nat) : Int) <= (cap : Int) := gc
                      (repeat' (first | (simp -implicitDefEqProofs (maxSteps := 1000000) (disch := first | assumption | omega | (simp only [ZDI]; omega)) only [*,lenV,nfl_m,nfl_w,nfl_c,way_a,G35,Za,Zb,Zc,Zd,Ze,Zf,Zg,Zh,Zi,Zj,Zk,Zl,Zm,Zn,Zo,Ja,Jb,Jc,J6,Jd,Je,rd,J7,J8,Jf,Jg,Jh,Ji,Jj,Jk,J9,Jl,Jm,wr,Jn,JA,JB,Jo,Jp,Jq,Jr,Js,Jt,Ju,Jv,Jw,Jx,Jy,Jz,J0,J1,J2,J3,J4,J5,reduceCtorEq,JC,JD,JE,JF,JG,JH,JI,JJ]) | ((with_reducible (first | apply Ok.br | apply Ok.gd | apply Ok.ld)) <;> (intro g; (try simp only [ZGS] at g); try (exfalso; omega)))))
                      exact Turn.next _ (by have := hun3'.out; have := hun; simp only [List.length_cons] at *; omega) ⟨rfl, _, _, _, _, _, _, _, _, _, _, _, rfl, by rw [hsm]; rfl, rfl, rfl, rfl, hWM2'.out, hT2'.out, hC2'.out, hmet'.out, hroot2'.out⟩
                  · have hlow' : ¬ (s'.lw a : Int) = (s'.mt a : Int) := by omega
                    cases r with
                    | nil => exact absurd (hT.last hsW haO) hlow
                    | cons p r' =>
                      obtain ⟨p, np⟩ := p
                      have hT2 := hT.pop hsW haO hlow
                      have hpO := hro (p, np) List.mem_cons_self
                      have hpN := hT.dom p ((hT.opn p).1 hpO).1
                      have hcpa : cpI (s'.cp a) = -1 := by rw [((hT.opn a).1 haO).2]; rfl
                      have hcpa2 : ¬ (0 : Int) <= -1 := by omega
                      have hmin := min_cast (s'.lw p) (s'.lw a)
                      have hkB : Keeps [b] G3 (G3.set b (.cells g true (nfl N S s'.mt (upd s'.lw p (min (s'.lw p) (s'.lw a))) s'.cp))) := (Keeps.refl _ _).set (.inl (by simp)) _
                      have hWM2 : WM H0 (G3.set b (.cells g true (nfl N S s'.mt (upd s'.lw p (min (s'.lw p) (s'.lw a))) s'.cp))) nb b g N S mv { s' with W := (p, np) :: r', lw := upd s'.lw p (min (s'.lw p) (s'.lw a)) } (.sl (.at wb wg 0) (r'.length + 1) cap 2) ov1 cv cl := by
                        refine hWM.next (fun l hl => (hT.csok l hl).2) [b] hkB (fun x hx => .inl (by simpa using hx)) ⟨(hcells_set_ne hne).trans hn1, hcells_set_eq hbG, hne⟩ ?_ (fun x hx => .inl (by simpa [own] using hx)) rfl rfl
                        exact hcut.keep hkB fun x hx => by
                          have : x = wb := by simpa [own] using hx
                          simp [this, hwb1]
                      have hC2 : TC { s' with W := (p, np) :: r', lw := upd s'.lw p (min (s'.lw p) (s'.lw a)) } := ⟨hC.le, hC.all⟩
                      have hun3 := hun2 s'.O (upd s'.lw p (min (s'.lw p) (s'.lw a))) s'.cp s'.cs
                      have hrp : (0 : Int) < ((r'.length + 1 : Nat) : Int) := by omega
                      have E2 : ((r'.length + 1 + 1 : Nat) : Int) - 1 = ((r'.length + 1 : Nat) : Int) := by omega
                      have E3 : ((r'.length + 1 : Nat) : Int) - 1 = (r'.length : Int) := by omega
                      have gc2 : 0 <= ((r'.length + 1 : Nat) : Int) /\ ((r'.length + 1 : Nat) : Int) <= (cap : Int) := gc
                      have gp : 0 <= (r'.length : Int) /\ (r'.length : Int) < ((r'.length + 1 : Nat) : Int) := by omega
                      have gN : 0 <= (p : Int) /\ (p : Int) < (N : Int) := by omega
                      have xp5 : p * 7 + 5 < N * 7 := by omega
                      have hw5 : hcells G3 wb wg = some (true, flL (frames r') ++ V.int .i64 p :: V.int .i64 np :: V.int .i64 a :: V.int .i64 (nd a).length :: rest) := by
                        rw [hw1, frames_cons, flL_app]
                        simp [flL]
                      have hWM2' := Hid.mk hWM2
                      have hT2' := Hid.mk hT2
                      have hC2' := Hid.mk hC2
                      have hmet' := Hid.mk hmet
                      have hroot2' := Hid.mk hroot2
                      have hun3' := Hid.mk hun3
                      clear hWM2 hT2 hC2 hroot2 hWM hT hC hmet hroot hsW hun2 hkB hcut hro hun3 hw1 gc
                      (repeat' (first | (simp -implicitDefEqProofs (maxSteps := 1000000) (disch := first | assumption | omega | (simp only [ZDI]; omega)) only [*,lenV,nfl_m,nfl_w,nfl_c,nfl_sw,nfl_len,way_a,G35,Za,Zb,Zc,Zd,Ze,Zf,Zg,Zh,Zi,Zj,Zk,Zl,Zm,Zn,Zo,Ja,Jb,Jc,J6,Jd,Je,rd,J7,J8,Jf,Jg,Jh,Ji,Jj,Jk,J9,Jl,Jm,wr,Jn,JA,JB,Jo,Jp,Jq,Jr,Js,Jt,Ju,Jv,Jw,Jx,Jy,Jz,J0,J1,J2,J3,J4,J5,reduceCtorEq,JC,JD,JE,JF,JG,JH,JI,JJ]) | ((with_reducible (first | apply Ok.br | apply Ok.gd | apply Ok.ld)) <;> (intro g; (try simp only [ZGS] at g); try (exfalso; omega)))))
                      exact Turn.next _ (by have := hun3'.out; have := hun; simp only [List.length_cons] at *; omega) ⟨rfl, _, _, _, _, _, _, _, _, _, _, _, rfl, by rw [hsm]; rfl, rfl, rfl, rfl, hWM2'.out, hT2'.out, hC2'.out, hmet'.out, hroot2'.out⟩
                · simp only [spread_t,spread_f,spread_n,Nat.zero_add,Nat.reduceAdd,h3]
                  have hWM' := Hid.mk hWM
                  have hT' := Hid.mk hT
                  have hC' := Hid.mk hC
                  have hmet' := Hid.mk hmet
                  have hroot' := Hid.mk hroot
                  clear hWM hT hC hmet hroot
                  (repeat' (first | (simp -implicitDefEqProofs (maxSteps := 1000000) (disch := first | assumption | omega | (simp only [ZDI]; omega)) only [*,lenV,G35,Za,Zb,Zc,Zd,Ze,Zf,Zg,Zh,Zi,Zj,Zk,Zl,Zm,Zn,Zo,Ja,Jb,Jc,J6,Jd,Je,rd,J7,J8,Jf,Jg,Jh,Ji,Jj,Jk,J9,Jl,Jm,wr,Jn,JA,JB,Jo,Jp,Jq,Jr,Js,Jt,Ju,Jv,Jw,Jx,Jy,Jz,J0,J1,J2,J3,J4,J5,reduceCtorEq,JC,JD,JE,JF,JG,JH,JI,JJ]) | ((with_reducible (first | apply Ok.br | apply Ok.gd | apply Ok.ld)) <;> (intro g; (try simp only [ZGS] at g); try (exfalso; omega)))))
                  exact Turn.next (2 * unm N s' + s'.W.length) hun ⟨rfl, s', _, _, _, _, _, _, _, _, _, _, rfl, by rw [hsm]; rfl, rfl, rfl, rfl, hWM'.out, hT'.out, hC'.out, hmet'.out, hroot'.out⟩
        · intro y ⟨e1, l1, G1⟩ hW ⟨hy, s, wv, ov, cv, cl, k1, k2, k3, c1, c2, c3, h2, h3, h4, hl, hWM, hT, hC, hsW, hmet⟩
          dsimp only at hW h2 h3 h4 hl hWM
          subst l1 hy
          rw [hW.spread]
          clear hW
          simp only [spread_t,spread_f,spread_n,Nat.zero_add,Nat.reduceAdd,h2,h3,h4]
          have hWM' := Hid.mk hWM
          have hT' := Hid.mk hT
          have hC' := Hid.mk hC
          have hsW' := Hid.mk hsW
          have hmet2 := Hid.mk hmet
          clear hWM hT hC hsW hmet hWM2' hT2' hC2' hmet'
          (repeat' (first | (simp -implicitDefEqProofs (maxSteps := 1000000) (disch := first | assumption | omega | (simp only [ZDI]; omega)) only [*,lenV,G35,Za,Zb,Zc,Zd,Ze,Zf,Zg,Zh,Zi,Zj,Zk,Zl,Zm,Zn,Zo,Ja,Jb,Jc,J6,Jd,Je,rd,J7,J8,Jf,Jg,Jh,Ji,Jj,Jk,J9,Jl,Jm,wr,Jn,JA,JB,Jo,Jp,Jq,Jr,Js,Jt,Ju,Jv,Jw,Jx,Jy,Jz,J0,J1,J2,J3,J4,J5,reduceCtorEq,JC,JD,JE,JF,JG,JH,JI,JJ]) | ((with_reducible (first | apply Ok.br | apply Ok.gd | apply Ok.ld)) <;> (intro g; (try simp only [ZGS] at g); try (exfalso; omega)))))
          exact Turn.next (N - (i + 1)) (by omega) ⟨rfl, i + 1, s, _, _, _, _, _, _, _, _, _, _, rfl, by omega, rfl, rfl, rfl, rfl, rfl, hWM'.out, hT'.out, hC'.out, hsW'.out, hmet2.out⟩
    · have hlt' : ¬ (i : Int) < (N : Int) := by omega
      have hWM' := Hid.mk hWM
      have hT' := Hid.mk hT
      have hsW' := Hid.mk hsW
      have hmet' := Hid.mk hmet
      clear hWM hT hC hsW hmet
      (repeat' (first | (simp -implicitDefEqProofs (maxSteps := 1000000) (disch := first | assumption | omega | (simp only [ZDI]; omega)) only [*,lenV,G35,Za,Zb,Zc,Zd,Ze,Zf,Zg,Zh,Zi,Zj,Zk,Zl,Zm,Zn,Zo,Ja,Jb,Jc,J6,Jd,Je,rd,J7,J8,Jf,Jg,Jh,Ji,Jj,Jk,J9,Jl,Jm,wr,Jn,JA,JB,Jo,Jp,Jq,Jr,Js,Jt,Ju,Jv,Jw,Jx,Jy,Jz,J0,J1,J2,J3,J4,J5,reduceCtorEq,JC,JD,JE,JF,JG,JH,JI,JJ]) | ((with_reducible (first | apply Ok.br | apply Ok.gd | apply Ok.ld)) <;> (intro g; (try simp only [ZGS] at g); try (exfalso; omega)))))
      exact Turn.exit ⟨rfl, rfl, s, wv, ov, cv, cl, hWM'.out, hT'.out, hsW'.out, fun u hu => hmet'.out u (by omega)⟩
  · intro y ⟨e', l', G⟩ hW ⟨hy, s, wv, ov, cv, cl, hWM, hT, hsW, hmet⟩
    dsimp only at hW hWM
    subst hy
    rw [hW.spread]
    clear hW
    simp only [spread_t,spread_f,spread_n,Nat.zero_add,Nat.reduceAdd]
    have hWM' := Hid.mk hWM
    have hT' := Hid.mk hT
    have hsW' := Hid.mk hsW
    have hmet' := Hid.mk hmet
    clear hWM hT hsW hmet
    (repeat' (first | (simp -implicitDefEqProofs (maxSteps := 1000000) (disch := first | assumption | omega | (simp only [ZDI]; omega)) only [*,lenV,G35,Za,Zb,Zc,Zd,Ze,Zf,Zg,Zh,Zi,Zj,Zk,Zl,Zm,Zn,Zo,Ja,Jb,Jc,J6,Jd,Je,rd,J7,J8,Jf,Jg,Jh,Ji,Jj,Jk,J9,Jl,Jm,wr,Jn,JA,JB,Jo,Jp,Jq,Jr,Js,Jt,Ju,Jv,Jw,Jx,Jy,Jz,J0,J1,J2,J3,J4,J5,reduceCtorEq,JC,JD,JE,JF,JG,JH,JI,JJ]) | ((with_reducible (first | apply Ok.br | apply Ok.gd | apply Ok.ld)) <;> (intro g; (try simp only [ZGS] at g); try (exfalso; omega)))))
    exact hQ'.out _ ⟨G, s, wv, ov, cv, cl, rfl, hWM'.out, hT'.out, hsW'.out, hmet'.out⟩
end Go.Ev
