/-
Texts of this claim, one behind the other.
-/
import Derived.Test.YtddakleppmoloaaGreatAd
import Derived.KernelRfl
set_option linter.unusedSimpArgs false
set_option linter.unusedVariables false
set_option maxRecDepth 100000
set_option maxRecDepth 100000
namespace Go.Ev.Q
open Go.Ev renaming exPure -> Ja, ofValue -> Jb, cellsV -> Jc, load -> Jd, store -> Je, binOp -> Jf, intOp -> Jg, rdV -> Jh, vsame -> Ji, vsames -> Jj, makeSliceV -> Jk, resV -> Jl, isCell -> Jm, nilCheckV -> Jn, allV -> Jo, builtinV -> Jp, lenV -> Jq, indexAddrV -> Jr, unOp -> Js, minmaxV -> Jt, minmax -> Ju, sliceV -> Jv, asInt -> Jw, appendV -> Jx, forkB -> Jy, roY -> Jz, rwB -> J0, copyV -> J1, clearV -> J2, convV -> J3, sliceCells -> J4, shift -> J5
open Bool renaming true -> BT, false -> BF
open Nat renaming reduceEqDiff -> J6, reduceLT -> J7, reduceAdd -> J8, reduceBEq -> J9, reduceSub -> JA, reduceMul -> JB, reduceLeDiff -> JJ
open Int renaming reduceLT -> JC, reduceLE -> JD, reduceAdd -> JE, reduceSub -> JF, reduceNeg -> JG, reduceToNat -> JH, reduceEq -> JI
open Go.Proofs Go.Sort
variable {fv : V} {lt : RP -> RP -> Bool}
set_option maxHeartbeats 16000000 in
theorem pdq_R (hc : Cmp fv lt) (hS : SWO lt) {H : Heap} {b g n cap z : Nat} (hb : b < H.length) : ∀ (N : Nat) {G : Heap} {d : Array RP} {i0 j0 lm : Nat}, At H b g d G -> n <= d.size -> d.size <= 1000000000 -> j0 <= i0 + N -> (i0 <= j0 /\ j0 <= n) -> lm <= 1000 -> Below lt i0 j0 d ->
    Ev.Ok (D X (.fn 116 []) [.sl (.at b g 0) n cap z, .int .i64 i0, .int .i64 j0, .int .i64 lm, fv] G) fun y => ∃ G2 d2, y = (.tup [], G2) /\ At H b g d2 G2 /\ PermIn i0 j0 d d2 /\ SortedIn lt i0 j0 d2 := by
  intro N
  induction N with
  | zero => ?_
  | succ N ih => ?_
  all_goals
    intro G d i0 j0 lm hG hn hl hN hij hlm hB
    refine Ok.aim fun Q hQ => ?_
    have hQ' := Hid.mk hQ
    clear hQ
    (refine Ok.body body116 pin116 ?_; simp only [c116,Tryz.f116,Option.getD_some,nslot116,List.append_nil,List.map,List.replicate,List.length_cons,List.length_nil,Nat.reduceAdd,Nat.reduceSub,List.cons_append,List.nil_append])
    (repeat' (first | (simp -implicitDefEqProofs (maxSteps := 1000000) (disch := first | assumption | omega | (simp only [ZDI]; omega)) only [*,lenV,G116,Za,Zb,Zc,Zd,Ze,Zf,Zg,Zh,Zi,Zj,Zk,Zl,Zm,Zn,Zo,Ja,Jb,Jc,J6,Jd,Je,J7,J8,Jf,Jg,Jh,Ji,Jj,Jk,J9,Jl,Jm,wr,Jn,JA,JB,Jo,Jp,Jq,Jr,Js,Jt,Ju,Jv,Jw,Jx,Jy,Jz,J0,J1,J2,J3,J4,J5,reduceCtorEq,JC,JD,JE,JF,JG,JH,JI,JJ]) | ((with_reducible (first | apply Ok.br | apply Ok.gd | apply Ok.ld)) <;> (intro g; (try simp only [ZGS] at g); try (exfalso; omega)))))
  · refine Ok.loop [BF, BT, BT, BT, BF, BF, BF, BF, BF, BF, BT, BT, BT, BT, BT, BT, BT, BT, BT, BT, BT, BT, BT, BT, BT, BT, BT, BT, BT, BT, BT, BT, BT, BT, BT, BT, BT, BT, BT, BT, BT, BT, BT, BT, BT, BT, BT, BT, BT, BT, BT, BT, BT, BT, BT, BT, BT, BT, BT, BT, BT, BT, BT, BT, BT, BT, BT, BT, BT, BT, BT, BT, BT, BT, BT, BT, BT, BT, BT, BT, BT, BT, BT, BT, BT, BT, BT, BT, BT, BT, BT, BT, BT, BT, BT, BT, BT, BT, BT, BT, BT, BT, BT, BT, BT, BT, BT, BT, BT, BT, BT, BT, BT, BT, BT, BT, BT, BT, BT, BT, BT, BT, BT, BT, BT, BT, BT, BT, BT, BT, BT, BT, BT, BT, BT, BT, BT, BT, BT, BT, BT, BT, BT, BT, BT, BT, BT, BT] (fun m s2 => ∃ (a c lm0 : Nat) (wb wp : Bool) (e : Array RP) (G1 : Heap), m = c - a /\ lm0 <= 1000 /\ tv s2.e 1 = .v (.int .i64 a) /\ tv s2.e 2 = .v (.int .i64 c) /\ tv s2.e 3 = .v (.int .i64 lm0) /\ tv s2.e 10 = .v (.bool wb) /\ tv s2.e 11 = .v (.bool wp) /\ s2.l = [] /\ s2.h = G1 /\ At H b g e G1 /\ (Rnd lt n i0 j0 d a c e /\ c <= a))
      (fun x s2 => x = .ret /\ s2.l = [] /\ ∃ e, At H b g e s2.h /\ PermIn i0 j0 d e /\ SortedIn lt i0 j0 e) (j0 - i0) ⟨i0, j0, lm, true, true, d, G, rfl, hlm, rfl, rfl, rfl, rfl, rfl, rfl, rfl, hG, ⟨⟨hij.1, hij.2, rfl, hB, fun R h1 h2 => ⟨h1, h2⟩⟩, by omega⟩⟩ ?_ ?_
    · intro m ⟨e', l', H'⟩ hW ⟨a, c, lm0, wb, wp, e, G1, hm, hlm0, t1, t2, t3, t10, t11, k2, k3, hG1, hR1⟩
      dsimp only at hW t1 t2 t3 t10 t11 k2 k3
      subst l' k3
      rw [hW.spread]
      simp only [spread_t,spread_f,spread_n,Nat.zero_add,Nat.reduceAdd,t1,t2,t3,t10,t11]
      clear hW hQ' hG hB hlm
      have hac : a <= c /\ c <= 1000000000 := by have := hR1.1.to; have := hR1.1.le; omega
      have h12' : (c : Int) - (a : Int) <= 12 := by have := hR1.2; omega
      (repeat' (first | (simp -implicitDefEqProofs (maxSteps := 1000000) (disch := first | assumption | omega | (simp only [ZDI]; omega)) only [*,lenV,G116,Za,Zb,Zc,Zd,Ze,Zf,Zg,Zh,Zi,Zj,Zk,Zl,Zm,Zn,Zo,Ja,Jb,Jc,J6,Jd,Je,J7,J8,Jf,Jg,Jh,Ji,Jj,Jk,J9,Jl,Jm,wr,Jn,JA,JB,Jo,Jp,Jq,Jr,Js,Jt,Ju,Jv,Jw,Jx,Jy,Jz,J0,J1,J2,J3,J4,J5,reduceCtorEq,JC,JD,JE,JF,JG,JH,JI,JJ]) | ((with_reducible (first | apply Ok.br | apply Ok.gd | apply Ok.ld)) <;> (intro g; (try simp only [ZGS] at g); try (exfalso; omega)))))
      refine Ok.bnd2 (ins_R hc hS hb hG1 (by rw [hR1.1.sz]; exact hn) (by rw [hR1.1.sz]; exact hl) hR1.1.le hR1.1.to) fun y h3 ⟨G2, e2, hy, hG2, hp2, hs2⟩ => ?_
      cases hy
      (repeat' (first | (simp -implicitDefEqProofs (maxSteps := 1000000) (disch := first | assumption | omega | (simp only [ZDI]; omega)) only [*,lenV,G116,Za,Zb,Zc,Zd,Ze,Zf,Zg,Zh,Zi,Zj,Zk,Zl,Zm,Zn,Zo,Ja,Jb,Jc,J6,Jd,Je,J7,J8,Jf,Jg,Jh,Ji,Jj,Jk,J9,Jl,Jm,wr,Jn,JA,JB,Jo,Jp,Jq,Jr,Js,Jt,Ju,Jv,Jw,Jx,Jy,Jz,J0,J1,J2,J3,J4,J5,reduceCtorEq,JC,JD,JE,JF,JG,JH,JI,JJ]) | ((with_reducible (first | apply Ok.br | apply Ok.gd | apply Ok.ld)) <;> (intro g; (try simp only [ZGS] at g); try (exfalso; omega)))))
      have := hR1.1.fin e2 hp2 hs2
      exact Turn.ret ⟨rfl, rfl, rfl, e2, hG2, this.1, this.2⟩
    · intro x ⟨e', l', H'⟩ hW ⟨hx, k2, e, k3, hp, hs⟩
      dsimp only at hW k2 k3
      subst l' hx
      rw [hW.spread]
      clear hW
      simp only [spread_t,spread_f,spread_n,Nat.zero_add,Nat.reduceAdd]
      (repeat' (first | (simp -implicitDefEqProofs (maxSteps := 1000000) (disch := first | assumption | omega | (simp only [ZDI]; omega)) only [*,G116,Za,Zb,Zc,Zd,Ze,Zf,Zg,Zh,Zi,Zj,Zk,Zl,Zm,Zn,Zo,Ja,Jb,Jc,J6,Jd,Je,J7,J8,Jf,Jg,Jh,Ji,Jj,Jk,J9,Jl,Jm,wr,Jn,JA,JB,Jo,Jp,Jq,Jr,Js,Jt,Ju,Jv,Jw,Jx,Jy,Jz,J0,J1,J2,J3,J4,J5,reduceCtorEq,JC,JD,JE,JF,JG,JH,JI,JJ]) | ((with_reducible (first | apply Ok.br | apply Ok.gd | apply Ok.ld)) <;> (intro g; (try simp only [ZGS] at g); try (exfalso; omega)))))
      exact hQ'.out _ ⟨_, e, rfl, k3, hp, hs⟩
  · refine Ok.loop [BF, BT, BT, BT, BF, BF, BF, BF, BF, BF, BT, BT, BT, BT, BT, BT, BT, BT, BT, BT, BT, BT, BT, BT, BT, BT, BT, BT, BT, BT, BT, BT, BT, BT, BT, BT, BT, BT, BT, BT, BT, BT, BT, BT, BT, BT, BT, BT, BT, BT, BT, BT, BT, BT, BT, BT, BT, BT, BT, BT, BT, BT, BT, BT, BT, BT, BT, BT, BT, BT, BT, BT, BT, BT, BT, BT, BT, BT, BT, BT, BT, BT, BT, BT, BT, BT, BT, BT, BT, BT, BT, BT, BT, BT, BT, BT, BT, BT, BT, BT, BT, BT, BT, BT, BT, BT, BT, BT, BT, BT, BT, BT, BT, BT, BT, BT, BT, BT, BT, BT, BT, BT, BT, BT, BT, BT, BT, BT, BT, BT, BT, BT, BT, BT, BT, BT, BT, BT, BT, BT, BT, BT, BT, BT, BT, BT, BT, BT] (fun m s2 => ∃ (a c lm0 : Nat) (wb wp : Bool) (e : Array RP) (G1 : Heap), m = c - a /\ lm0 <= 1000 /\ tv s2.e 1 = .v (.int .i64 a) /\ tv s2.e 2 = .v (.int .i64 c) /\ tv s2.e 3 = .v (.int .i64 lm0) /\ tv s2.e 10 = .v (.bool wb) /\ tv s2.e 11 = .v (.bool wp) /\ s2.l = [] /\ s2.h = G1 /\ At H b g e G1 /\ (Rnd lt n i0 j0 d a c e /\ c <= a + (N + 1)))
      (fun x s2 => x = .ret /\ s2.l = [] /\ ∃ e, At H b g e s2.h /\ PermIn i0 j0 d e /\ SortedIn lt i0 j0 e) (j0 - i0) ⟨i0, j0, lm, true, true, d, G, rfl, hlm, rfl, rfl, rfl, rfl, rfl, rfl, rfl, hG, ⟨⟨hij.1, hij.2, rfl, hB, fun R h1 h2 => ⟨h1, h2⟩⟩, by omega⟩⟩ ?_ ?_
    · intro m ⟨e', l', H'⟩ hW ⟨a, c, lm0, wb, wp, e, G1, hm, hlm0, t1, t2, t3, t10, t11, k2, k3, hG1, hR1⟩
      dsimp only at hW t1 t2 t3 t10 t11 k2 k3
      subst l' k3
      rw [hW.spread]
      simp only [spread_t,spread_f,spread_n,Nat.zero_add,Nat.reduceAdd,t1,t2,t3,t10,t11]
      clear hW hQ' hG hB hlm
      obtain ⟨hR1, hcN⟩ := hR1
      have hac0 : a <= c /\ c <= 1000000000 := by have := hR1.to; have := hR1.le; omega
      by_cases h12 : c - a <= 12
      · have h12' : (c : Int) - (a : Int) <= 12 := by omega
        (repeat' (first | (simp -implicitDefEqProofs (maxSteps := 1000000) (disch := first | assumption | omega | (simp only [ZDI]; omega)) only [*,lenV,G116,Za,Zb,Zc,Zd,Ze,Zf,Zg,Zh,Zi,Zj,Zk,Zl,Zm,Zn,Zo,Ja,Jb,Jc,J6,Jd,Je,J7,J8,Jf,Jg,Jh,Ji,Jj,Jk,J9,Jl,Jm,wr,Jn,JA,JB,Jo,Jp,Jq,Jr,Js,Jt,Ju,Jv,Jw,Jx,Jy,Jz,J0,J1,J2,J3,J4,J5,reduceCtorEq,JC,JD,JE,JF,JG,JH,JI,JJ]) | ((with_reducible (first | apply Ok.br | apply Ok.gd | apply Ok.ld)) <;> (intro g; (try simp only [ZGS] at g); try (exfalso; omega)))))
        refine Ok.bnd2 (ins_R hc hS hb hG1 (by rw [hR1.sz]; exact hn) (by rw [hR1.sz]; exact hl) hR1.le hR1.to) fun y h3 ⟨G2, e2, hy, hG2, hp2, hs2⟩ => ?_
        cases hy
        (repeat' (first | (simp -implicitDefEqProofs (maxSteps := 1000000) (disch := first | assumption | omega | (simp only [ZDI]; omega)) only [*,lenV,G116,Za,Zb,Zc,Zd,Ze,Zf,Zg,Zh,Zi,Zj,Zk,Zl,Zm,Zn,Zo,Ja,Jb,Jc,J6,Jd,Je,J7,J8,Jf,Jg,Jh,Ji,Jj,Jk,J9,Jl,Jm,wr,Jn,JA,JB,Jo,Jp,Jq,Jr,Js,Jt,Ju,Jv,Jw,Jx,Jy,Jz,J0,J1,J2,J3,J4,J5,reduceCtorEq,JC,JD,JE,JF,JG,JH,JI,JJ]) | ((with_reducible (first | apply Ok.br | apply Ok.gd | apply Ok.ld)) <;> (intro g; (try simp only [ZGS] at g); try (exfalso; omega)))))
        have := hR1.fin e2 hp2 hs2
        exact Turn.ret ⟨rfl, rfl, rfl, e2, hG2, this.1, this.2⟩
      · have h12' : ¬ (c : Int) - (a : Int) <= 12 := by omega
        cases lm0 with
        | zero =>
          have hz : ((0 : Nat) : Int) = 0 := rfl
          (repeat' (first | (simp -implicitDefEqProofs (maxSteps := 1000000) (disch := first | assumption | omega | (simp only [ZDI]; omega)) only [*,lenV,G116,Za,Zb,Zc,Zd,Ze,Zf,Zg,Zh,Zi,Zj,Zk,Zl,Zm,Zn,Zo,Ja,Jb,Jc,J6,Jd,Je,J7,J8,Jf,Jg,Jh,Ji,Jj,Jk,J9,Jl,Jm,wr,Jn,JA,JB,Jo,Jp,Jq,Jr,Js,Jt,Ju,Jv,Jw,Jx,Jy,Jz,J0,J1,J2,J3,J4,J5,reduceCtorEq,JC,JD,JE,JF,JG,JH,JI,JJ]) | ((with_reducible (first | apply Ok.br | apply Ok.gd | apply Ok.ld)) <;> (intro g; (try simp only [ZGS] at g); try (exfalso; omega)))))
          refine Ok.bnd2 (heap_R hc hS hb hG1 (by rw [hR1.sz]; exact hn) (by rw [hR1.sz]; exact hl) (by omega) hR1.to) fun y h3 ⟨G2, e2, hy, hG2, hp2, hs2⟩ => ?_
          cases hy
          (repeat' (first | (simp -implicitDefEqProofs (maxSteps := 1000000) (disch := first | assumption | omega | (simp only [ZDI]; omega)) only [*,lenV,G116,Za,Zb,Zc,Zd,Ze,Zf,Zg,Zh,Zi,Zj,Zk,Zl,Zm,Zn,Zo,Ja,Jb,Jc,J6,Jd,Je,J7,J8,Jf,Jg,Jh,Ji,Jj,Jk,J9,Jl,Jm,wr,Jn,JA,JB,Jo,Jp,Jq,Jr,Js,Jt,Ju,Jv,Jw,Jx,Jy,Jz,J0,J1,J2,J3,J4,J5,reduceCtorEq,JC,JD,JE,JF,JG,JH,JI,JJ]) | ((with_reducible (first | apply Ok.br | apply Ok.gd | apply Ok.ld)) <;> (intro g; (try simp only [ZGS] at g); try (exfalso; omega)))))
          have := hR1.fin e2 hp2 hs2
          exact Turn.ret ⟨rfl, rfl, rfl, e2, hG2, this.1, this.2⟩
        | succ lm0 =>
          have hz : ¬ ((lm0 + 1 : Nat) : Int) = 0 := by omega
          have hz2 : ((lm0 + 1 : Nat) : Int) - 1 = (lm0 : Int) := by omega
          obtain ⟨q, hq⟩ : ∃ q : Nat, ((c : Int) - (a : Int)).tdiv 8 = (q : Int) := ⟨(c - a) / 8, by rw [Int.tdiv_eq_ediv_of_nonneg (by omega)]; omega⟩
          have hac : a + 12 < c /\ c <= 1000000000 := by have := hR1.to; omega
          cases wb with
          | false =>
            (repeat' (first | (simp -implicitDefEqProofs (maxSteps := 1000000) (disch := first | assumption | omega | (simp only [ZDI]; omega)) only [*,lenV,G116,Za,Zb,Zc,Zd,Ze,Zf,Zg,Zh,Zi,Zj,Zk,Zl,Zm,Zn,Zo,Ja,Jb,Jc,J6,Jd,Je,J7,J8,Jf,Jg,Jh,Ji,Jj,Jk,J9,Jl,Jm,wr,Jn,JA,JB,Jo,Jp,Jq,Jr,Js,Jt,Ju,Jv,Jw,Jx,Jy,Jz,J0,J1,J2,J3,J4,J5,reduceCtorEq,JC,JD,JE,JF,JG,JH,JI,JJ]) | ((with_reducible (first | apply Ok.br | apply Ok.gd | apply Ok.ld)) <;> (intro g; (try simp only [ZGS] at g); try (exfalso; omega)))))
            refine Ok.bnd2 (break_R hb hG1 (by rw [hR1.sz]; exact hn) (by rw [hR1.sz]; exact hl) (by omega) hR1.to) fun y h3 ⟨G2, e2, hy, hG2, hp2⟩ => ?_
            cases hy
            have hR2 := hR1.perm hn hp2
            clear hp2 hG1 hR1
            (repeat' (first | (simp -implicitDefEqProofs (maxSteps := 1000000) (disch := first | assumption | omega | (simp only [ZDI]; omega)) only [*,lenV,G116,Za,Zb,Zc,Zd,Ze,Zf,Zg,Zh,Zi,Zj,Zk,Zl,Zm,Zn,Zo,Ja,Jb,Jc,J6,Jd,Je,J7,J8,Jf,Jg,Jh,Ji,Jj,Jk,J9,Jl,Jm,wr,Jn,JA,JB,Jo,Jp,Jq,Jr,Js,Jt,Ju,Jv,Jw,Jx,Jy,Jz,J0,J1,J2,J3,J4,J5,reduceCtorEq,JC,JD,JE,JF,JG,JH,JI,JJ]) | ((with_reducible (first | apply Ok.br | apply Ok.gd | apply Ok.ld)) <;> (intro g; (try simp only [ZGS] at g); try (exfalso; omega)))))
            obtain ⟨lm, rfl⟩ : ∃ lm, lm = lm0 := ⟨lm0, rfl⟩
            have hlm : lm <= 1000 := by omega
            refine Ok.bnd2 (pivot_R hc hb hG2 (by rw [hR2.sz]; exact hn) (by rw [hR2.sz]; exact hl) (by omega) hR2.to) fun y h3 ⟨G3, p, hh, hy, hG3, hp, hcase⟩ => ?_
            cases hy
            rcases hcase with rfl | rfl | rfl
            · have hcl := hG3.cells hb
              have hto := hR2.to
              have hn4 : n <= e2.size := by rw [hR2.sz]; exact hn
              have hl4 : e2.size <= 1000000000 := by rw [hR2.sz]; exact hl
              have hx1 : 0 <= (p : Int) /\ (p : Int) < (n : Int) := by have := hR2.to; omega
              have hx2 : p < e2.size := by omega
              by_cases ha : 0 < a
              · have ha' : 0 < (a : Int) := by omega
                have e5 : (a : Int) - 1 = ((a - 1 : Nat) : Int) := by omega
                have hx3 : 0 <= ((a - 1 : Nat) : Int) /\ ((a - 1 : Nat) : Int) < (n : Int) := by have := hR2.to; omega
                have hx4 : a - 1 < e2.size := by omega
                by_cases hcm : hc.c e2[a - 1]! e2[p]! < 0
                · (repeat' (first | (simp -implicitDefEqProofs (maxSteps := 1000000) (disch := first | assumption | omega | (simp only [ZDI]; omega)) only [*,lenV,fl_len,fl_at,eq_self,pr_eta,hc.run,G116,Za,Zb,Zc,Zd,Ze,Zf,Zg,Zh,Zi,Zj,Zk,Zl,Zm,Zn,Zo,Ja,Jb,Jc,J6,Jd,Je,J7,J8,Jf,Jg,Jh,Ji,Jj,Jk,J9,Jl,Jm,wr,Jn,JA,JB,Jo,Jp,Jq,Jr,Js,Jt,Ju,Jv,Jw,Jx,Jy,Jz,J0,J1,J2,J3,J4,J5,reduceCtorEq,JC,JD,JE,JF,JG,JH,JI,JJ]) | ((with_reducible (first | apply Ok.br | apply Ok.gd | apply Ok.ld)) <;> (intro g; (try simp only [ZGS] at g); try (exfalso; omega)))))
                  refine Ok.bnd2 (part_R hc hS hb hG3 hn4 hl4 hp.1 hp.2 hR2.to hR2.bel) fun y h3 ⟨G5, e5, mid, ap, hy, hG5, hmid, hsz5, hBl, hBr, hlft, hrgt⟩ => ?_
                  cases hy
                  by_cases hm : mid - a < c - mid
                  · have hm' : (mid : Int) - (a : Int) < (c : Int) - (mid : Int) := by omega
                    (repeat' (first | (simp -implicitDefEqProofs (maxSteps := 1000000) (disch := first | assumption | omega | (simp only [ZDI]; omega)) only [*,lenV,G116,Za,Zb,Zc,Zd,Ze,Zf,Zg,Zh,Zi,Zj,Zk,Zl,Zm,Zn,Zo,Ja,Jb,Jc,J6,Jd,Je,J7,J8,Jf,Jg,Jh,Ji,Jj,Jk,J9,Jl,Jm,wr,Jn,JA,JB,Jo,Jp,Jq,Jr,Js,Jt,Ju,Jv,Jw,Jx,Jy,Jz,J0,J1,J2,J3,J4,J5,reduceCtorEq,JC,JD,JE,JF,JG,JH,JI,JJ]) | ((with_reducible (first | apply Ok.br | apply Ok.gd | apply Ok.ld)) <;> (intro g; (try simp only [ZGS] at g); try (exfalso; omega)))))
                    refine Ok.bnd2 (ih (i0 := a) (j0 := mid) hG5 (by omega) (by omega) (by omega) (by omega) hlm hBl) fun y h3 ⟨G6, e6, hy, hG6, hp6, hs6⟩ => ?_
                    cases hy
                    (repeat' (first | (simp -implicitDefEqProofs (maxSteps := 1000000) (disch := first | assumption | omega | (simp only [ZDI]; omega)) only [*,lenV,G116,Za,Zb,Zc,Zd,Ze,Zf,Zg,Zh,Zi,Zj,Zk,Zl,Zm,Zn,Zo,Ja,Jb,Jc,J6,Jd,Je,J7,J8,Jf,Jg,Jh,Ji,Jj,Jk,J9,Jl,Jm,wr,Jn,JA,JB,Jo,Jp,Jq,Jr,Js,Jt,Ju,Jv,Jw,Jx,Jy,Jz,J0,J1,J2,J3,J4,J5,reduceCtorEq,JC,JD,JE,JF,JG,JH,JI,JJ]) | ((with_reducible (first | apply Ok.br | apply Ok.gd | apply Ok.ld)) <;> (intro g; (try simp only [ZGS] at g); try (exfalso; omega)))))
                    have hL := hlft e6 hp6 hs6
                    exact Turn.next (c - (mid + 1)) (by omega) ⟨rfl, mid + 1, c, lm, _, ap, e6, _, rfl, hlm, rfl, rfl, rfl, rfl, rfl, rfl, rfl, hG6, ⟨by omega, hto, by rw [hp6.1, hsz5]; exact hR2.sz, hL.1, fun R hR hs => (hL.2 R hR hs).elim fun q1 q2 => hR2.fin R q1 q2⟩, by omega⟩
                  · have hm' : ¬ (mid : Int) - (a : Int) < (c : Int) - (mid : Int) := by omega
                    (repeat' (first | (simp -implicitDefEqProofs (maxSteps := 1000000) (disch := first | assumption | omega | (simp only [ZDI]; omega)) only [*,lenV,G116,Za,Zb,Zc,Zd,Ze,Zf,Zg,Zh,Zi,Zj,Zk,Zl,Zm,Zn,Zo,Ja,Jb,Jc,J6,Jd,Je,J7,J8,Jf,Jg,Jh,Ji,Jj,Jk,J9,Jl,Jm,wr,Jn,JA,JB,Jo,Jp,Jq,Jr,Js,Jt,Ju,Jv,Jw,Jx,Jy,Jz,J0,J1,J2,J3,J4,J5,reduceCtorEq,JC,JD,JE,JF,JG,JH,JI,JJ]) | ((with_reducible (first | apply Ok.br | apply Ok.gd | apply Ok.ld)) <;> (intro g; (try simp only [ZGS] at g); try (exfalso; omega)))))
                    refine Ok.bnd2 (ih (i0 := mid + 1) (j0 := c) hG5 (by omega) (by omega) (by omega) (by omega) hlm hBr) fun y h3 ⟨G6, e6, hy, hG6, hp6, hs6⟩ => ?_
                    cases hy
                    (repeat' (first | (simp -implicitDefEqProofs (maxSteps := 1000000) (disch := first | assumption | omega | (simp only [ZDI]; omega)) only [*,lenV,G116,Za,Zb,Zc,Zd,Ze,Zf,Zg,Zh,Zi,Zj,Zk,Zl,Zm,Zn,Zo,Ja,Jb,Jc,J6,Jd,Je,J7,J8,Jf,Jg,Jh,Ji,Jj,Jk,J9,Jl,Jm,wr,Jn,JA,JB,Jo,Jp,Jq,Jr,Js,Jt,Ju,Jv,Jw,Jx,Jy,Jz,J0,J1,J2,J3,J4,J5,reduceCtorEq,JC,JD,JE,JF,JG,JH,JI,JJ]) | ((with_reducible (first | apply Ok.br | apply Ok.gd | apply Ok.ld)) <;> (intro g; (try simp only [ZGS] at g); try (exfalso; omega)))))
                    have hL := hrgt e6 hp6 hs6
                    exact Turn.next (mid - a) (by omega) ⟨rfl, a, mid, lm, _, ap, e6, _, rfl, hlm, rfl, rfl, rfl, rfl, rfl, rfl, rfl, hG6, ⟨hmid.1, by omega, by rw [hp6.1, hsz5]; exact hR2.sz, hL.1, fun R hR hs => (hL.2 R hR hs).elim fun q1 q2 => hR2.fin R q1 q2⟩, by omega⟩
                · (repeat' (first | (simp -implicitDefEqProofs (maxSteps := 1000000) (disch := first | assumption | omega | (simp only [ZDI]; omega)) only [*,lenV,fl_len,fl_at,eq_self,pr_eta,hc.run,G116,Za,Zb,Zc,Zd,Ze,Zf,Zg,Zh,Zi,Zj,Zk,Zl,Zm,Zn,Zo,Ja,Jb,Jc,J6,Jd,Je,J7,J8,Jf,Jg,Jh,Ji,Jj,Jk,J9,Jl,Jm,wr,Jn,JA,JB,Jo,Jp,Jq,Jr,Js,Jt,Ju,Jv,Jw,Jx,Jy,Jz,J0,J1,J2,J3,J4,J5,reduceCtorEq,JC,JD,JE,JF,JG,JH,JI,JJ]) | ((with_reducible (first | apply Ok.br | apply Ok.gd | apply Ok.ld)) <;> (intro g; (try simp only [ZGS] at g); try (exfalso; omega)))))
                  refine Ok.bnd2 (partEq_R hc hS hb hG3 hn4 hl4 hp.1 hp.2 hR2.to ha hR2.bel (by rw [hc.neg]; exact decide_eq_false hcm)) fun y h3 ⟨G5, e5, mid, hy, hG5, hmid, hsz5, hB5, hf5⟩ => ?_
                  cases hy
                  (repeat' (first | (simp -implicitDefEqProofs (maxSteps := 1000000) (disch := first | assumption | omega | (simp only [ZDI]; omega)) only [*,lenV,G116,Za,Zb,Zc,Zd,Ze,Zf,Zg,Zh,Zi,Zj,Zk,Zl,Zm,Zn,Zo,Ja,Jb,Jc,J6,Jd,Je,J7,J8,Jf,Jg,Jh,Ji,Jj,Jk,J9,Jl,Jm,wr,Jn,JA,JB,Jo,Jp,Jq,Jr,Js,Jt,Ju,Jv,Jw,Jx,Jy,Jz,J0,J1,J2,J3,J4,J5,reduceCtorEq,JC,JD,JE,JF,JG,JH,JI,JJ]) | ((with_reducible (first | apply Ok.br | apply Ok.gd | apply Ok.ld)) <;> (intro g; (try simp only [ZGS] at g); try (exfalso; omega)))))
                  exact Turn.next (c - mid) (by omega) ⟨rfl, mid, c, lm, _, wp, e5, _, rfl, hlm, rfl, rfl, rfl, rfl, rfl, rfl, rfl, hG5, ⟨hmid.2, hto, by rw [hsz5]; exact hR2.sz, hB5, fun R hR hs => (hf5 R hR hs).elim fun q1 q2 => hR2.fin R q1 q2⟩, by omega⟩
              · have ha' : ¬ 0 < (a : Int) := by omega
                (repeat' (first | (simp -implicitDefEqProofs (maxSteps := 1000000) (disch := first | assumption | omega | (simp only [ZDI]; omega)) only [*,lenV,fl_len,fl_at,eq_self,pr_eta,hc.run,G116,Za,Zb,Zc,Zd,Ze,Zf,Zg,Zh,Zi,Zj,Zk,Zl,Zm,Zn,Zo,Ja,Jb,Jc,J6,Jd,Je,J7,J8,Jf,Jg,Jh,Ji,Jj,Jk,J9,Jl,Jm,wr,Jn,JA,JB,Jo,Jp,Jq,Jr,Js,Jt,Ju,Jv,Jw,Jx,Jy,Jz,J0,J1,J2,J3,J4,J5,reduceCtorEq,JC,JD,JE,JF,JG,JH,JI,JJ]) | ((with_reducible (first | apply Ok.br | apply Ok.gd | apply Ok.ld)) <;> (intro g; (try simp only [ZGS] at g); try (exfalso; omega)))))
                refine Ok.bnd2 (part_R hc hS hb hG3 hn4 hl4 hp.1 hp.2 hR2.to hR2.bel) fun y h3 ⟨G5, e5, mid, ap, hy, hG5, hmid, hsz5, hBl, hBr, hlft, hrgt⟩ => ?_
                cases hy
                by_cases hm : mid - a < c - mid
                · have hm' : (mid : Int) - (a : Int) < (c : Int) - (mid : Int) := by omega
                  (repeat' (first | (simp -implicitDefEqProofs (maxSteps := 1000000) (disch := first | assumption | omega | (simp only [ZDI]; omega)) only [*,lenV,G116,Za,Zb,Zc,Zd,Ze,Zf,Zg,Zh,Zi,Zj,Zk,Zl,Zm,Zn,Zo,Ja,Jb,Jc,J6,Jd,Je,J7,J8,Jf,Jg,Jh,Ji,Jj,Jk,J9,Jl,Jm,wr,Jn,JA,JB,Jo,Jp,Jq,Jr,Js,Jt,Ju,Jv,Jw,Jx,Jy,Jz,J0,J1,J2,J3,J4,J5,reduceCtorEq,JC,JD,JE,JF,JG,JH,JI,JJ]) | ((with_reducible (first | apply Ok.br | apply Ok.gd | apply Ok.ld)) <;> (intro g; (try simp only [ZGS] at g); try (exfalso; omega)))))
                  refine Ok.bnd2 (ih (i0 := a) (j0 := mid) hG5 (by omega) (by omega) (by omega) (by omega) hlm hBl) fun y h3 ⟨G6, e6, hy, hG6, hp6, hs6⟩ => ?_
                  cases hy
                  (repeat' (first | (simp -implicitDefEqProofs (maxSteps := 1000000) (disch := first | assumption | omega | (simp only [ZDI]; omega)) only [*,lenV,G116,Za,Zb,Zc,Zd,Ze,Zf,Zg,Zh,Zi,Zj,Zk,Zl,Zm,Zn,Zo,Ja,Jb,Jc,J6,Jd,Je,J7,J8,Jf,Jg,Jh,Ji,Jj,Jk,J9,Jl,Jm,wr,Jn,JA,JB,Jo,Jp,Jq,Jr,Js,Jt,Ju,Jv,Jw,Jx,Jy,Jz,J0,J1,J2,J3,J4,J5,reduceCtorEq,JC,JD,JE,JF,JG,JH,JI,JJ]) | ((with_reducible (first | apply Ok.br | apply Ok.gd | apply Ok.ld)) <;> (intro g; (try simp only [ZGS] at g); try (exfalso; omega)))))
                  have hL := hlft e6 hp6 hs6
                  exact Turn.next (c - (mid + 1)) (by omega) ⟨rfl, mid + 1, c, lm, _, ap, e6, _, rfl, hlm, rfl, rfl, rfl, rfl, rfl, rfl, rfl, hG6, ⟨by omega, hto, by rw [hp6.1, hsz5]; exact hR2.sz, hL.1, fun R hR hs => (hL.2 R hR hs).elim fun q1 q2 => hR2.fin R q1 q2⟩, by omega⟩
                · have hm' : ¬ (mid : Int) - (a : Int) < (c : Int) - (mid : Int) := by omega
                  (repeat' (first | (simp -implicitDefEqProofs (maxSteps := 1000000) (disch := first | assumption | omega | (simp only [ZDI]; omega)) only [*,lenV,G116,Za,Zb,Zc,Zd,Ze,Zf,Zg,Zh,Zi,Zj,Zk,Zl,Zm,Zn,Zo,Ja,Jb,Jc,J6,Jd,Je,J7,J8,Jf,Jg,Jh,Ji,Jj,Jk,J9,Jl,Jm,wr,Jn,JA,JB,Jo,Jp,Jq,Jr,Js,Jt,Ju,Jv,Jw,Jx,Jy,Jz,J0,J1,J2,J3,J4,J5,reduceCtorEq,JC,JD,JE,JF,JG,JH,JI,JJ]) | ((with_reducible (first | apply Ok.br | apply Ok.gd | apply Ok.ld)) <;> (intro g; (try simp only [ZGS] at g); try (exfalso; omega)))))
                  refine Ok.bnd2 (ih (i0 := mid + 1) (j0 := c) hG5 (by omega) (by omega) (by omega) (by omega) hlm hBr) fun y h3 ⟨G6, e6, hy, hG6, hp6, hs6⟩ => ?_
                  cases hy
                  (repeat' (first | (simp -implicitDefEqProofs (maxSteps := 1000000) (disch := first | assumption | omega | (simp only [ZDI]; omega)) only [*,lenV,G116,Za,Zb,Zc,Zd,Ze,Zf,Zg,Zh,Zi,Zj,Zk,Zl,Zm,Zn,Zo,Ja,Jb,Jc,J6,Jd,Je,J7,J8,Jf,Jg,Jh,Ji,Jj,Jk,J9,Jl,Jm,wr,Jn,JA,JB,Jo,Jp,Jq,Jr,Js,Jt,Ju,Jv,Jw,Jx,Jy,Jz,J0,J1,J2,J3,J4,J5,reduceCtorEq,JC,JD,JE,JF,JG,JH,JI,JJ]) | ((with_reducible (first | apply Ok.br | apply Ok.gd | apply Ok.ld)) <;> (intro g; (try simp only [ZGS] at g); try (exfalso; omega)))))
                  have hL := hrgt e6 hp6 hs6
                  exact Turn.next (mid - a) (by omega) ⟨rfl, a, mid, lm, _, ap, e6, _, rfl, hlm, rfl, rfl, rfl, rfl, rfl, rfl, rfl, hG6, ⟨hmid.1, by omega, by rw [hp6.1, hsz5]; exact hR2.sz, hL.1, fun R hR hs => (hL.2 R hR hs).elim fun q1 q2 => hR2.fin R q1 q2⟩, by omega⟩
            · have hcl := hG3.cells hb
              have hto := hR2.to
              have hn4 : n <= e2.size := by rw [hR2.sz]; exact hn
              have hl4 : e2.size <= 1000000000 := by rw [hR2.sz]; exact hl
              have hx1 : 0 <= (p : Int) /\ (p : Int) < (n : Int) := by have := hR2.to; omega
              have hx2 : p < e2.size := by omega
              by_cases ha : 0 < a
              · have ha' : 0 < (a : Int) := by omega
                have e5 : (a : Int) - 1 = ((a - 1 : Nat) : Int) := by omega
                have hx3 : 0 <= ((a - 1 : Nat) : Int) /\ ((a - 1 : Nat) : Int) < (n : Int) := by have := hR2.to; omega
                have hx4 : a - 1 < e2.size := by omega
                by_cases hcm : hc.c e2[a - 1]! e2[p]! < 0
                · (repeat' (first | (simp -implicitDefEqProofs (maxSteps := 1000000) (disch := first | assumption | omega | (simp only [ZDI]; omega)) only [*,lenV,fl_len,fl_at,eq_self,pr_eta,hc.run,G116,Za,Zb,Zc,Zd,Ze,Zf,Zg,Zh,Zi,Zj,Zk,Zl,Zm,Zn,Zo,Ja,Jb,Jc,J6,Jd,Je,J7,J8,Jf,Jg,Jh,Ji,Jj,Jk,J9,Jl,Jm,wr,Jn,JA,JB,Jo,Jp,Jq,Jr,Js,Jt,Ju,Jv,Jw,Jx,Jy,Jz,J0,J1,J2,J3,J4,J5,reduceCtorEq,JC,JD,JE,JF,JG,JH,JI,JJ]) | ((with_reducible (first | apply Ok.br | apply Ok.gd | apply Ok.ld)) <;> (intro g; (try simp only [ZGS] at g); try (exfalso; omega)))))
                  refine Ok.bnd2 (part_R hc hS hb hG3 hn4 hl4 hp.1 hp.2 hR2.to hR2.bel) fun y h3 ⟨G5, e5, mid, ap, hy, hG5, hmid, hsz5, hBl, hBr, hlft, hrgt⟩ => ?_
                  cases hy
                  by_cases hm : mid - a < c - mid
                  · have hm' : (mid : Int) - (a : Int) < (c : Int) - (mid : Int) := by omega
                    (repeat' (first | (simp -implicitDefEqProofs (maxSteps := 1000000) (disch := first | assumption | omega | (simp only [ZDI]; omega)) only [*,lenV,G116,Za,Zb,Zc,Zd,Ze,Zf,Zg,Zh,Zi,Zj,Zk,Zl,Zm,Zn,Zo,Ja,Jb,Jc,J6,Jd,Je,J7,J8,Jf,Jg,Jh,Ji,Jj,Jk,J9,Jl,Jm,wr,Jn,JA,JB,Jo,Jp,Jq,Jr,Js,Jt,Ju,Jv,Jw,Jx,Jy,Jz,J0,J1,J2,J3,J4,J5,reduceCtorEq,JC,JD,JE,JF,JG,JH,JI,JJ]) | ((with_reducible (first | apply Ok.br | apply Ok.gd | apply Ok.ld)) <;> (intro g; (try simp only [ZGS] at g); try (exfalso; omega)))))
                    refine Ok.bnd2 (ih (i0 := a) (j0 := mid) hG5 (by omega) (by omega) (by omega) (by omega) hlm hBl) fun y h3 ⟨G6, e6, hy, hG6, hp6, hs6⟩ => ?_
                    cases hy
                    (repeat' (first | (simp -implicitDefEqProofs (maxSteps := 1000000) (disch := first | assumption | omega | (simp only [ZDI]; omega)) only [*,lenV,G116,Za,Zb,Zc,Zd,Ze,Zf,Zg,Zh,Zi,Zj,Zk,Zl,Zm,Zn,Zo,Ja,Jb,Jc,J6,Jd,Je,J7,J8,Jf,Jg,Jh,Ji,Jj,Jk,J9,Jl,Jm,wr,Jn,JA,JB,Jo,Jp,Jq,Jr,Js,Jt,Ju,Jv,Jw,Jx,Jy,Jz,J0,J1,J2,J3,J4,J5,reduceCtorEq,JC,JD,JE,JF,JG,JH,JI,JJ]) | ((with_reducible (first | apply Ok.br | apply Ok.gd | apply Ok.ld)) <;> (intro g; (try simp only [ZGS] at g); try (exfalso; omega)))))
                    have hL := hlft e6 hp6 hs6
                    exact Turn.next (c - (mid + 1)) (by omega) ⟨rfl, mid + 1, c, lm, _, ap, e6, _, rfl, hlm, rfl, rfl, rfl, rfl, rfl, rfl, rfl, hG6, ⟨by omega, hto, by rw [hp6.1, hsz5]; exact hR2.sz, hL.1, fun R hR hs => (hL.2 R hR hs).elim fun q1 q2 => hR2.fin R q1 q2⟩, by omega⟩
                  · have hm' : ¬ (mid : Int) - (a : Int) < (c : Int) - (mid : Int) := by omega
                    (repeat' (first | (simp -implicitDefEqProofs (maxSteps := 1000000) (disch := first | assumption | omega | (simp only [ZDI]; omega)) only [*,lenV,G116,Za,Zb,Zc,Zd,Ze,Zf,Zg,Zh,Zi,Zj,Zk,Zl,Zm,Zn,Zo,Ja,Jb,Jc,J6,Jd,Je,J7,J8,Jf,Jg,Jh,Ji,Jj,Jk,J9,Jl,Jm,wr,Jn,JA,JB,Jo,Jp,Jq,Jr,Js,Jt,Ju,Jv,Jw,Jx,Jy,Jz,J0,J1,J2,J3,J4,J5,reduceCtorEq,JC,JD,JE,JF,JG,JH,JI,JJ]) | ((with_reducible (first | apply Ok.br | apply Ok.gd | apply Ok.ld)) <;> (intro g; (try simp only [ZGS] at g); try (exfalso; omega)))))
                    refine Ok.bnd2 (ih (i0 := mid + 1) (j0 := c) hG5 (by omega) (by omega) (by omega) (by omega) hlm hBr) fun y h3 ⟨G6, e6, hy, hG6, hp6, hs6⟩ => ?_
                    cases hy
                    (repeat' (first | (simp -implicitDefEqProofs (maxSteps := 1000000) (disch := first | assumption | omega | (simp only [ZDI]; omega)) only [*,lenV,G116,Za,Zb,Zc,Zd,Ze,Zf,Zg,Zh,Zi,Zj,Zk,Zl,Zm,Zn,Zo,Ja,Jb,Jc,J6,Jd,Je,J7,J8,Jf,Jg,Jh,Ji,Jj,Jk,J9,Jl,Jm,wr,Jn,JA,JB,Jo,Jp,Jq,Jr,Js,Jt,Ju,Jv,Jw,Jx,Jy,Jz,J0,J1,J2,J3,J4,J5,reduceCtorEq,JC,JD,JE,JF,JG,JH,JI,JJ]) | ((with_reducible (first | apply Ok.br | apply Ok.gd | apply Ok.ld)) <;> (intro g; (try simp only [ZGS] at g); try (exfalso; omega)))))
                    have hL := hrgt e6 hp6 hs6
                    exact Turn.next (mid - a) (by omega) ⟨rfl, a, mid, lm, _, ap, e6, _, rfl, hlm, rfl, rfl, rfl, rfl, rfl, rfl, rfl, hG6, ⟨hmid.1, by omega, by rw [hp6.1, hsz5]; exact hR2.sz, hL.1, fun R hR hs => (hL.2 R hR hs).elim fun q1 q2 => hR2.fin R q1 q2⟩, by omega⟩
                · (repeat' (first | (simp -implicitDefEqProofs (maxSteps := 1000000) (disch := first | assumption | omega | (simp only [ZDI]; omega)) only [*,lenV,fl_len,fl_at,eq_self,pr_eta,hc.run,G116,Za,Zb,Zc,Zd,Ze,Zf,Zg,Zh,Zi,Zj,Zk,Zl,Zm,Zn,Zo,Ja,Jb,Jc,J6,Jd,Je,J7,J8,Jf,Jg,Jh,Ji,Jj,Jk,J9,Jl,Jm,wr,Jn,JA,JB,Jo,Jp,Jq,Jr,Js,Jt,Ju,Jv,Jw,Jx,Jy,Jz,J0,J1,J2,J3,J4,J5,reduceCtorEq,JC,JD,JE,JF,JG,JH,JI,JJ]) | ((with_reducible (first | apply Ok.br | apply Ok.gd | apply Ok.ld)) <;> (intro g; (try simp only [ZGS] at g); try (exfalso; omega)))))
                  refine Ok.bnd2 (partEq_R hc hS hb hG3 hn4 hl4 hp.1 hp.2 hR2.to ha hR2.bel (by rw [hc.neg]; exact decide_eq_false hcm)) fun y h3 ⟨G5, e5, mid, hy, hG5, hmid, hsz5, hB5, hf5⟩ => ?_
                  cases hy
                  (repeat' (first | (simp -implicitDefEqProofs (maxSteps := 1000000) (disch := first | assumption | omega | (simp only [ZDI]; omega)) only [*,lenV,G116,Za,Zb,Zc,Zd,Ze,Zf,Zg,Zh,Zi,Zj,Zk,Zl,Zm,Zn,Zo,Ja,Jb,Jc,J6,Jd,Je,J7,J8,Jf,Jg,Jh,Ji,Jj,Jk,J9,Jl,Jm,wr,Jn,JA,JB,Jo,Jp,Jq,Jr,Js,Jt,Ju,Jv,Jw,Jx,Jy,Jz,J0,J1,J2,J3,J4,J5,reduceCtorEq,JC,JD,JE,JF,JG,JH,JI,JJ]) | ((with_reducible (first | apply Ok.br | apply Ok.gd | apply Ok.ld)) <;> (intro g; (try simp only [ZGS] at g); try (exfalso; omega)))))
                  exact Turn.next (c - mid) (by omega) ⟨rfl, mid, c, lm, _, wp, e5, _, rfl, hlm, rfl, rfl, rfl, rfl, rfl, rfl, rfl, hG5, ⟨hmid.2, hto, by rw [hsz5]; exact hR2.sz, hB5, fun R hR hs => (hf5 R hR hs).elim fun q1 q2 => hR2.fin R q1 q2⟩, by omega⟩
              · have ha' : ¬ 0 < (a : Int) := by omega
                (repeat' (first | (simp -implicitDefEqProofs (maxSteps := 1000000) (disch := first | assumption | omega | (simp only [ZDI]; omega)) only [*,lenV,fl_len,fl_at,eq_self,pr_eta,hc.run,G116,Za,Zb,Zc,Zd,Ze,Zf,Zg,Zh,Zi,Zj,Zk,Zl,Zm,Zn,Zo,Ja,Jb,Jc,J6,Jd,Je,J7,J8,Jf,Jg,Jh,Ji,Jj,Jk,J9,Jl,Jm,wr,Jn,JA,JB,Jo,Jp,Jq,Jr,Js,Jt,Ju,Jv,Jw,Jx,Jy,Jz,J0,J1,J2,J3,J4,J5,reduceCtorEq,JC,JD,JE,JF,JG,JH,JI,JJ]) | ((with_reducible (first | apply Ok.br | apply Ok.gd | apply Ok.ld)) <;> (intro g; (try simp only [ZGS] at g); try (exfalso; omega)))))
                refine Ok.bnd2 (part_R hc hS hb hG3 hn4 hl4 hp.1 hp.2 hR2.to hR2.bel) fun y h3 ⟨G5, e5, mid, ap, hy, hG5, hmid, hsz5, hBl, hBr, hlft, hrgt⟩ => ?_
                cases hy
                by_cases hm : mid - a < c - mid
                · have hm' : (mid : Int) - (a : Int) < (c : Int) - (mid : Int) := by omega
                  (repeat' (first | (simp -implicitDefEqProofs (maxSteps := 1000000) (disch := first | assumption | omega | (simp only [ZDI]; omega)) only [*,lenV,G116,Za,Zb,Zc,Zd,Ze,Zf,Zg,Zh,Zi,Zj,Zk,Zl,Zm,Zn,Zo,Ja,Jb,Jc,J6,Jd,Je,J7,J8,Jf,Jg,Jh,Ji,Jj,Jk,J9,Jl,Jm,wr,Jn,JA,JB,Jo,Jp,Jq,Jr,Js,Jt,Ju,Jv,Jw,Jx,Jy,Jz,J0,J1,J2,J3,J4,J5,reduceCtorEq,JC,JD,JE,JF,JG,JH,JI,JJ]) | ((with_reducible (first | apply Ok.br | apply Ok.gd | apply Ok.ld)) <;> (intro g; (try simp only [ZGS] at g); try (exfalso; omega)))))
                  refine Ok.bnd2 (ih (i0 := a) (j0 := mid) hG5 (by omega) (by omega) (by omega) (by omega) hlm hBl) fun y h3 ⟨G6, e6, hy, hG6, hp6, hs6⟩ => ?_
                  cases hy
                  (repeat' (first | (simp -implicitDefEqProofs (maxSteps := 1000000) (disch := first | assumption | omega | (simp only [ZDI]; omega)) only [*,lenV,G116,Za,Zb,Zc,Zd,Ze,Zf,Zg,Zh,Zi,Zj,Zk,Zl,Zm,Zn,Zo,Ja,Jb,Jc,J6,Jd,Je,J7,J8,Jf,Jg,Jh,Ji,Jj,Jk,J9,Jl,Jm,wr,Jn,JA,JB,Jo,Jp,Jq,Jr,Js,Jt,Ju,Jv,Jw,Jx,Jy,Jz,J0,J1,J2,J3,J4,J5,reduceCtorEq,JC,JD,JE,JF,JG,JH,JI,JJ]) | ((with_reducible (first | apply Ok.br | apply Ok.gd | apply Ok.ld)) <;> (intro g; (try simp only [ZGS] at g); try (exfalso; omega)))))
                  have hL := hlft e6 hp6 hs6
                  exact Turn.next (c - (mid + 1)) (by omega) ⟨rfl, mid + 1, c, lm, _, ap, e6, _, rfl, hlm, rfl, rfl, rfl, rfl, rfl, rfl, rfl, hG6, ⟨by omega, hto, by rw [hp6.1, hsz5]; exact hR2.sz, hL.1, fun R hR hs => (hL.2 R hR hs).elim fun q1 q2 => hR2.fin R q1 q2⟩, by omega⟩
                · have hm' : ¬ (mid : Int) - (a : Int) < (c : Int) - (mid : Int) := by omega
                  (repeat' (first | (simp -implicitDefEqProofs (maxSteps := 1000000) (disch := first | assumption | omega | (simp only [ZDI]; omega)) only [*,lenV,G116,Za,Zb,Zc,Zd,Ze,Zf,Zg,Zh,Zi,Zj,Zk,Zl,Zm,Zn,Zo,Ja,Jb,Jc,J6,Jd,Je,J7,J8,Jf,Jg,Jh,Ji,Jj,Jk,J9,Jl,Jm,wr,Jn,JA,JB,Jo,Jp,Jq,Jr,Js,Jt,Ju,Jv,Jw,Jx,Jy,Jz,J0,J1,J2,J3,J4,J5,reduceCtorEq,JC,JD,JE,JF,JG,JH,JI,JJ]) | ((with_reducible (first | apply Ok.br | apply Ok.gd | apply Ok.ld)) <;> (intro g; (try simp only [ZGS] at g); try (exfalso; omega)))))
                  refine Ok.bnd2 (ih (i0 := mid + 1) (j0 := c) hG5 (by omega) (by omega) (by omega) (by omega) hlm hBr) fun y h3 ⟨G6, e6, hy, hG6, hp6, hs6⟩ => ?_
                  cases hy
                  (repeat' (first | (simp -implicitDefEqProofs (maxSteps := 1000000) (disch := first | assumption | omega | (simp only [ZDI]; omega)) only [*,lenV,G116,Za,Zb,Zc,Zd,Ze,Zf,Zg,Zh,Zi,Zj,Zk,Zl,Zm,Zn,Zo,Ja,Jb,Jc,J6,Jd,Je,J7,J8,Jf,Jg,Jh,Ji,Jj,Jk,J9,Jl,Jm,wr,Jn,JA,JB,Jo,Jp,Jq,Jr,Js,Jt,Ju,Jv,Jw,Jx,Jy,Jz,J0,J1,J2,J3,J4,J5,reduceCtorEq,JC,JD,JE,JF,JG,JH,JI,JJ]) | ((with_reducible (first | apply Ok.br | apply Ok.gd | apply Ok.ld)) <;> (intro g; (try simp only [ZGS] at g); try (exfalso; omega)))))
                  have hL := hrgt e6 hp6 hs6
                  exact Turn.next (mid - a) (by omega) ⟨rfl, a, mid, lm, _, ap, e6, _, rfl, hlm, rfl, rfl, rfl, rfl, rfl, rfl, rfl, hG6, ⟨hmid.1, by omega, by rw [hp6.1, hsz5]; exact hR2.sz, hL.1, fun R hR hs => (hL.2 R hR hs).elim fun q1 q2 => hR2.fin R q1 q2⟩, by omega⟩
            · (repeat' (first | (simp -implicitDefEqProofs (maxSteps := 1000000) (disch := first | assumption | omega | (simp only [ZDI]; omega)) only [*,lenV,G116,Za,Zb,Zc,Zd,Ze,Zf,Zg,Zh,Zi,Zj,Zk,Zl,Zm,Zn,Zo,Ja,Jb,Jc,J6,Jd,Je,J7,J8,Jf,Jg,Jh,Ji,Jj,Jk,J9,Jl,Jm,wr,Jn,JA,JB,Jo,Jp,Jq,Jr,Js,Jt,Ju,Jv,Jw,Jx,Jy,Jz,J0,J1,J2,J3,J4,J5,reduceCtorEq,JC,JD,JE,JF,JG,JH,JI,JJ]) | ((with_reducible (first | apply Ok.br | apply Ok.gd | apply Ok.ld)) <;> (intro g; (try simp only [ZGS] at g); try (exfalso; omega)))))
              refine Ok.bnd2 (reverse_R hb hG3 (by rw [hR2.sz]; exact hn) (by rw [hR2.sz]; exact hl) (by omega) hR2.to) fun y h3 ⟨G4, e4, hy, hG4, hp4⟩ => ?_
              cases hy
              have hR4 := hR2.perm hn hp4
              obtain ⟨pv, hpv'⟩ : ∃ pv : Nat, (c : Int) - 1 - ((p : Int) - (a : Int)) = (pv : Int) := ⟨c - 1 - (p - a), by omega⟩
              have hpv : a <= pv /\ pv < c := by omega
              clear hp4 hG3 hR2
              have hcl := hG4.cells hb
              have hto := hR4.to
              have hn4 : n <= e4.size := by rw [hR4.sz]; exact hn
              have hl4 : e4.size <= 1000000000 := by rw [hR4.sz]; exact hl
              have hx1 : 0 <= (pv : Int) /\ (pv : Int) < (n : Int) := by have := hR4.to; omega
              have hx2 : pv < e4.size := by omega
              by_cases ha : 0 < a
              · have ha' : 0 < (a : Int) := by omega
                have e5 : (a : Int) - 1 = ((a - 1 : Nat) : Int) := by omega
                have hx3 : 0 <= ((a - 1 : Nat) : Int) /\ ((a - 1 : Nat) : Int) < (n : Int) := by have := hR4.to; omega
                have hx4 : a - 1 < e4.size := by omega
                by_cases hcm : hc.c e4[a - 1]! e4[pv]! < 0
                · (repeat' (first | (simp -implicitDefEqProofs (maxSteps := 1000000) (disch := first | assumption | omega | (simp only [ZDI]; omega)) only [*,lenV,fl_len,fl_at,eq_self,pr_eta,hc.run,G116,Za,Zb,Zc,Zd,Ze,Zf,Zg,Zh,Zi,Zj,Zk,Zl,Zm,Zn,Zo,Ja,Jb,Jc,J6,Jd,Je,J7,J8,Jf,Jg,Jh,Ji,Jj,Jk,J9,Jl,Jm,wr,Jn,JA,JB,Jo,Jp,Jq,Jr,Js,Jt,Ju,Jv,Jw,Jx,Jy,Jz,J0,J1,J2,J3,J4,J5,reduceCtorEq,JC,JD,JE,JF,JG,JH,JI,JJ]) | ((with_reducible (first | apply Ok.br | apply Ok.gd | apply Ok.ld)) <;> (intro g; (try simp only [ZGS] at g); try (exfalso; omega)))))
                  refine Ok.bnd2 (part_R hc hS hb hG4 hn4 hl4 hpv.1 hpv.2 hR4.to hR4.bel) fun y h3 ⟨G5, e5, mid, ap, hy, hG5, hmid, hsz5, hBl, hBr, hlft, hrgt⟩ => ?_
                  cases hy
                  by_cases hm : mid - a < c - mid
                  · have hm' : (mid : Int) - (a : Int) < (c : Int) - (mid : Int) := by omega
                    (repeat' (first | (simp -implicitDefEqProofs (maxSteps := 1000000) (disch := first | assumption | omega | (simp only [ZDI]; omega)) only [*,lenV,G116,Za,Zb,Zc,Zd,Ze,Zf,Zg,Zh,Zi,Zj,Zk,Zl,Zm,Zn,Zo,Ja,Jb,Jc,J6,Jd,Je,J7,J8,Jf,Jg,Jh,Ji,Jj,Jk,J9,Jl,Jm,wr,Jn,JA,JB,Jo,Jp,Jq,Jr,Js,Jt,Ju,Jv,Jw,Jx,Jy,Jz,J0,J1,J2,J3,J4,J5,reduceCtorEq,JC,JD,JE,JF,JG,JH,JI,JJ]) | ((with_reducible (first | apply Ok.br | apply Ok.gd | apply Ok.ld)) <;> (intro g; (try simp only [ZGS] at g); try (exfalso; omega)))))
                    refine Ok.bnd2 (ih (i0 := a) (j0 := mid) hG5 (by omega) (by omega) (by omega) (by omega) hlm hBl) fun y h3 ⟨G6, e6, hy, hG6, hp6, hs6⟩ => ?_
                    cases hy
                    (repeat' (first | (simp -implicitDefEqProofs (maxSteps := 1000000) (disch := first | assumption | omega | (simp only [ZDI]; omega)) only [*,lenV,G116,Za,Zb,Zc,Zd,Ze,Zf,Zg,Zh,Zi,Zj,Zk,Zl,Zm,Zn,Zo,Ja,Jb,Jc,J6,Jd,Je,J7,J8,Jf,Jg,Jh,Ji,Jj,Jk,J9,Jl,Jm,wr,Jn,JA,JB,Jo,Jp,Jq,Jr,Js,Jt,Ju,Jv,Jw,Jx,Jy,Jz,J0,J1,J2,J3,J4,J5,reduceCtorEq,JC,JD,JE,JF,JG,JH,JI,JJ]) | ((with_reducible (first | apply Ok.br | apply Ok.gd | apply Ok.ld)) <;> (intro g; (try simp only [ZGS] at g); try (exfalso; omega)))))
                    have hL := hlft e6 hp6 hs6
                    exact Turn.next (c - (mid + 1)) (by omega) ⟨rfl, mid + 1, c, lm, _, ap, e6, _, rfl, hlm, rfl, rfl, rfl, rfl, rfl, rfl, rfl, hG6, ⟨by omega, hto, by rw [hp6.1, hsz5]; exact hR4.sz, hL.1, fun R hR hs => (hL.2 R hR hs).elim fun q1 q2 => hR4.fin R q1 q2⟩, by omega⟩
                  · have hm' : ¬ (mid : Int) - (a : Int) < (c : Int) - (mid : Int) := by omega
                    (repeat' (first | (simp -implicitDefEqProofs (maxSteps := 1000000) (disch := first | assumption | omega | (simp only [ZDI]; omega)) only [*,lenV,G116,Za,Zb,Zc,Zd,Ze,Zf,Zg,Zh,Zi,Zj,Zk,Zl,Zm,Zn,Zo,Ja,Jb,Jc,J6,Jd,Je,J7,J8,Jf,Jg,Jh,Ji,Jj,Jk,J9,Jl,Jm,wr,Jn,JA,JB,Jo,Jp,Jq,Jr,Js,Jt,Ju,Jv,Jw,Jx,Jy,Jz,J0,J1,J2,J3,J4,J5,reduceCtorEq,JC,JD,JE,JF,JG,JH,JI,JJ]) | ((with_reducible (first | apply Ok.br | apply Ok.gd | apply Ok.ld)) <;> (intro g; (try simp only [ZGS] at g); try (exfalso; omega)))))
                    refine Ok.bnd2 (ih (i0 := mid + 1) (j0 := c) hG5 (by omega) (by omega) (by omega) (by omega) hlm hBr) fun y h3 ⟨G6, e6, hy, hG6, hp6, hs6⟩ => ?_
                    cases hy
                    (repeat' (first | (simp -implicitDefEqProofs (maxSteps := 1000000) (disch := first | assumption | omega | (simp only [ZDI]; omega)) only [*,lenV,G116,Za,Zb,Zc,Zd,Ze,Zf,Zg,Zh,Zi,Zj,Zk,Zl,Zm,Zn,Zo,Ja,Jb,Jc,J6,Jd,Je,J7,J8,Jf,Jg,Jh,Ji,Jj,Jk,J9,Jl,Jm,wr,Jn,JA,JB,Jo,Jp,Jq,Jr,Js,Jt,Ju,Jv,Jw,Jx,Jy,Jz,J0,J1,J2,J3,J4,J5,reduceCtorEq,JC,JD,JE,JF,JG,JH,JI,JJ]) | ((with_reducible (first | apply Ok.br | apply Ok.gd | apply Ok.ld)) <;> (intro g; (try simp only [ZGS] at g); try (exfalso; omega)))))
                    have hL := hrgt e6 hp6 hs6
                    exact Turn.next (mid - a) (by omega) ⟨rfl, a, mid, lm, _, ap, e6, _, rfl, hlm, rfl, rfl, rfl, rfl, rfl, rfl, rfl, hG6, ⟨hmid.1, by omega, by rw [hp6.1, hsz5]; exact hR4.sz, hL.1, fun R hR hs => (hL.2 R hR hs).elim fun q1 q2 => hR4.fin R q1 q2⟩, by omega⟩
                · (repeat' (first | (simp -implicitDefEqProofs (maxSteps := 1000000) (disch := first | assumption | omega | (simp only [ZDI]; omega)) only [*,lenV,fl_len,fl_at,eq_self,pr_eta,hc.run,G116,Za,Zb,Zc,Zd,Ze,Zf,Zg,Zh,Zi,Zj,Zk,Zl,Zm,Zn,Zo,Ja,Jb,Jc,J6,Jd,Je,J7,J8,Jf,Jg,Jh,Ji,Jj,Jk,J9,Jl,Jm,wr,Jn,JA,JB,Jo,Jp,Jq,Jr,Js,Jt,Ju,Jv,Jw,Jx,Jy,Jz,J0,J1,J2,J3,J4,J5,reduceCtorEq,JC,JD,JE,JF,JG,JH,JI,JJ]) | ((with_reducible (first | apply Ok.br | apply Ok.gd | apply Ok.ld)) <;> (intro g; (try simp only [ZGS] at g); try (exfalso; omega)))))
                  refine Ok.bnd2 (partEq_R hc hS hb hG4 hn4 hl4 hpv.1 hpv.2 hR4.to ha hR4.bel (by rw [hc.neg]; exact decide_eq_false hcm)) fun y h3 ⟨G5, e5, mid, hy, hG5, hmid, hsz5, hB5, hf5⟩ => ?_
                  cases hy
                  (repeat' (first | (simp -implicitDefEqProofs (maxSteps := 1000000) (disch := first | assumption | omega | (simp only [ZDI]; omega)) only [*,lenV,G116,Za,Zb,Zc,Zd,Ze,Zf,Zg,Zh,Zi,Zj,Zk,Zl,Zm,Zn,Zo,Ja,Jb,Jc,J6,Jd,Je,J7,J8,Jf,Jg,Jh,Ji,Jj,Jk,J9,Jl,Jm,wr,Jn,JA,JB,Jo,Jp,Jq,Jr,Js,Jt,Ju,Jv,Jw,Jx,Jy,Jz,J0,J1,J2,J3,J4,J5,reduceCtorEq,JC,JD,JE,JF,JG,JH,JI,JJ]) | ((with_reducible (first | apply Ok.br | apply Ok.gd | apply Ok.ld)) <;> (intro g; (try simp only [ZGS] at g); try (exfalso; omega)))))
                  exact Turn.next (c - mid) (by omega) ⟨rfl, mid, c, lm, _, wp, e5, _, rfl, hlm, rfl, rfl, rfl, rfl, rfl, rfl, rfl, hG5, ⟨hmid.2, hto, by rw [hsz5]; exact hR4.sz, hB5, fun R hR hs => (hf5 R hR hs).elim fun q1 q2 => hR4.fin R q1 q2⟩, by omega⟩
              · have ha' : ¬ 0 < (a : Int) := by omega
                (repeat' (first | (simp -implicitDefEqProofs (maxSteps := 1000000) (disch := first | assumption | omega | (simp only [ZDI]; omega)) only [*,lenV,fl_len,fl_at,eq_self,pr_eta,hc.run,G116,Za,Zb,Zc,Zd,Ze,Zf,Zg,Zh,Zi,Zj,Zk,Zl,Zm,Zn,Zo,Ja,Jb,Jc,J6,Jd,Je,J7,J8,Jf,Jg,Jh,Ji,Jj,Jk,J9,Jl,Jm,wr,Jn,JA,JB,Jo,Jp,Jq,Jr,Js,Jt,Ju,Jv,Jw,Jx,Jy,Jz,J0,J1,J2,J3,J4,J5,reduceCtorEq,JC,JD,JE,JF,JG,JH,JI,JJ]) | ((with_reducible (first | apply Ok.br | apply Ok.gd | apply Ok.ld)) <;> (intro g; (try simp only [ZGS] at g); try (exfalso; omega)))))
                refine Ok.bnd2 (part_R hc hS hb hG4 hn4 hl4 hpv.1 hpv.2 hR4.to hR4.bel) fun y h3 ⟨G5, e5, mid, ap, hy, hG5, hmid, hsz5, hBl, hBr, hlft, hrgt⟩ => ?_
                cases hy
                by_cases hm : mid - a < c - mid
                · have hm' : (mid : Int) - (a : Int) < (c : Int) - (mid : Int) := by omega
                  (repeat' (first | (simp -implicitDefEqProofs (maxSteps := 1000000) (disch := first | assumption | omega | (simp only [ZDI]; omega)) only [*,lenV,G116,Za,Zb,Zc,Zd,Ze,Zf,Zg,Zh,Zi,Zj,Zk,Zl,Zm,Zn,Zo,Ja,Jb,Jc,J6,Jd,Je,J7,J8,Jf,Jg,Jh,Ji,Jj,Jk,J9,Jl,Jm,wr,Jn,JA,JB,Jo,Jp,Jq,Jr,Js,Jt,Ju,Jv,Jw,Jx,Jy,Jz,J0,J1,J2,J3,J4,J5,reduceCtorEq,JC,JD,JE,JF,JG,JH,JI,JJ]) | ((with_reducible (first | apply Ok.br | apply Ok.gd | apply Ok.ld)) <;> (intro g; (try simp only [ZGS] at g); try (exfalso; omega)))))
                  refine Ok.bnd2 (ih (i0 := a) (j0 := mid) hG5 (by omega) (by omega) (by omega) (by omega) hlm hBl) fun y h3 ⟨G6, e6, hy, hG6, hp6, hs6⟩ => ?_
                  cases hy
                  (repeat' (first | (simp -implicitDefEqProofs (maxSteps := 1000000) (disch := first | assumption | omega | (simp only [ZDI]; omega)) only [*,lenV,G116,Za,Zb,Zc,Zd,Ze,Zf,Zg,Zh,Zi,Zj,Zk,Zl,Zm,Zn,Zo,Ja,Jb,Jc,J6,Jd,Je,J7,J8,Jf,Jg,Jh,Ji,Jj,Jk,J9,Jl,Jm,wr,Jn,JA,JB,Jo,Jp,Jq,Jr,Js,Jt,Ju,Jv,Jw,Jx,Jy,Jz,J0,J1,J2,J3,J4,J5,reduceCtorEq,JC,JD,JE,JF,JG,JH,JI,JJ]) | ((with_reducible (first | apply Ok.br | apply Ok.gd | apply Ok.ld)) <;> (intro g; (try simp only [ZGS] at g); try (exfalso; omega)))))
                  have hL := hlft e6 hp6 hs6
                  exact Turn.next (c - (mid + 1)) (by omega) ⟨rfl, mid + 1, c, lm, _, ap, e6, _, rfl, hlm, rfl, rfl, rfl, rfl, rfl, rfl, rfl, hG6, ⟨by omega, hto, by rw [hp6.1, hsz5]; exact hR4.sz, hL.1, fun R hR hs => (hL.2 R hR hs).elim fun q1 q2 => hR4.fin R q1 q2⟩, by omega⟩
                · have hm' : ¬ (mid : Int) - (a : Int) < (c : Int) - (mid : Int) := by omega
                  (repeat' (first | (simp -implicitDefEqProofs (maxSteps := 1000000) (disch := first | assumption | omega | (simp only [ZDI]; omega)) only [*,lenV,G116,Za,Zb,Zc,Zd,Ze,Zf,Zg,Zh,Zi,Zj,Zk,Zl,Zm,Zn,Zo,Ja,Jb,Jc,J6,Jd,Je,J7,J8,Jf,Jg,Jh,Ji,Jj,Jk,J9,Jl,Jm,wr,Jn,JA,JB,Jo,Jp,Jq,Jr,Js,Jt,Ju,Jv,Jw,Jx,Jy,Jz,J0,J1,J2,J3,J4,J5,reduceCtorEq,JC,JD,JE,JF,JG,JH,JI,JJ]) | ((with_reducible (first | apply Ok.br | apply Ok.gd | apply Ok.ld)) <;> (intro g; (try simp only [ZGS] at g); try (exfalso; omega)))))
                  refine Ok.bnd2 (ih (i0 := mid + 1) (j0 := c) hG5 (by omega) (by omega) (by omega) (by omega) hlm hBr) fun y h3 ⟨G6, e6, hy, hG6, hp6, hs6⟩ => ?_
                  cases hy
                  (repeat' (first | (simp -implicitDefEqProofs (maxSteps := 1000000) (disch := first | assumption | omega | (simp only [ZDI]; omega)) only [*,lenV,G116,Za,Zb,Zc,Zd,Ze,Zf,Zg,Zh,Zi,Zj,Zk,Zl,Zm,Zn,Zo,Ja,Jb,Jc,J6,Jd,Je,J7,J8,Jf,Jg,Jh,Ji,Jj,Jk,J9,Jl,Jm,wr,Jn,JA,JB,Jo,Jp,Jq,Jr,Js,Jt,Ju,Jv,Jw,Jx,Jy,Jz,J0,J1,J2,J3,J4,J5,reduceCtorEq,JC,JD,JE,JF,JG,JH,JI,JJ]) | ((with_reducible (first | apply Ok.br | apply Ok.gd | apply Ok.ld)) <;> (intro g; (try simp only [ZGS] at g); try (exfalso; omega)))))
                  have hL := hrgt e6 hp6 hs6
                  exact Turn.next (mid - a) (by omega) ⟨rfl, a, mid, lm, _, ap, e6, _, rfl, hlm, rfl, rfl, rfl, rfl, rfl, rfl, rfl, hG6, ⟨hmid.1, by omega, by rw [hp6.1, hsz5]; exact hR4.sz, hL.1, fun R hR hs => (hL.2 R hR hs).elim fun q1 q2 => hR4.fin R q1 q2⟩, by omega⟩
          | true =>
            cases wp with
            | false =>
              (repeat' (first | (simp -implicitDefEqProofs (maxSteps := 1000000) (disch := first | assumption | omega | (simp only [ZDI]; omega)) only [*,lenV,G116,Za,Zb,Zc,Zd,Ze,Zf,Zg,Zh,Zi,Zj,Zk,Zl,Zm,Zn,Zo,Ja,Jb,Jc,J6,Jd,Je,J7,J8,Jf,Jg,Jh,Ji,Jj,Jk,J9,Jl,Jm,wr,Jn,JA,JB,Jo,Jp,Jq,Jr,Js,Jt,Ju,Jv,Jw,Jx,Jy,Jz,J0,J1,J2,J3,J4,J5,reduceCtorEq,JC,JD,JE,JF,JG,JH,JI,JJ]) | ((with_reducible (first | apply Ok.br | apply Ok.gd | apply Ok.ld)) <;> (intro g; (try simp only [ZGS] at g); try (exfalso; omega)))))
              obtain ⟨lm, hlm'⟩ : ∃ lm, lm = lm0 + 1 := ⟨lm0 + 1, rfl⟩
              have hlm : lm <= 1000 := by omega
              rw [<- hlm'] at hz ⊢
              clear hz2 hlm'
              refine Ok.bnd2 (pivot_R hc hb hG1 (by rw [hR1.sz]; exact hn) (by rw [hR1.sz]; exact hl) (by omega) hR1.to) fun y h3 ⟨G3, p, hh, hy, hG3, hp, hcase⟩ => ?_
              cases hy
              rcases hcase with rfl | rfl | rfl
              · have hcl := hG3.cells hb
                have hto := hR1.to
                have hn4 : n <= e.size := by rw [hR1.sz]; exact hn
                have hl4 : e.size <= 1000000000 := by rw [hR1.sz]; exact hl
                have hx1 : 0 <= (p : Int) /\ (p : Int) < (n : Int) := by have := hR1.to; omega
                have hx2 : p < e.size := by omega
                by_cases ha : 0 < a
                · have ha' : 0 < (a : Int) := by omega
                  have e5 : (a : Int) - 1 = ((a - 1 : Nat) : Int) := by omega
                  have hx3 : 0 <= ((a - 1 : Nat) : Int) /\ ((a - 1 : Nat) : Int) < (n : Int) := by have := hR1.to; omega
                  have hx4 : a - 1 < e.size := by omega
                  by_cases hcm : hc.c e[a - 1]! e[p]! < 0
                  · (repeat' (first | (simp -implicitDefEqProofs (maxSteps := 1000000) (disch := first | assumption | omega | (simp only [ZDI]; omega)) only [*,lenV,fl_len,fl_at,eq_self,pr_eta,hc.run,G116,Za,Zb,Zc,Zd,Ze,Zf,Zg,Zh,Zi,Zj,Zk,Zl,Zm,Zn,Zo,Ja,Jb,Jc,J6,Jd,Je,J7,J8,Jf,Jg,Jh,Ji,Jj,Jk,J9,Jl,Jm,wr,Jn,JA,JB,Jo,Jp,Jq,Jr,Js,Jt,Ju,Jv,Jw,Jx,Jy,Jz,J0,J1,J2,J3,J4,J5,reduceCtorEq,JC,JD,JE,JF,JG,JH,JI,JJ]) | ((with_reducible (first | apply Ok.br | apply Ok.gd | apply Ok.ld)) <;> (intro g; (try simp only [ZGS] at g); try (exfalso; omega)))))
                    refine Ok.bnd2 (part_R hc hS hb hG3 hn4 hl4 hp.1 hp.2 hR1.to hR1.bel) fun y h3 ⟨G5, e5, mid, ap, hy, hG5, hmid, hsz5, hBl, hBr, hlft, hrgt⟩ => ?_
                    cases hy
                    by_cases hm : mid - a < c - mid
                    · have hm' : (mid : Int) - (a : Int) < (c : Int) - (mid : Int) := by omega
                      (repeat' (first | (simp -implicitDefEqProofs (maxSteps := 1000000) (disch := first | assumption | omega | (simp only [ZDI]; omega)) only [*,lenV,G116,Za,Zb,Zc,Zd,Ze,Zf,Zg,Zh,Zi,Zj,Zk,Zl,Zm,Zn,Zo,Ja,Jb,Jc,J6,Jd,Je,J7,J8,Jf,Jg,Jh,Ji,Jj,Jk,J9,Jl,Jm,wr,Jn,JA,JB,Jo,Jp,Jq,Jr,Js,Jt,Ju,Jv,Jw,Jx,Jy,Jz,J0,J1,J2,J3,J4,J5,reduceCtorEq,JC,JD,JE,JF,JG,JH,JI,JJ]) | ((with_reducible (first | apply Ok.br | apply Ok.gd | apply Ok.ld)) <;> (intro g; (try simp only [ZGS] at g); try (exfalso; omega)))))
                      refine Ok.bnd2 (ih (i0 := a) (j0 := mid) hG5 (by omega) (by omega) (by omega) (by omega) hlm hBl) fun y h3 ⟨G6, e6, hy, hG6, hp6, hs6⟩ => ?_
                      cases hy
                      (repeat' (first | (simp -implicitDefEqProofs (maxSteps := 1000000) (disch := first | assumption | omega | (simp only [ZDI]; omega)) only [*,lenV,G116,Za,Zb,Zc,Zd,Ze,Zf,Zg,Zh,Zi,Zj,Zk,Zl,Zm,Zn,Zo,Ja,Jb,Jc,J6,Jd,Je,J7,J8,Jf,Jg,Jh,Ji,Jj,Jk,J9,Jl,Jm,wr,Jn,JA,JB,Jo,Jp,Jq,Jr,Js,Jt,Ju,Jv,Jw,Jx,Jy,Jz,J0,J1,J2,J3,J4,J5,reduceCtorEq,JC,JD,JE,JF,JG,JH,JI,JJ]) | ((with_reducible (first | apply Ok.br | apply Ok.gd | apply Ok.ld)) <;> (intro g; (try simp only [ZGS] at g); try (exfalso; omega)))))
                      have hL := hlft e6 hp6 hs6
                      exact Turn.next (c - (mid + 1)) (by omega) ⟨rfl, mid + 1, c, lm, _, ap, e6, _, rfl, hlm, rfl, rfl, rfl, rfl, rfl, rfl, rfl, hG6, ⟨by omega, hto, by rw [hp6.1, hsz5]; exact hR1.sz, hL.1, fun R hR hs => (hL.2 R hR hs).elim fun q1 q2 => hR1.fin R q1 q2⟩, by omega⟩
                    · have hm' : ¬ (mid : Int) - (a : Int) < (c : Int) - (mid : Int) := by omega
                      (repeat' (first | (simp -implicitDefEqProofs (maxSteps := 1000000) (disch := first | assumption | omega | (simp only [ZDI]; omega)) only [*,lenV,G116,Za,Zb,Zc,Zd,Ze,Zf,Zg,Zh,Zi,Zj,Zk,Zl,Zm,Zn,Zo,Ja,Jb,Jc,J6,Jd,Je,J7,J8,Jf,Jg,Jh,Ji,Jj,Jk,J9,Jl,Jm,wr,Jn,JA,JB,Jo,Jp,Jq,Jr,Js,Jt,Ju,Jv,Jw,Jx,Jy,Jz,J0,J1,J2,J3,J4,J5,reduceCtorEq,JC,JD,JE,JF,JG,JH,JI,JJ]) | ((with_reducible (first | apply Ok.br | apply Ok.gd | apply Ok.ld)) <;> (intro g; (try simp only [ZGS] at g); try (exfalso; omega)))))
                      refine Ok.bnd2 (ih (i0 := mid + 1) (j0 := c) hG5 (by omega) (by omega) (by omega) (by omega) hlm hBr) fun y h3 ⟨G6, e6, hy, hG6, hp6, hs6⟩ => ?_
                      cases hy
                      (repeat' (first | (simp -implicitDefEqProofs (maxSteps := 1000000) (disch := first | assumption | omega | (simp only [ZDI]; omega)) only [*,lenV,G116,Za,Zb,Zc,Zd,Ze,Zf,Zg,Zh,Zi,Zj,Zk,Zl,Zm,Zn,Zo,Ja,Jb,Jc,J6,Jd,Je,J7,J8,Jf,Jg,Jh,Ji,Jj,Jk,J9,Jl,Jm,wr,Jn,JA,JB,Jo,Jp,Jq,Jr,Js,Jt,Ju,Jv,Jw,Jx,Jy,Jz,J0,J1,J2,J3,J4,J5,reduceCtorEq,JC,JD,JE,JF,JG,JH,JI,JJ]) | ((with_reducible (first | apply Ok.br | apply Ok.gd | apply Ok.ld)) <;> (intro g; (try simp only [ZGS] at g); try (exfalso; omega)))))
                      have hL := hrgt e6 hp6 hs6
                      exact Turn.next (mid - a) (by omega) ⟨rfl, a, mid, lm, _, ap, e6, _, rfl, hlm, rfl, rfl, rfl, rfl, rfl, rfl, rfl, hG6, ⟨hmid.1, by omega, by rw [hp6.1, hsz5]; exact hR1.sz, hL.1, fun R hR hs => (hL.2 R hR hs).elim fun q1 q2 => hR1.fin R q1 q2⟩, by omega⟩
                  · (repeat' (first | (simp -implicitDefEqProofs (maxSteps := 1000000) (disch := first | assumption | omega | (simp only [ZDI]; omega)) only [*,lenV,fl_len,fl_at,eq_self,pr_eta,hc.run,G116,Za,Zb,Zc,Zd,Ze,Zf,Zg,Zh,Zi,Zj,Zk,Zl,Zm,Zn,Zo,Ja,Jb,Jc,J6,Jd,Je,J7,J8,Jf,Jg,Jh,Ji,Jj,Jk,J9,Jl,Jm,wr,Jn,JA,JB,Jo,Jp,Jq,Jr,Js,Jt,Ju,Jv,Jw,Jx,Jy,Jz,J0,J1,J2,J3,J4,J5,reduceCtorEq,JC,JD,JE,JF,JG,JH,JI,JJ]) | ((with_reducible (first | apply Ok.br | apply Ok.gd | apply Ok.ld)) <;> (intro g; (try simp only [ZGS] at g); try (exfalso; omega)))))
                    refine Ok.bnd2 (partEq_R hc hS hb hG3 hn4 hl4 hp.1 hp.2 hR1.to ha hR1.bel (by rw [hc.neg]; exact decide_eq_false hcm)) fun y h3 ⟨G5, e5, mid, hy, hG5, hmid, hsz5, hB5, hf5⟩ => ?_
                    cases hy
                    (repeat' (first | (simp -implicitDefEqProofs (maxSteps := 1000000) (disch := first | assumption | omega | (simp only [ZDI]; omega)) only [*,lenV,G116,Za,Zb,Zc,Zd,Ze,Zf,Zg,Zh,Zi,Zj,Zk,Zl,Zm,Zn,Zo,Ja,Jb,Jc,J6,Jd,Je,J7,J8,Jf,Jg,Jh,Ji,Jj,Jk,J9,Jl,Jm,wr,Jn,JA,JB,Jo,Jp,Jq,Jr,Js,Jt,Ju,Jv,Jw,Jx,Jy,Jz,J0,J1,J2,J3,J4,J5,reduceCtorEq,JC,JD,JE,JF,JG,JH,JI,JJ]) | ((with_reducible (first | apply Ok.br | apply Ok.gd | apply Ok.ld)) <;> (intro g; (try simp only [ZGS] at g); try (exfalso; omega)))))
                    exact Turn.next (c - mid) (by omega) ⟨rfl, mid, c, lm, _, false, e5, _, rfl, hlm, rfl, rfl, rfl, rfl, rfl, rfl, rfl, hG5, ⟨hmid.2, hto, by rw [hsz5]; exact hR1.sz, hB5, fun R hR hs => (hf5 R hR hs).elim fun q1 q2 => hR1.fin R q1 q2⟩, by omega⟩
                · have ha' : ¬ 0 < (a : Int) := by omega
                  (repeat' (first | (simp -implicitDefEqProofs (maxSteps := 1000000) (disch := first | assumption | omega | (simp only [ZDI]; omega)) only [*,lenV,fl_len,fl_at,eq_self,pr_eta,hc.run,G116,Za,Zb,Zc,Zd,Ze,Zf,Zg,Zh,Zi,Zj,Zk,Zl,Zm,Zn,Zo,Ja,Jb,Jc,J6,Jd,Je,J7,J8,Jf,Jg,Jh,Ji,Jj,Jk,J9,Jl,Jm,wr,Jn,JA,JB,Jo,Jp,Jq,Jr,Js,Jt,Ju,Jv,Jw,Jx,Jy,Jz,J0,J1,J2,J3,J4,J5,reduceCtorEq,JC,JD,JE,JF,JG,JH,JI,JJ]) | ((with_reducible (first | apply Ok.br | apply Ok.gd | apply Ok.ld)) <;> (intro g; (try simp only [ZGS] at g); try (exfalso; omega)))))
                  refine Ok.bnd2 (part_R hc hS hb hG3 hn4 hl4 hp.1 hp.2 hR1.to hR1.bel) fun y h3 ⟨G5, e5, mid, ap, hy, hG5, hmid, hsz5, hBl, hBr, hlft, hrgt⟩ => ?_
                  cases hy
                  by_cases hm : mid - a < c - mid
                  · have hm' : (mid : Int) - (a : Int) < (c : Int) - (mid : Int) := by omega
                    (repeat' (first | (simp -implicitDefEqProofs (maxSteps := 1000000) (disch := first | assumption | omega | (simp only [ZDI]; omega)) only [*,lenV,G116,Za,Zb,Zc,Zd,Ze,Zf,Zg,Zh,Zi,Zj,Zk,Zl,Zm,Zn,Zo,Ja,Jb,Jc,J6,Jd,Je,J7,J8,Jf,Jg,Jh,Ji,Jj,Jk,J9,Jl,Jm,wr,Jn,JA,JB,Jo,Jp,Jq,Jr,Js,Jt,Ju,Jv,Jw,Jx,Jy,Jz,J0,J1,J2,J3,J4,J5,reduceCtorEq,JC,JD,JE,JF,JG,JH,JI,JJ]) | ((with_reducible (first | apply Ok.br | apply Ok.gd | apply Ok.ld)) <;> (intro g; (try simp only [ZGS] at g); try (exfalso; omega)))))
                    refine Ok.bnd2 (ih (i0 := a) (j0 := mid) hG5 (by omega) (by omega) (by omega) (by omega) hlm hBl) fun y h3 ⟨G6, e6, hy, hG6, hp6, hs6⟩ => ?_
                    cases hy
                    (repeat' (first | (simp -implicitDefEqProofs (maxSteps := 1000000) (disch := first | assumption | omega | (simp only [ZDI]; omega)) only [*,lenV,G116,Za,Zb,Zc,Zd,Ze,Zf,Zg,Zh,Zi,Zj,Zk,Zl,Zm,Zn,Zo,Ja,Jb,Jc,J6,Jd,Je,J7,J8,Jf,Jg,Jh,Ji,Jj,Jk,J9,Jl,Jm,wr,Jn,JA,JB,Jo,Jp,Jq,Jr,Js,Jt,Ju,Jv,Jw,Jx,Jy,Jz,J0,J1,J2,J3,J4,J5,reduceCtorEq,JC,JD,JE,JF,JG,JH,JI,JJ]) | ((with_reducible (first | apply Ok.br | apply Ok.gd | apply Ok.ld)) <;> (intro g; (try simp only [ZGS] at g); try (exfalso; omega)))))
                    have hL := hlft e6 hp6 hs6
                    exact Turn.next (c - (mid + 1)) (by omega) ⟨rfl, mid + 1, c, lm, _, ap, e6, _, rfl, hlm, rfl, rfl, rfl, rfl, rfl, rfl, rfl, hG6, ⟨by omega, hto, by rw [hp6.1, hsz5]; exact hR1.sz, hL.1, fun R hR hs => (hL.2 R hR hs).elim fun q1 q2 => hR1.fin R q1 q2⟩, by omega⟩
                  · have hm' : ¬ (mid : Int) - (a : Int) < (c : Int) - (mid : Int) := by omega
                    (repeat' (first | (simp -implicitDefEqProofs (maxSteps := 1000000) (disch := first | assumption | omega | (simp only [ZDI]; omega)) only [*,lenV,G116,Za,Zb,Zc,Zd,Ze,Zf,Zg,Zh,Zi,Zj,Zk,Zl,Zm,Zn,Zo,Ja,Jb,Jc,J6,Jd,Je,J7,J8,Jf,Jg,Jh,Ji,Jj,Jk,J9,Jl,Jm,wr,Jn,JA,JB,Jo,Jp,Jq,Jr,Js,Jt,Ju,Jv,Jw,Jx,Jy,Jz,J0,J1,J2,J3,J4,J5,reduceCtorEq,JC,JD,JE,JF,JG,JH,JI,JJ]) | ((with_reducible (first | apply Ok.br | apply Ok.gd | apply Ok.ld)) <;> (intro g; (try simp only [ZGS] at g); try (exfalso; omega)))))
                    refine Ok.bnd2 (ih (i0 := mid + 1) (j0 := c) hG5 (by omega) (by omega) (by omega) (by omega) hlm hBr) fun y h3 ⟨G6, e6, hy, hG6, hp6, hs6⟩ => ?_
                    cases hy
                    (repeat' (first | (simp -implicitDefEqProofs (maxSteps := 1000000) (disch := first | assumption | omega | (simp only [ZDI]; omega)) only [*,lenV,G116,Za,Zb,Zc,Zd,Ze,Zf,Zg,Zh,Zi,Zj,Zk,Zl,Zm,Zn,Zo,Ja,Jb,Jc,J6,Jd,Je,J7,J8,Jf,Jg,Jh,Ji,Jj,Jk,J9,Jl,Jm,wr,Jn,JA,JB,Jo,Jp,Jq,Jr,Js,Jt,Ju,Jv,Jw,Jx,Jy,Jz,J0,J1,J2,J3,J4,J5,reduceCtorEq,JC,JD,JE,JF,JG,JH,JI,JJ]) | ((with_reducible (first | apply Ok.br | apply Ok.gd | apply Ok.ld)) <;> (intro g; (try simp only [ZGS] at g); try (exfalso; omega)))))
                    have hL := hrgt e6 hp6 hs6
                    exact Turn.next (mid - a) (by omega) ⟨rfl, a, mid, lm, _, ap, e6, _, rfl, hlm, rfl, rfl, rfl, rfl, rfl, rfl, rfl, hG6, ⟨hmid.1, by omega, by rw [hp6.1, hsz5]; exact hR1.sz, hL.1, fun R hR hs => (hL.2 R hR hs).elim fun q1 q2 => hR1.fin R q1 q2⟩, by omega⟩
              · have hcl := hG3.cells hb
                have hto := hR1.to
                have hn4 : n <= e.size := by rw [hR1.sz]; exact hn
                have hl4 : e.size <= 1000000000 := by rw [hR1.sz]; exact hl
                have hx1 : 0 <= (p : Int) /\ (p : Int) < (n : Int) := by have := hR1.to; omega
                have hx2 : p < e.size := by omega
                by_cases ha : 0 < a
                · have ha' : 0 < (a : Int) := by omega
                  have e5 : (a : Int) - 1 = ((a - 1 : Nat) : Int) := by omega
                  have hx3 : 0 <= ((a - 1 : Nat) : Int) /\ ((a - 1 : Nat) : Int) < (n : Int) := by have := hR1.to; omega
                  have hx4 : a - 1 < e.size := by omega
                  by_cases hcm : hc.c e[a - 1]! e[p]! < 0
                  · (repeat' (first | (simp -implicitDefEqProofs (maxSteps := 1000000) (disch := first | assumption | omega | (simp only [ZDI]; omega)) only [*,lenV,fl_len,fl_at,eq_self,pr_eta,hc.run,G116,Za,Zb,Zc,Zd,Ze,Zf,Zg,Zh,Zi,Zj,Zk,Zl,Zm,Zn,Zo,Ja,Jb,Jc,J6,Jd,Je,J7,J8,Jf,Jg,Jh,Ji,Jj,Jk,J9,Jl,Jm,wr,Jn,JA,JB,Jo,Jp,Jq,Jr,Js,Jt,Ju,Jv,Jw,Jx,Jy,Jz,J0,J1,J2,J3,J4,J5,reduceCtorEq,JC,JD,JE,JF,JG,JH,JI,JJ]) | ((with_reducible (first | apply Ok.br | apply Ok.gd | apply Ok.ld)) <;> (intro g; (try simp only [ZGS] at g); try (exfalso; omega)))))
                    refine Ok.bnd2 (part_R hc hS hb hG3 hn4 hl4 hp.1 hp.2 hR1.to hR1.bel) fun y h3 ⟨G5, e5, mid, ap, hy, hG5, hmid, hsz5, hBl, hBr, hlft, hrgt⟩ => ?_
                    cases hy
                    by_cases hm : mid - a < c - mid
                    · have hm' : (mid : Int) - (a : Int) < (c : Int) - (mid : Int) := by omega
                      (repeat' (first | (simp -implicitDefEqProofs (maxSteps := 1000000) (disch := first | assumption | omega | (simp only [ZDI]; omega)) only [*,lenV,G116,Za,Zb,Zc,Zd,Ze,Zf,Zg,Zh,Zi,Zj,Zk,Zl,Zm,Zn,Zo,Ja,Jb,Jc,J6,Jd,Je,J7,J8,Jf,Jg,Jh,Ji,Jj,Jk,J9,Jl,Jm,wr,Jn,JA,JB,Jo,Jp,Jq,Jr,Js,Jt,Ju,Jv,Jw,Jx,Jy,Jz,J0,J1,J2,J3,J4,J5,reduceCtorEq,JC,JD,JE,JF,JG,JH,JI,JJ]) | ((with_reducible (first | apply Ok.br | apply Ok.gd | apply Ok.ld)) <;> (intro g; (try simp only [ZGS] at g); try (exfalso; omega)))))
                      refine Ok.bnd2 (ih (i0 := a) (j0 := mid) hG5 (by omega) (by omega) (by omega) (by omega) hlm hBl) fun y h3 ⟨G6, e6, hy, hG6, hp6, hs6⟩ => ?_
                      cases hy
                      (repeat' (first | (simp -implicitDefEqProofs (maxSteps := 1000000) (disch := first | assumption | omega | (simp only [ZDI]; omega)) only [*,lenV,G116,Za,Zb,Zc,Zd,Ze,Zf,Zg,Zh,Zi,Zj,Zk,Zl,Zm,Zn,Zo,Ja,Jb,Jc,J6,Jd,Je,J7,J8,Jf,Jg,Jh,Ji,Jj,Jk,J9,Jl,Jm,wr,Jn,JA,JB,Jo,Jp,Jq,Jr,Js,Jt,Ju,Jv,Jw,Jx,Jy,Jz,J0,J1,J2,J3,J4,J5,reduceCtorEq,JC,JD,JE,JF,JG,JH,JI,JJ]) | ((with_reducible (first | apply Ok.br | apply Ok.gd | apply Ok.ld)) <;> (intro g; (try simp only [ZGS] at g); try (exfalso; omega)))))
                      have hL := hlft e6 hp6 hs6
                      exact Turn.next (c - (mid + 1)) (by omega) ⟨rfl, mid + 1, c, lm, _, ap, e6, _, rfl, hlm, rfl, rfl, rfl, rfl, rfl, rfl, rfl, hG6, ⟨by omega, hto, by rw [hp6.1, hsz5]; exact hR1.sz, hL.1, fun R hR hs => (hL.2 R hR hs).elim fun q1 q2 => hR1.fin R q1 q2⟩, by omega⟩
                    · have hm' : ¬ (mid : Int) - (a : Int) < (c : Int) - (mid : Int) := by omega
                      (repeat' (first | (simp -implicitDefEqProofs (maxSteps := 1000000) (disch := first | assumption | omega | (simp only [ZDI]; omega)) only [*,lenV,G116,Za,Zb,Zc,Zd,Ze,Zf,Zg,Zh,Zi,Zj,Zk,Zl,Zm,Zn,Zo,Ja,Jb,Jc,J6,Jd,Je,J7,J8,Jf,Jg,Jh,Ji,Jj,Jk,J9,Jl,Jm,wr,Jn,JA,JB,Jo,Jp,Jq,Jr,Js,Jt,Ju,Jv,Jw,Jx,Jy,Jz,J0,J1,J2,J3,J4,J5,reduceCtorEq,JC,JD,JE,JF,JG,JH,JI,JJ]) | ((with_reducible (first | apply Ok.br | apply Ok.gd | apply Ok.ld)) <;> (intro g; (try simp only [ZGS] at g); try (exfalso; omega)))))
                      refine Ok.bnd2 (ih (i0 := mid + 1) (j0 := c) hG5 (by omega) (by omega) (by omega) (by omega) hlm hBr) fun y h3 ⟨G6, e6, hy, hG6, hp6, hs6⟩ => ?_
                      cases hy
                      (repeat' (first | (simp -implicitDefEqProofs (maxSteps := 1000000) (disch := first | assumption | omega | (simp only [ZDI]; omega)) only [*,lenV,G116,Za,Zb,Zc,Zd,Ze,Zf,Zg,Zh,Zi,Zj,Zk,Zl,Zm,Zn,Zo,Ja,Jb,Jc,J6,Jd,Je,J7,J8,Jf,Jg,Jh,Ji,Jj,Jk,J9,Jl,Jm,wr,Jn,JA,JB,Jo,Jp,Jq,Jr,Js,Jt,Ju,Jv,Jw,Jx,Jy,Jz,J0,J1,J2,J3,J4,J5,reduceCtorEq,JC,JD,JE,JF,JG,JH,JI,JJ]) | ((with_reducible (first | apply Ok.br | apply Ok.gd | apply Ok.ld)) <;> (intro g; (try simp only [ZGS] at g); try (exfalso; omega)))))
                      have hL := hrgt e6 hp6 hs6
                      exact Turn.next (mid - a) (by omega) ⟨rfl, a, mid, lm, _, ap, e6, _, rfl, hlm, rfl, rfl, rfl, rfl, rfl, rfl, rfl, hG6, ⟨hmid.1, by omega, by rw [hp6.1, hsz5]; exact hR1.sz, hL.1, fun R hR hs => (hL.2 R hR hs).elim fun q1 q2 => hR1.fin R q1 q2⟩, by omega⟩
                  · (repeat' (first | (simp -implicitDefEqProofs (maxSteps := 1000000) (disch := first | assumption | omega | (simp only [ZDI]; omega)) only [*,lenV,fl_len,fl_at,eq_self,pr_eta,hc.run,G116,Za,Zb,Zc,Zd,Ze,Zf,Zg,Zh,Zi,Zj,Zk,Zl,Zm,Zn,Zo,Ja,Jb,Jc,J6,Jd,Je,J7,J8,Jf,Jg,Jh,Ji,Jj,Jk,J9,Jl,Jm,wr,Jn,JA,JB,Jo,Jp,Jq,Jr,Js,Jt,Ju,Jv,Jw,Jx,Jy,Jz,J0,J1,J2,J3,J4,J5,reduceCtorEq,JC,JD,JE,JF,JG,JH,JI,JJ]) | ((with_reducible (first | apply Ok.br | apply Ok.gd | apply Ok.ld)) <;> (intro g; (try simp only [ZGS] at g); try (exfalso; omega)))))
                    refine Ok.bnd2 (partEq_R hc hS hb hG3 hn4 hl4 hp.1 hp.2 hR1.to ha hR1.bel (by rw [hc.neg]; exact decide_eq_false hcm)) fun y h3 ⟨G5, e5, mid, hy, hG5, hmid, hsz5, hB5, hf5⟩ => ?_
                    cases hy
                    (repeat' (first | (simp -implicitDefEqProofs (maxSteps := 1000000) (disch := first | assumption | omega | (simp only [ZDI]; omega)) only [*,lenV,G116,Za,Zb,Zc,Zd,Ze,Zf,Zg,Zh,Zi,Zj,Zk,Zl,Zm,Zn,Zo,Ja,Jb,Jc,J6,Jd,Je,J7,J8,Jf,Jg,Jh,Ji,Jj,Jk,J9,Jl,Jm,wr,Jn,JA,JB,Jo,Jp,Jq,Jr,Js,Jt,Ju,Jv,Jw,Jx,Jy,Jz,J0,J1,J2,J3,J4,J5,reduceCtorEq,JC,JD,JE,JF,JG,JH,JI,JJ]) | ((with_reducible (first | apply Ok.br | apply Ok.gd | apply Ok.ld)) <;> (intro g; (try simp only [ZGS] at g); try (exfalso; omega)))))
                    exact Turn.next (c - mid) (by omega) ⟨rfl, mid, c, lm, _, false, e5, _, rfl, hlm, rfl, rfl, rfl, rfl, rfl, rfl, rfl, hG5, ⟨hmid.2, hto, by rw [hsz5]; exact hR1.sz, hB5, fun R hR hs => (hf5 R hR hs).elim fun q1 q2 => hR1.fin R q1 q2⟩, by omega⟩
                · have ha' : ¬ 0 < (a : Int) := by omega
                  (repeat' (first | (simp -implicitDefEqProofs (maxSteps := 1000000) (disch := first | assumption | omega | (simp only [ZDI]; omega)) only [*,lenV,fl_len,fl_at,eq_self,pr_eta,hc.run,G116,Za,Zb,Zc,Zd,Ze,Zf,Zg,Zh,Zi,Zj,Zk,Zl,Zm,Zn,Zo,Ja,Jb,Jc,J6,Jd,Je,J7,J8,Jf,Jg,Jh,Ji,Jj,Jk,J9,Jl,Jm,wr,Jn,JA,JB,Jo,Jp,Jq,Jr,Js,Jt,Ju,Jv,Jw,Jx,Jy,Jz,J0,J1,J2,J3,J4,J5,reduceCtorEq,JC,JD,JE,JF,JG,JH,JI,JJ]) | ((with_reducible (first | apply Ok.br | apply Ok.gd | apply Ok.ld)) <;> (intro g; (try simp only [ZGS] at g); try (exfalso; omega)))))
                  refine Ok.bnd2 (part_R hc hS hb hG3 hn4 hl4 hp.1 hp.2 hR1.to hR1.bel) fun y h3 ⟨G5, e5, mid, ap, hy, hG5, hmid, hsz5, hBl, hBr, hlft, hrgt⟩ => ?_
                  cases hy
                  by_cases hm : mid - a < c - mid
                  · have hm' : (mid : Int) - (a : Int) < (c : Int) - (mid : Int) := by omega
                    (repeat' (first | (simp -implicitDefEqProofs (maxSteps := 1000000) (disch := first | assumption | omega | (simp only [ZDI]; omega)) only [*,lenV,G116,Za,Zb,Zc,Zd,Ze,Zf,Zg,Zh,Zi,Zj,Zk,Zl,Zm,Zn,Zo,Ja,Jb,Jc,J6,Jd,Je,J7,J8,Jf,Jg,Jh,Ji,Jj,Jk,J9,Jl,Jm,wr,Jn,JA,JB,Jo,Jp,Jq,Jr,Js,Jt,Ju,Jv,Jw,Jx,Jy,Jz,J0,J1,J2,J3,J4,J5,reduceCtorEq,JC,JD,JE,JF,JG,JH,JI,JJ]) | ((with_reducible (first | apply Ok.br | apply Ok.gd | apply Ok.ld)) <;> (intro g; (try simp only [ZGS] at g); try (exfalso; omega)))))
                    refine Ok.bnd2 (ih (i0 := a) (j0 := mid) hG5 (by omega) (by omega) (by omega) (by omega) hlm hBl) fun y h3 ⟨G6, e6, hy, hG6, hp6, hs6⟩ => ?_
                    cases hy
                    (repeat' (first | (simp -implicitDefEqProofs (maxSteps := 1000000) (disch := first | assumption | omega | (simp only [ZDI]; omega)) only [*,lenV,G116,Za,Zb,Zc,Zd,Ze,Zf,Zg,Zh,Zi,Zj,Zk,Zl,Zm,Zn,Zo,Ja,Jb,Jc,J6,Jd,Je,J7,J8,Jf,Jg,Jh,Ji,Jj,Jk,J9,Jl,Jm,wr,Jn,JA,JB,Jo,Jp,Jq,Jr,Js,Jt,Ju,Jv,Jw,Jx,Jy,Jz,J0,J1,J2,J3,J4,J5,reduceCtorEq,JC,JD,JE,JF,JG,JH,JI,JJ]) | ((with_reducible (first | apply Ok.br | apply Ok.gd | apply Ok.ld)) <;> (intro g; (try simp only [ZGS] at g); try (exfalso; omega)))))
                    have hL := hlft e6 hp6 hs6
                    exact Turn.next (c - (mid + 1)) (by omega) ⟨rfl, mid + 1, c, lm, _, ap, e6, _, rfl, hlm, rfl, rfl, rfl, rfl, rfl, rfl, rfl, hG6, ⟨by omega, hto, by rw [hp6.1, hsz5]; exact hR1.sz, hL.1, fun R hR hs => (hL.2 R hR hs).elim fun q1 q2 => hR1.fin R q1 q2⟩, by omega⟩
                  · have hm' : ¬ (mid : Int) - (a : Int) < (c : Int) - (mid : Int) := by omega
                    (repeat' (first | (simp -implicitDefEqProofs (maxSteps := 1000000) (disch := first | assumption | omega | (simp only [ZDI]; omega)) only [*,lenV,G116,Za,Zb,Zc,Zd,Ze,Zf,Zg,Zh,Zi,Zj,Zk,Zl,Zm,Zn,Zo,Ja,Jb,Jc,J6,Jd,Je,J7,J8,Jf,Jg,Jh,Ji,Jj,Jk,J9,Jl,Jm,wr,Jn,JA,JB,Jo,Jp,Jq,Jr,Js,Jt,Ju,Jv,Jw,Jx,Jy,Jz,J0,J1,J2,J3,J4,J5,reduceCtorEq,JC,JD,JE,JF,JG,JH,JI,JJ]) | ((with_reducible (first | apply Ok.br | apply Ok.gd | apply Ok.ld)) <;> (intro g; (try simp only [ZGS] at g); try (exfalso; omega)))))
                    refine Ok.bnd2 (ih (i0 := mid + 1) (j0 := c) hG5 (by omega) (by omega) (by omega) (by omega) hlm hBr) fun y h3 ⟨G6, e6, hy, hG6, hp6, hs6⟩ => ?_
                    cases hy
                    (repeat' (first | (simp -implicitDefEqProofs (maxSteps := 1000000) (disch := first | assumption | omega | (simp only [ZDI]; omega)) only [*,lenV,G116,Za,Zb,Zc,Zd,Ze,Zf,Zg,Zh,Zi,Zj,Zk,Zl,Zm,Zn,Zo,Ja,Jb,Jc,J6,Jd,Je,J7,J8,Jf,Jg,Jh,Ji,Jj,Jk,J9,Jl,Jm,wr,Jn,JA,JB,Jo,Jp,Jq,Jr,Js,Jt,Ju,Jv,Jw,Jx,Jy,Jz,J0,J1,J2,J3,J4,J5,reduceCtorEq,JC,JD,JE,JF,JG,JH,JI,JJ]) | ((with_reducible (first | apply Ok.br | apply Ok.gd | apply Ok.ld)) <;> (intro g; (try simp only [ZGS] at g); try (exfalso; omega)))))
                    have hL := hrgt e6 hp6 hs6
                    exact Turn.next (mid - a) (by omega) ⟨rfl, a, mid, lm, _, ap, e6, _, rfl, hlm, rfl, rfl, rfl, rfl, rfl, rfl, rfl, hG6, ⟨hmid.1, by omega, by rw [hp6.1, hsz5]; exact hR1.sz, hL.1, fun R hR hs => (hL.2 R hR hs).elim fun q1 q2 => hR1.fin R q1 q2⟩, by omega⟩
              · (repeat' (first | (simp -implicitDefEqProofs (maxSteps := 1000000) (disch := first | assumption | omega | (simp only [ZDI]; omega)) only [*,lenV,G116,Za,Zb,Zc,Zd,Ze,Zf,Zg,Zh,Zi,Zj,Zk,Zl,Zm,Zn,Zo,Ja,Jb,Jc,J6,Jd,Je,J7,J8,Jf,Jg,Jh,Ji,Jj,Jk,J9,Jl,Jm,wr,Jn,JA,JB,Jo,Jp,Jq,Jr,Js,Jt,Ju,Jv,Jw,Jx,Jy,Jz,J0,J1,J2,J3,J4,J5,reduceCtorEq,JC,JD,JE,JF,JG,JH,JI,JJ]) | ((with_reducible (first | apply Ok.br | apply Ok.gd | apply Ok.ld)) <;> (intro g; (try simp only [ZGS] at g); try (exfalso; omega)))))
                refine Ok.bnd2 (reverse_R hb hG3 (by rw [hR1.sz]; exact hn) (by rw [hR1.sz]; exact hl) (by omega) hR1.to) fun y h3 ⟨G4, e4, hy, hG4, hp4⟩ => ?_
                cases hy
                have hR4 := hR1.perm hn hp4
                obtain ⟨pv, hpv'⟩ : ∃ pv : Nat, (c : Int) - 1 - ((p : Int) - (a : Int)) = (pv : Int) := ⟨c - 1 - (p - a), by omega⟩
                have hpv : a <= pv /\ pv < c := by omega
                clear hp4 hG3 hR1
                have hcl := hG4.cells hb
                have hto := hR4.to
                have hn4 : n <= e4.size := by rw [hR4.sz]; exact hn
                have hl4 : e4.size <= 1000000000 := by rw [hR4.sz]; exact hl
                have hx1 : 0 <= (pv : Int) /\ (pv : Int) < (n : Int) := by have := hR4.to; omega
                have hx2 : pv < e4.size := by omega
                by_cases ha : 0 < a
                · have ha' : 0 < (a : Int) := by omega
                  have e5 : (a : Int) - 1 = ((a - 1 : Nat) : Int) := by omega
                  have hx3 : 0 <= ((a - 1 : Nat) : Int) /\ ((a - 1 : Nat) : Int) < (n : Int) := by have := hR4.to; omega
                  have hx4 : a - 1 < e4.size := by omega
                  by_cases hcm : hc.c e4[a - 1]! e4[pv]! < 0
                  · (repeat' (first | (simp -implicitDefEqProofs (maxSteps := 1000000) (disch := first | assumption | omega | (simp only [ZDI]; omega)) only [*,lenV,fl_len,fl_at,eq_self,pr_eta,hc.run,G116,Za,Zb,Zc,Zd,Ze,Zf,Zg,Zh,Zi,Zj,Zk,Zl,Zm,Zn,Zo,Ja,Jb,Jc,J6,Jd,Je,J7,J8,Jf,Jg,Jh,Ji,Jj,Jk,J9,Jl,Jm,wr,Jn,JA,JB,Jo,Jp,Jq,Jr,Js,Jt,Ju,Jv,Jw,Jx,Jy,Jz,J0,J1,J2,J3,J4,J5,reduceCtorEq,JC,JD,JE,JF,JG,JH,JI,JJ]) | ((with_reducible (first | apply Ok.br | apply Ok.gd | apply Ok.ld)) <;> (intro g; (try simp only [ZGS] at g); try (exfalso; omega)))))
                    refine Ok.bnd2 (part_R hc hS hb hG4 hn4 hl4 hpv.1 hpv.2 hR4.to hR4.bel) fun y h3 ⟨G5, e5, mid, ap, hy, hG5, hmid, hsz5, hBl, hBr, hlft, hrgt⟩ => ?_
                    cases hy
                    by_cases hm : mid - a < c - mid
                    · have hm' : (mid : Int) - (a : Int) < (c : Int) - (mid : Int) := by omega
                      (repeat' (first | (simp -implicitDefEqProofs (maxSteps := 1000000) (disch := first | assumption | omega | (simp only [ZDI]; omega)) only [*,lenV,G116,Za,Zb,Zc,Zd,Ze,Zf,Zg,Zh,Zi,Zj,Zk,Zl,Zm,Zn,Zo,Ja,Jb,Jc,J6,Jd,Je,J7,J8,Jf,Jg,Jh,Ji,Jj,Jk,J9,Jl,Jm,wr,Jn,JA,JB,Jo,Jp,Jq,Jr,Js,Jt,Ju,Jv,Jw,Jx,Jy,Jz,J0,J1,J2,J3,J4,J5,reduceCtorEq,JC,JD,JE,JF,JG,JH,JI,JJ]) | ((with_reducible (first | apply Ok.br | apply Ok.gd | apply Ok.ld)) <;> (intro g; (try simp only [ZGS] at g); try (exfalso; omega)))))
                      refine Ok.bnd2 (ih (i0 := a) (j0 := mid) hG5 (by omega) (by omega) (by omega) (by omega) hlm hBl) fun y h3 ⟨G6, e6, hy, hG6, hp6, hs6⟩ => ?_
                      cases hy
                      (repeat' (first | (simp -implicitDefEqProofs (maxSteps := 1000000) (disch := first | assumption | omega | (simp only [ZDI]; omega)) only [*,lenV,G116,Za,Zb,Zc,Zd,Ze,Zf,Zg,Zh,Zi,Zj,Zk,Zl,Zm,Zn,Zo,Ja,Jb,Jc,J6,Jd,Je,J7,J8,Jf,Jg,Jh,Ji,Jj,Jk,J9,Jl,Jm,wr,Jn,JA,JB,Jo,Jp,Jq,Jr,Js,Jt,Ju,Jv,Jw,Jx,Jy,Jz,J0,J1,J2,J3,J4,J5,reduceCtorEq,JC,JD,JE,JF,JG,JH,JI,JJ]) | ((with_reducible (first | apply Ok.br | apply Ok.gd | apply Ok.ld)) <;> (intro g; (try simp only [ZGS] at g); try (exfalso; omega)))))
                      have hL := hlft e6 hp6 hs6
                      exact Turn.next (c - (mid + 1)) (by omega) ⟨rfl, mid + 1, c, lm, _, ap, e6, _, rfl, hlm, rfl, rfl, rfl, rfl, rfl, rfl, rfl, hG6, ⟨by omega, hto, by rw [hp6.1, hsz5]; exact hR4.sz, hL.1, fun R hR hs => (hL.2 R hR hs).elim fun q1 q2 => hR4.fin R q1 q2⟩, by omega⟩
                    · have hm' : ¬ (mid : Int) - (a : Int) < (c : Int) - (mid : Int) := by omega
                      (repeat' (first | (simp -implicitDefEqProofs (maxSteps := 1000000) (disch := first | assumption | omega | (simp only [ZDI]; omega)) only [*,lenV,G116,Za,Zb,Zc,Zd,Ze,Zf,Zg,Zh,Zi,Zj,Zk,Zl,Zm,Zn,Zo,Ja,Jb,Jc,J6,Jd,Je,J7,J8,Jf,Jg,Jh,Ji,Jj,Jk,J9,Jl,Jm,wr,Jn,JA,JB,Jo,Jp,Jq,Jr,Js,Jt,Ju,Jv,Jw,Jx,Jy,Jz,J0,J1,J2,J3,J4,J5,reduceCtorEq,JC,JD,JE,JF,JG,JH,JI,JJ]) | ((with_reducible (first | apply Ok.br | apply Ok.gd | apply Ok.ld)) <;> (intro g; (try simp only [ZGS] at g); try (exfalso; omega)))))
                      refine Ok.bnd2 (ih (i0 := mid + 1) (j0 := c) hG5 (by omega) (by omega) (by omega) (by omega) hlm hBr) fun y h3 ⟨G6, e6, hy, hG6, hp6, hs6⟩ => ?_
                      cases hy
                      (repeat' (first | (simp -implicitDefEqProofs (maxSteps := 1000000) (disch := first | assumption | omega | (simp only [ZDI]; omega)) only [*,lenV,G116,Za,Zb,Zc,Zd,Ze,Zf,Zg,Zh,Zi,Zj,Zk,Zl,Zm,Zn,Zo,Ja,Jb,Jc,J6,Jd,Je,J7,J8,Jf,Jg,Jh,Ji,Jj,Jk,J9,Jl,Jm,wr,Jn,JA,JB,Jo,Jp,Jq,Jr,Js,Jt,Ju,Jv,Jw,Jx,Jy,Jz,J0,J1,J2,J3,J4,J5,reduceCtorEq,JC,JD,JE,JF,JG,JH,JI,JJ]) | ((with_reducible (first | apply Ok.br | apply Ok.gd | apply Ok.ld)) <;> (intro g; (try simp only [ZGS] at g); try (exfalso; omega)))))
                      have hL := hrgt e6 hp6 hs6
                      exact Turn.next (mid - a) (by omega) ⟨rfl, a, mid, lm, _, ap, e6, _, rfl, hlm, rfl, rfl, rfl, rfl, rfl, rfl, rfl, hG6, ⟨hmid.1, by omega, by rw [hp6.1, hsz5]; exact hR4.sz, hL.1, fun R hR hs => (hL.2 R hR hs).elim fun q1 q2 => hR4.fin R q1 q2⟩, by omega⟩
                  · (repeat' (first | (simp -implicitDefEqProofs (maxSteps := 1000000) (disch := first | assumption | omega | (simp only [ZDI]; omega)) only [*,lenV,fl_len,fl_at,eq_self,pr_eta,hc.run,G116,Za,Zb,Zc,Zd,Ze,Zf,Zg,Zh,Zi,Zj,Zk,Zl,Zm,Zn,Zo,Ja,Jb,Jc,J6,Jd,Je,J7,J8,Jf,Jg,Jh,Ji,Jj,Jk,J9,Jl,Jm,wr,Jn,JA,JB,Jo,Jp,Jq,Jr,Js,Jt,Ju,Jv,Jw,Jx,Jy,Jz,J0,J1,J2,J3,J4,J5,reduceCtorEq,JC,JD,JE,JF,JG,JH,JI,JJ]) | ((with_reducible (first | apply Ok.br | apply Ok.gd | apply Ok.ld)) <;> (intro g; (try simp only [ZGS] at g); try (exfalso; omega)))))
                    refine Ok.bnd2 (partEq_R hc hS hb hG4 hn4 hl4 hpv.1 hpv.2 hR4.to ha hR4.bel (by rw [hc.neg]; exact decide_eq_false hcm)) fun y h3 ⟨G5, e5, mid, hy, hG5, hmid, hsz5, hB5, hf5⟩ => ?_
                    cases hy
                    (repeat' (first | (simp -implicitDefEqProofs (maxSteps := 1000000) (disch := first | assumption | omega | (simp only [ZDI]; omega)) only [*,lenV,G116,Za,Zb,Zc,Zd,Ze,Zf,Zg,Zh,Zi,Zj,Zk,Zl,Zm,Zn,Zo,Ja,Jb,Jc,J6,Jd,Je,J7,J8,Jf,Jg,Jh,Ji,Jj,Jk,J9,Jl,Jm,wr,Jn,JA,JB,Jo,Jp,Jq,Jr,Js,Jt,Ju,Jv,Jw,Jx,Jy,Jz,J0,J1,J2,J3,J4,J5,reduceCtorEq,JC,JD,JE,JF,JG,JH,JI,JJ]) | ((with_reducible (first | apply Ok.br | apply Ok.gd | apply Ok.ld)) <;> (intro g; (try simp only [ZGS] at g); try (exfalso; omega)))))
                    exact Turn.next (c - mid) (by omega) ⟨rfl, mid, c, lm, _, false, e5, _, rfl, hlm, rfl, rfl, rfl, rfl, rfl, rfl, rfl, hG5, ⟨hmid.2, hto, by rw [hsz5]; exact hR4.sz, hB5, fun R hR hs => (hf5 R hR hs).elim fun q1 q2 => hR4.fin R q1 q2⟩, by omega⟩
                · have ha' : ¬ 0 < (a : Int) := by omega
                  (repeat' (first | (simp -implicitDefEqProofs (maxSteps := 1000000) (disch := first | assumption | omega | (simp only [ZDI]; omega)) only [*,lenV,fl_len,fl_at,eq_self,pr_eta,hc.run,G116,Za,Zb,Zc,Zd,Ze,Zf,Zg,Zh,Zi,Zj,Zk,Zl,Zm,Zn,Zo,Ja,Jb,Jc,J6,Jd,Je,J7,J8,Jf,Jg,Jh,Ji,Jj,Jk,J9,Jl,Jm,wr,Jn,JA,JB,Jo,Jp,Jq,Jr,Js,Jt,Ju,Jv,Jw,Jx,Jy,Jz,J0,J1,J2,J3,J4,J5,reduceCtorEq,JC,JD,JE,JF,JG,JH,JI,JJ]) | ((with_reducible (first | apply Ok.br | apply Ok.gd | apply Ok.ld)) <;> (intro g; (try simp only [ZGS] at g); try (exfalso; omega)))))
                  refine Ok.bnd2 (part_R hc hS hb hG4 hn4 hl4 hpv.1 hpv.2 hR4.to hR4.bel) fun y h3 ⟨G5, e5, mid, ap, hy, hG5, hmid, hsz5, hBl, hBr, hlft, hrgt⟩ => ?_
                  cases hy
                  by_cases hm : mid - a < c - mid
                  · have hm' : (mid : Int) - (a : Int) < (c : Int) - (mid : Int) := by omega
                    (repeat' (first | (simp -implicitDefEqProofs (maxSteps := 1000000) (disch := first | assumption | omega | (simp only [ZDI]; omega)) only [*,lenV,G116,Za,Zb,Zc,Zd,Ze,Zf,Zg,Zh,Zi,Zj,Zk,Zl,Zm,Zn,Zo,Ja,Jb,Jc,J6,Jd,Je,J7,J8,Jf,Jg,Jh,Ji,Jj,Jk,J9,Jl,Jm,wr,Jn,JA,JB,Jo,Jp,Jq,Jr,Js,Jt,Ju,Jv,Jw,Jx,Jy,Jz,J0,J1,J2,J3,J4,J5,reduceCtorEq,JC,JD,JE,JF,JG,JH,JI,JJ]) | ((with_reducible (first | apply Ok.br | apply Ok.gd | apply Ok.ld)) <;> (intro g; (try simp only [ZGS] at g); try (exfalso; omega)))))
                    refine Ok.bnd2 (ih (i0 := a) (j0 := mid) hG5 (by omega) (by omega) (by omega) (by omega) hlm hBl) fun y h3 ⟨G6, e6, hy, hG6, hp6, hs6⟩ => ?_
                    cases hy
                    (repeat' (first | (simp -implicitDefEqProofs (maxSteps := 1000000) (disch := first | assumption | omega | (simp only [ZDI]; omega)) only [*,lenV,G116,Za,Zb,Zc,Zd,Ze,Zf,Zg,Zh,Zi,Zj,Zk,Zl,Zm,Zn,Zo,Ja,Jb,Jc,J6,Jd,Je,J7,J8,Jf,Jg,Jh,Ji,Jj,Jk,J9,Jl,Jm,wr,Jn,JA,JB,Jo,Jp,Jq,Jr,Js,Jt,Ju,Jv,Jw,Jx,Jy,Jz,J0,J1,J2,J3,J4,J5,reduceCtorEq,JC,JD,JE,JF,JG,JH,JI,JJ]) | ((with_reducible (first | apply Ok.br | apply Ok.gd | apply Ok.ld)) <;> (intro g; (try simp only [ZGS] at g); try (exfalso; omega)))))
                    have hL := hlft e6 hp6 hs6
                    exact Turn.next (c - (mid + 1)) (by omega) ⟨rfl, mid + 1, c, lm, _, ap, e6, _, rfl, hlm, rfl, rfl, rfl, rfl, rfl, rfl, rfl, hG6, ⟨by omega, hto, by rw [hp6.1, hsz5]; exact hR4.sz, hL.1, fun R hR hs => (hL.2 R hR hs).elim fun q1 q2 => hR4.fin R q1 q2⟩, by omega⟩
                  · have hm' : ¬ (mid : Int) - (a : Int) < (c : Int) - (mid : Int) := by omega
                    (repeat' (first | (simp -implicitDefEqProofs (maxSteps := 1000000) (disch := first | assumption | omega | (simp only [ZDI]; omega)) only [*,lenV,G116,Za,Zb,Zc,Zd,Ze,Zf,Zg,Zh,Zi,Zj,Zk,Zl,Zm,Zn,Zo,Ja,Jb,Jc,J6,Jd,Je,J7,J8,Jf,Jg,Jh,Ji,Jj,Jk,J9,Jl,Jm,wr,Jn,JA,JB,Jo,Jp,Jq,Jr,Js,Jt,Ju,Jv,Jw,Jx,Jy,Jz,J0,J1,J2,J3,J4,J5,reduceCtorEq,JC,JD,JE,JF,JG,JH,JI,JJ]) | ((with_reducible (first | apply Ok.br | apply Ok.gd | apply Ok.ld)) <;> (intro g; (try simp only [ZGS] at g); try (exfalso; omega)))))
                    refine Ok.bnd2 (ih (i0 := mid + 1) (j0 := c) hG5 (by omega) (by omega) (by omega) (by omega) hlm hBr) fun y h3 ⟨G6, e6, hy, hG6, hp6, hs6⟩ => ?_
                    cases hy
                    (repeat' (first | (simp -implicitDefEqProofs (maxSteps := 1000000) (disch := first | assumption | omega | (simp only [ZDI]; omega)) only [*,lenV,G116,Za,Zb,Zc,Zd,Ze,Zf,Zg,Zh,Zi,Zj,Zk,Zl,Zm,Zn,Zo,Ja,Jb,Jc,J6,Jd,Je,J7,J8,Jf,Jg,Jh,Ji,Jj,Jk,J9,Jl,Jm,wr,Jn,JA,JB,Jo,Jp,Jq,Jr,Js,Jt,Ju,Jv,Jw,Jx,Jy,Jz,J0,J1,J2,J3,J4,J5,reduceCtorEq,JC,JD,JE,JF,JG,JH,JI,JJ]) | ((with_reducible (first | apply Ok.br | apply Ok.gd | apply Ok.ld)) <;> (intro g; (try simp only [ZGS] at g); try (exfalso; omega)))))
                    have hL := hrgt e6 hp6 hs6
                    exact Turn.next (mid - a) (by omega) ⟨rfl, a, mid, lm, _, ap, e6, _, rfl, hlm, rfl, rfl, rfl, rfl, rfl, rfl, rfl, hG6, ⟨hmid.1, by omega, by rw [hp6.1, hsz5]; exact hR4.sz, hL.1, fun R hR hs => (hL.2 R hR hs).elim fun q1 q2 => hR4.fin R q1 q2⟩, by omega⟩
            | true =>
              (repeat' (first | (simp -implicitDefEqProofs (maxSteps := 1000000) (disch := first | assumption | omega | (simp only [ZDI]; omega)) only [*,lenV,G116,Za,Zb,Zc,Zd,Ze,Zf,Zg,Zh,Zi,Zj,Zk,Zl,Zm,Zn,Zo,Ja,Jb,Jc,J6,Jd,Je,J7,J8,Jf,Jg,Jh,Ji,Jj,Jk,J9,Jl,Jm,wr,Jn,JA,JB,Jo,Jp,Jq,Jr,Js,Jt,Ju,Jv,Jw,Jx,Jy,Jz,J0,J1,J2,J3,J4,J5,reduceCtorEq,JC,JD,JE,JF,JG,JH,JI,JJ]) | ((with_reducible (first | apply Ok.br | apply Ok.gd | apply Ok.ld)) <;> (intro g; (try simp only [ZGS] at g); try (exfalso; omega)))))
              obtain ⟨lm, hlm'⟩ : ∃ lm, lm = lm0 + 1 := ⟨lm0 + 1, rfl⟩
              have hlm : lm <= 1000 := by omega
              rw [<- hlm'] at hz ⊢
              clear hz2 hlm'
              refine Ok.bnd2 (pivot_R hc hb hG1 (by rw [hR1.sz]; exact hn) (by rw [hR1.sz]; exact hl) (by omega) hR1.to) fun y h3 ⟨G3, p, hh, hy, hG3, hp, hcase⟩ => ?_
              cases hy
              rcases hcase with rfl | rfl | rfl
              · have hcl := hG3.cells hb
                have hto := hR1.to
                have hn4 : n <= e.size := by rw [hR1.sz]; exact hn
                have hl4 : e.size <= 1000000000 := by rw [hR1.sz]; exact hl
                have hx1 : 0 <= (p : Int) /\ (p : Int) < (n : Int) := by have := hR1.to; omega
                have hx2 : p < e.size := by omega
                by_cases ha : 0 < a
                · have ha' : 0 < (a : Int) := by omega
                  have e5 : (a : Int) - 1 = ((a - 1 : Nat) : Int) := by omega
                  have hx3 : 0 <= ((a - 1 : Nat) : Int) /\ ((a - 1 : Nat) : Int) < (n : Int) := by have := hR1.to; omega
                  have hx4 : a - 1 < e.size := by omega
                  by_cases hcm : hc.c e[a - 1]! e[p]! < 0
                  · (repeat' (first | (simp -implicitDefEqProofs (maxSteps := 1000000) (disch := first | assumption | omega | (simp only [ZDI]; omega)) only [*,lenV,fl_len,fl_at,eq_self,pr_eta,hc.run,G116,Za,Zb,Zc,Zd,Ze,Zf,Zg,Zh,Zi,Zj,Zk,Zl,Zm,Zn,Zo,Ja,Jb,Jc,J6,Jd,Je,J7,J8,Jf,Jg,Jh,Ji,Jj,Jk,J9,Jl,Jm,wr,Jn,JA,JB,Jo,Jp,Jq,Jr,Js,Jt,Ju,Jv,Jw,Jx,Jy,Jz,J0,J1,J2,J3,J4,J5,reduceCtorEq,JC,JD,JE,JF,JG,JH,JI,JJ]) | ((with_reducible (first | apply Ok.br | apply Ok.gd | apply Ok.ld)) <;> (intro g; (try simp only [ZGS] at g); try (exfalso; omega)))))
                    refine Ok.bnd2 (part_R hc hS hb hG3 hn4 hl4 hp.1 hp.2 hR1.to hR1.bel) fun y h3 ⟨G5, e5, mid, ap, hy, hG5, hmid, hsz5, hBl, hBr, hlft, hrgt⟩ => ?_
                    cases hy
                    by_cases hm : mid - a < c - mid
                    · have hm' : (mid : Int) - (a : Int) < (c : Int) - (mid : Int) := by omega
                      (repeat' (first | (simp -implicitDefEqProofs (maxSteps := 1000000) (disch := first | assumption | omega | (simp only [ZDI]; omega)) only [*,lenV,G116,Za,Zb,Zc,Zd,Ze,Zf,Zg,Zh,Zi,Zj,Zk,Zl,Zm,Zn,Zo,Ja,Jb,Jc,J6,Jd,Je,J7,J8,Jf,Jg,Jh,Ji,Jj,Jk,J9,Jl,Jm,wr,Jn,JA,JB,Jo,Jp,Jq,Jr,Js,Jt,Ju,Jv,Jw,Jx,Jy,Jz,J0,J1,J2,J3,J4,J5,reduceCtorEq,JC,JD,JE,JF,JG,JH,JI,JJ]) | ((with_reducible (first | apply Ok.br | apply Ok.gd | apply Ok.ld)) <;> (intro g; (try simp only [ZGS] at g); try (exfalso; omega)))))
                      refine Ok.bnd2 (ih (i0 := a) (j0 := mid) hG5 (by omega) (by omega) (by omega) (by omega) hlm hBl) fun y h3 ⟨G6, e6, hy, hG6, hp6, hs6⟩ => ?_
                      cases hy
                      (repeat' (first | (simp -implicitDefEqProofs (maxSteps := 1000000) (disch := first | assumption | omega | (simp only [ZDI]; omega)) only [*,lenV,G116,Za,Zb,Zc,Zd,Ze,Zf,Zg,Zh,Zi,Zj,Zk,Zl,Zm,Zn,Zo,Ja,Jb,Jc,J6,Jd,Je,J7,J8,Jf,Jg,Jh,Ji,Jj,Jk,J9,Jl,Jm,wr,Jn,JA,JB,Jo,Jp,Jq,Jr,Js,Jt,Ju,Jv,Jw,Jx,Jy,Jz,J0,J1,J2,J3,J4,J5,reduceCtorEq,JC,JD,JE,JF,JG,JH,JI,JJ]) | ((with_reducible (first | apply Ok.br | apply Ok.gd | apply Ok.ld)) <;> (intro g; (try simp only [ZGS] at g); try (exfalso; omega)))))
                      have hL := hlft e6 hp6 hs6
                      exact Turn.next (c - (mid + 1)) (by omega) ⟨rfl, mid + 1, c, lm, _, ap, e6, _, rfl, hlm, rfl, rfl, rfl, rfl, rfl, rfl, rfl, hG6, ⟨by omega, hto, by rw [hp6.1, hsz5]; exact hR1.sz, hL.1, fun R hR hs => (hL.2 R hR hs).elim fun q1 q2 => hR1.fin R q1 q2⟩, by omega⟩
                    · have hm' : ¬ (mid : Int) - (a : Int) < (c : Int) - (mid : Int) := by omega
                      (repeat' (first | (simp -implicitDefEqProofs (maxSteps := 1000000) (disch := first | assumption | omega | (simp only [ZDI]; omega)) only [*,lenV,G116,Za,Zb,Zc,Zd,Ze,Zf,Zg,Zh,Zi,Zj,Zk,Zl,Zm,Zn,Zo,Ja,Jb,Jc,J6,Jd,Je,J7,J8,Jf,Jg,Jh,Ji,Jj,Jk,J9,Jl,Jm,wr,Jn,JA,JB,Jo,Jp,Jq,Jr,Js,Jt,Ju,Jv,Jw,Jx,Jy,Jz,J0,J1,J2,J3,J4,J5,reduceCtorEq,JC,JD,JE,JF,JG,JH,JI,JJ]) | ((with_reducible (first | apply Ok.br | apply Ok.gd | apply Ok.ld)) <;> (intro g; (try simp only [ZGS] at g); try (exfalso; omega)))))
                      refine Ok.bnd2 (ih (i0 := mid + 1) (j0 := c) hG5 (by omega) (by omega) (by omega) (by omega) hlm hBr) fun y h3 ⟨G6, e6, hy, hG6, hp6, hs6⟩ => ?_
                      cases hy
                      (repeat' (first | (simp -implicitDefEqProofs (maxSteps := 1000000) (disch := first | assumption | omega | (simp only [ZDI]; omega)) only [*,lenV,G116,Za,Zb,Zc,Zd,Ze,Zf,Zg,Zh,Zi,Zj,Zk,Zl,Zm,Zn,Zo,Ja,Jb,Jc,J6,Jd,Je,J7,J8,Jf,Jg,Jh,Ji,Jj,Jk,J9,Jl,Jm,wr,Jn,JA,JB,Jo,Jp,Jq,Jr,Js,Jt,Ju,Jv,Jw,Jx,Jy,Jz,J0,J1,J2,J3,J4,J5,reduceCtorEq,JC,JD,JE,JF,JG,JH,JI,JJ]) | ((with_reducible (first | apply Ok.br | apply Ok.gd | apply Ok.ld)) <;> (intro g; (try simp only [ZGS] at g); try (exfalso; omega)))))
                      have hL := hrgt e6 hp6 hs6
                      exact Turn.next (mid - a) (by omega) ⟨rfl, a, mid, lm, _, ap, e6, _, rfl, hlm, rfl, rfl, rfl, rfl, rfl, rfl, rfl, hG6, ⟨hmid.1, by omega, by rw [hp6.1, hsz5]; exact hR1.sz, hL.1, fun R hR hs => (hL.2 R hR hs).elim fun q1 q2 => hR1.fin R q1 q2⟩, by omega⟩
                  · (repeat' (first | (simp -implicitDefEqProofs (maxSteps := 1000000) (disch := first | assumption | omega | (simp only [ZDI]; omega)) only [*,lenV,fl_len,fl_at,eq_self,pr_eta,hc.run,G116,Za,Zb,Zc,Zd,Ze,Zf,Zg,Zh,Zi,Zj,Zk,Zl,Zm,Zn,Zo,Ja,Jb,Jc,J6,Jd,Je,J7,J8,Jf,Jg,Jh,Ji,Jj,Jk,J9,Jl,Jm,wr,Jn,JA,JB,Jo,Jp,Jq,Jr,Js,Jt,Ju,Jv,Jw,Jx,Jy,Jz,J0,J1,J2,J3,J4,J5,reduceCtorEq,JC,JD,JE,JF,JG,JH,JI,JJ]) | ((with_reducible (first | apply Ok.br | apply Ok.gd | apply Ok.ld)) <;> (intro g; (try simp only [ZGS] at g); try (exfalso; omega)))))
                    refine Ok.bnd2 (partEq_R hc hS hb hG3 hn4 hl4 hp.1 hp.2 hR1.to ha hR1.bel (by rw [hc.neg]; exact decide_eq_false hcm)) fun y h3 ⟨G5, e5, mid, hy, hG5, hmid, hsz5, hB5, hf5⟩ => ?_
                    cases hy
                    (repeat' (first | (simp -implicitDefEqProofs (maxSteps := 1000000) (disch := first | assumption | omega | (simp only [ZDI]; omega)) only [*,lenV,G116,Za,Zb,Zc,Zd,Ze,Zf,Zg,Zh,Zi,Zj,Zk,Zl,Zm,Zn,Zo,Ja,Jb,Jc,J6,Jd,Je,J7,J8,Jf,Jg,Jh,Ji,Jj,Jk,J9,Jl,Jm,wr,Jn,JA,JB,Jo,Jp,Jq,Jr,Js,Jt,Ju,Jv,Jw,Jx,Jy,Jz,J0,J1,J2,J3,J4,J5,reduceCtorEq,JC,JD,JE,JF,JG,JH,JI,JJ]) | ((with_reducible (first | apply Ok.br | apply Ok.gd | apply Ok.ld)) <;> (intro g; (try simp only [ZGS] at g); try (exfalso; omega)))))
                    exact Turn.next (c - mid) (by omega) ⟨rfl, mid, c, lm, _, true, e5, _, rfl, hlm, rfl, rfl, rfl, rfl, rfl, rfl, rfl, hG5, ⟨hmid.2, hto, by rw [hsz5]; exact hR1.sz, hB5, fun R hR hs => (hf5 R hR hs).elim fun q1 q2 => hR1.fin R q1 q2⟩, by omega⟩
                · have ha' : ¬ 0 < (a : Int) := by omega
                  (repeat' (first | (simp -implicitDefEqProofs (maxSteps := 1000000) (disch := first | assumption | omega | (simp only [ZDI]; omega)) only [*,lenV,fl_len,fl_at,eq_self,pr_eta,hc.run,G116,Za,Zb,Zc,Zd,Ze,Zf,Zg,Zh,Zi,Zj,Zk,Zl,Zm,Zn,Zo,Ja,Jb,Jc,J6,Jd,Je,J7,J8,Jf,Jg,Jh,Ji,Jj,Jk,J9,Jl,Jm,wr,Jn,JA,JB,Jo,Jp,Jq,Jr,Js,Jt,Ju,Jv,Jw,Jx,Jy,Jz,J0,J1,J2,J3,J4,J5,reduceCtorEq,JC,JD,JE,JF,JG,JH,JI,JJ]) | ((with_reducible (first | apply Ok.br | apply Ok.gd | apply Ok.ld)) <;> (intro g; (try simp only [ZGS] at g); try (exfalso; omega)))))
                  refine Ok.bnd2 (part_R hc hS hb hG3 hn4 hl4 hp.1 hp.2 hR1.to hR1.bel) fun y h3 ⟨G5, e5, mid, ap, hy, hG5, hmid, hsz5, hBl, hBr, hlft, hrgt⟩ => ?_
                  cases hy
                  by_cases hm : mid - a < c - mid
                  · have hm' : (mid : Int) - (a : Int) < (c : Int) - (mid : Int) := by omega
                    (repeat' (first | (simp -implicitDefEqProofs (maxSteps := 1000000) (disch := first | assumption | omega | (simp only [ZDI]; omega)) only [*,lenV,G116,Za,Zb,Zc,Zd,Ze,Zf,Zg,Zh,Zi,Zj,Zk,Zl,Zm,Zn,Zo,Ja,Jb,Jc,J6,Jd,Je,J7,J8,Jf,Jg,Jh,Ji,Jj,Jk,J9,Jl,Jm,wr,Jn,JA,JB,Jo,Jp,Jq,Jr,Js,Jt,Ju,Jv,Jw,Jx,Jy,Jz,J0,J1,J2,J3,J4,J5,reduceCtorEq,JC,JD,JE,JF,JG,JH,JI,JJ]) | ((with_reducible (first | apply Ok.br | apply Ok.gd | apply Ok.ld)) <;> (intro g; (try simp only [ZGS] at g); try (exfalso; omega)))))
                    refine Ok.bnd2 (ih (i0 := a) (j0 := mid) hG5 (by omega) (by omega) (by omega) (by omega) hlm hBl) fun y h3 ⟨G6, e6, hy, hG6, hp6, hs6⟩ => ?_
                    cases hy
                    (repeat' (first | (simp -implicitDefEqProofs (maxSteps := 1000000) (disch := first | assumption | omega | (simp only [ZDI]; omega)) only [*,lenV,G116,Za,Zb,Zc,Zd,Ze,Zf,Zg,Zh,Zi,Zj,Zk,Zl,Zm,Zn,Zo,Ja,Jb,Jc,J6,Jd,Je,J7,J8,Jf,Jg,Jh,Ji,Jj,Jk,J9,Jl,Jm,wr,Jn,JA,JB,Jo,Jp,Jq,Jr,Js,Jt,Ju,Jv,Jw,Jx,Jy,Jz,J0,J1,J2,J3,J4,J5,reduceCtorEq,JC,JD,JE,JF,JG,JH,JI,JJ]) | ((with_reducible (first | apply Ok.br | apply Ok.gd | apply Ok.ld)) <;> (intro g; (try simp only [ZGS] at g); try (exfalso; omega)))))
                    have hL := hlft e6 hp6 hs6
                    exact Turn.next (c - (mid + 1)) (by omega) ⟨rfl, mid + 1, c, lm, _, ap, e6, _, rfl, hlm, rfl, rfl, rfl, rfl, rfl, rfl, rfl, hG6, ⟨by omega, hto, by rw [hp6.1, hsz5]; exact hR1.sz, hL.1, fun R hR hs => (hL.2 R hR hs).elim fun q1 q2 => hR1.fin R q1 q2⟩, by omega⟩
                  · have hm' : ¬ (mid : Int) - (a : Int) < (c : Int) - (mid : Int) := by omega
                    (repeat' (first | (simp -implicitDefEqProofs (maxSteps := 1000000) (disch := first | assumption | omega | (simp only [ZDI]; omega)) only [*,lenV,G116,Za,Zb,Zc,Zd,Ze,Zf,Zg,Zh,Zi,Zj,Zk,Zl,Zm,Zn,Zo,Ja,Jb,Jc,J6,Jd,Je,J7,J8,Jf,Jg,Jh,Ji,Jj,Jk,J9,Jl,Jm,wr,Jn,JA,JB,Jo,Jp,Jq,Jr,Js,Jt,Ju,Jv,Jw,Jx,Jy,Jz,J0,J1,J2,J3,J4,J5,reduceCtorEq,JC,JD,JE,JF,JG,JH,JI,JJ]) | ((with_reducible (first | apply Ok.br | apply Ok.gd | apply Ok.ld)) <;> (intro g; (try simp only [ZGS] at g); try (exfalso; omega)))))
                    refine Ok.bnd2 (ih (i0 := mid + 1) (j0 := c) hG5 (by omega) (by omega) (by omega) (by omega) hlm hBr) fun y h3 ⟨G6, e6, hy, hG6, hp6, hs6⟩ => ?_
                    cases hy
                    (repeat' (first | (simp -implicitDefEqProofs (maxSteps := 1000000) (disch := first | assumption | omega | (simp only [ZDI]; omega)) only [*,lenV,G116,Za,Zb,Zc,Zd,Ze,Zf,Zg,Zh,Zi,Zj,Zk,Zl,Zm,Zn,Zo,Ja,Jb,Jc,J6,Jd,Je,J7,J8,Jf,Jg,Jh,Ji,Jj,Jk,J9,Jl,Jm,wr,Jn,JA,JB,Jo,Jp,Jq,Jr,Js,Jt,Ju,Jv,Jw,Jx,Jy,Jz,J0,J1,J2,J3,J4,J5,reduceCtorEq,JC,JD,JE,JF,JG,JH,JI,JJ]) | ((with_reducible (first | apply Ok.br | apply Ok.gd | apply Ok.ld)) <;> (intro g; (try simp only [ZGS] at g); try (exfalso; omega)))))
                    have hL := hrgt e6 hp6 hs6
                    exact Turn.next (mid - a) (by omega) ⟨rfl, a, mid, lm, _, ap, e6, _, rfl, hlm, rfl, rfl, rfl, rfl, rfl, rfl, rfl, hG6, ⟨hmid.1, by omega, by rw [hp6.1, hsz5]; exact hR1.sz, hL.1, fun R hR hs => (hL.2 R hR hs).elim fun q1 q2 => hR1.fin R q1 q2⟩, by omega⟩
              · (repeat' (first | (simp -implicitDefEqProofs (maxSteps := 1000000) (disch := first | assumption | omega | (simp only [ZDI]; omega)) only [*,lenV,G116,Za,Zb,Zc,Zd,Ze,Zf,Zg,Zh,Zi,Zj,Zk,Zl,Zm,Zn,Zo,Ja,Jb,Jc,J6,Jd,Je,J7,J8,Jf,Jg,Jh,Ji,Jj,Jk,J9,Jl,Jm,wr,Jn,JA,JB,Jo,Jp,Jq,Jr,Js,Jt,Ju,Jv,Jw,Jx,Jy,Jz,J0,J1,J2,J3,J4,J5,reduceCtorEq,JC,JD,JE,JF,JG,JH,JI,JJ]) | ((with_reducible (first | apply Ok.br | apply Ok.gd | apply Ok.ld)) <;> (intro g; (try simp only [ZGS] at g); try (exfalso; omega)))))
                refine Ok.bnd2 (partIns_R hc hS hb hG3 (by rw [hR1.sz]; exact hn) (by rw [hR1.sz]; exact hl) (by omega) hR1.to hR1.bel) fun y h3 ⟨G4, e4, r, hy, hG4, hp4, hs4⟩ => ?_
                cases hy
                have hR4 := hR1.perm hn hp4
                cases r with
                | true =>
                  (repeat' (first | (simp -implicitDefEqProofs (maxSteps := 1000000) (disch := first | assumption | omega | (simp only [ZDI]; omega)) only [*,lenV,G116,Za,Zb,Zc,Zd,Ze,Zf,Zg,Zh,Zi,Zj,Zk,Zl,Zm,Zn,Zo,Ja,Jb,Jc,J6,Jd,Je,J7,J8,Jf,Jg,Jh,Ji,Jj,Jk,J9,Jl,Jm,wr,Jn,JA,JB,Jo,Jp,Jq,Jr,Js,Jt,Ju,Jv,Jw,Jx,Jy,Jz,J0,J1,J2,J3,J4,J5,reduceCtorEq,JC,JD,JE,JF,JG,JH,JI,JJ]) | ((with_reducible (first | apply Ok.br | apply Ok.gd | apply Ok.ld)) <;> (intro g; (try simp only [ZGS] at g); try (exfalso; omega)))))
                  have := hR1.fin e4 hp4 (hs4 rfl)
                  exact Turn.ret ⟨rfl, rfl, rfl, e4, hG4, this.1, this.2⟩
                | false =>
                  clear hs4 hp4 hG3 hR1
                  have hcl := hG4.cells hb
                  have hto := hR4.to
                  have hn4 : n <= e4.size := by rw [hR4.sz]; exact hn
                  have hl4 : e4.size <= 1000000000 := by rw [hR4.sz]; exact hl
                  have hx1 : 0 <= (p : Int) /\ (p : Int) < (n : Int) := by have := hR4.to; omega
                  have hx2 : p < e4.size := by omega
                  by_cases ha : 0 < a
                  · have ha' : 0 < (a : Int) := by omega
                    have e5 : (a : Int) - 1 = ((a - 1 : Nat) : Int) := by omega
                    have hx3 : 0 <= ((a - 1 : Nat) : Int) /\ ((a - 1 : Nat) : Int) < (n : Int) := by have := hR4.to; omega
                    have hx4 : a - 1 < e4.size := by omega
                    by_cases hcm : hc.c e4[a - 1]! e4[p]! < 0
                    · (repeat' (first | (simp -implicitDefEqProofs (maxSteps := 1000000) (disch := first | assumption | omega | (simp only [ZDI]; omega)) only [*,lenV,fl_len,fl_at,eq_self,pr_eta,hc.run,G116,Za,Zb,Zc,Zd,Ze,Zf,Zg,Zh,Zi,Zj,Zk,Zl,Zm,Zn,Zo,Ja,Jb,Jc,J6,Jd,Je,J7,J8,Jf,Jg,Jh,Ji,Jj,Jk,J9,Jl,Jm,wr,Jn,JA,JB,Jo,Jp,Jq,Jr,Js,Jt,Ju,Jv,Jw,Jx,Jy,Jz,J0,J1,J2,J3,J4,J5,reduceCtorEq,JC,JD,JE,JF,JG,JH,JI,JJ]) | ((with_reducible (first | apply Ok.br | apply Ok.gd | apply Ok.ld)) <;> (intro g; (try simp only [ZGS] at g); try (exfalso; omega)))))
                      refine Ok.bnd2 (part_R hc hS hb hG4 hn4 hl4 hp.1 hp.2 hR4.to hR4.bel) fun y h3 ⟨G5, e5, mid, ap, hy, hG5, hmid, hsz5, hBl, hBr, hlft, hrgt⟩ => ?_
                      cases hy
                      by_cases hm : mid - a < c - mid
                      · have hm' : (mid : Int) - (a : Int) < (c : Int) - (mid : Int) := by omega
                        (repeat' (first | (simp -implicitDefEqProofs (maxSteps := 1000000) (disch := first | assumption | omega | (simp only [ZDI]; omega)) only [*,lenV,G116,Za,Zb,Zc,Zd,Ze,Zf,Zg,Zh,Zi,Zj,Zk,Zl,Zm,Zn,Zo,Ja,Jb,Jc,J6,Jd,Je,J7,J8,Jf,Jg,Jh,Ji,Jj,Jk,J9,Jl,Jm,wr,Jn,JA,JB,Jo,Jp,Jq,Jr,Js,Jt,Ju,Jv,Jw,Jx,Jy,Jz,J0,J1,J2,J3,J4,J5,reduceCtorEq,JC,JD,JE,JF,JG,JH,JI,JJ]) | ((with_reducible (first | apply Ok.br | apply Ok.gd | apply Ok.ld)) <;> (intro g; (try simp only [ZGS] at g); try (exfalso; omega)))))
                        refine Ok.bnd2 (ih (i0 := a) (j0 := mid) hG5 (by omega) (by omega) (by omega) (by omega) hlm hBl) fun y h3 ⟨G6, e6, hy, hG6, hp6, hs6⟩ => ?_
                        cases hy
                        (repeat' (first | (simp -implicitDefEqProofs (maxSteps := 1000000) (disch := first | assumption | omega | (simp only [ZDI]; omega)) only [*,lenV,G116,Za,Zb,Zc,Zd,Ze,Zf,Zg,Zh,Zi,Zj,Zk,Zl,Zm,Zn,Zo,Ja,Jb,Jc,J6,Jd,Je,J7,J8,Jf,Jg,Jh,Ji,Jj,Jk,J9,Jl,Jm,wr,Jn,JA,JB,Jo,Jp,Jq,Jr,Js,Jt,Ju,Jv,Jw,Jx,Jy,Jz,J0,J1,J2,J3,J4,J5,reduceCtorEq,JC,JD,JE,JF,JG,JH,JI,JJ]) | ((with_reducible (first | apply Ok.br | apply Ok.gd | apply Ok.ld)) <;> (intro g; (try simp only [ZGS] at g); try (exfalso; omega)))))
                        have hL := hlft e6 hp6 hs6
                        exact Turn.next (c - (mid + 1)) (by omega) ⟨rfl, mid + 1, c, lm, _, ap, e6, _, rfl, hlm, rfl, rfl, rfl, rfl, rfl, rfl, rfl, hG6, ⟨by omega, hto, by rw [hp6.1, hsz5]; exact hR4.sz, hL.1, fun R hR hs => (hL.2 R hR hs).elim fun q1 q2 => hR4.fin R q1 q2⟩, by omega⟩
                      · have hm' : ¬ (mid : Int) - (a : Int) < (c : Int) - (mid : Int) := by omega
                        (repeat' (first | (simp -implicitDefEqProofs (maxSteps := 1000000) (disch := first | assumption | omega | (simp only [ZDI]; omega)) only [*,lenV,G116,Za,Zb,Zc,Zd,Ze,Zf,Zg,Zh,Zi,Zj,Zk,Zl,Zm,Zn,Zo,Ja,Jb,Jc,J6,Jd,Je,J7,J8,Jf,Jg,Jh,Ji,Jj,Jk,J9,Jl,Jm,wr,Jn,JA,JB,Jo,Jp,Jq,Jr,Js,Jt,Ju,Jv,Jw,Jx,Jy,Jz,J0,J1,J2,J3,J4,J5,reduceCtorEq,JC,JD,JE,JF,JG,JH,JI,JJ]) | ((with_reducible (first | apply Ok.br | apply Ok.gd | apply Ok.ld)) <;> (intro g; (try simp only [ZGS] at g); try (exfalso; omega)))))
                        refine Ok.bnd2 (ih (i0 := mid + 1) (j0 := c) hG5 (by omega) (by omega) (by omega) (by omega) hlm hBr) fun y h3 ⟨G6, e6, hy, hG6, hp6, hs6⟩ => ?_
                        cases hy
                        (repeat' (first | (simp -implicitDefEqProofs (maxSteps := 1000000) (disch := first | assumption | omega | (simp only [ZDI]; omega)) only [*,lenV,G116,Za,Zb,Zc,Zd,Ze,Zf,Zg,Zh,Zi,Zj,Zk,Zl,Zm,Zn,Zo,Ja,Jb,Jc,J6,Jd,Je,J7,J8,Jf,Jg,Jh,Ji,Jj,Jk,J9,Jl,Jm,wr,Jn,JA,JB,Jo,Jp,Jq,Jr,Js,Jt,Ju,Jv,Jw,Jx,Jy,Jz,J0,J1,J2,J3,J4,J5,reduceCtorEq,JC,JD,JE,JF,JG,JH,JI,JJ]) | ((with_reducible (first | apply Ok.br | apply Ok.gd | apply Ok.ld)) <;> (intro g; (try simp only [ZGS] at g); try (exfalso; omega)))))
                        have hL := hrgt e6 hp6 hs6
                        exact Turn.next (mid - a) (by omega) ⟨rfl, a, mid, lm, _, ap, e6, _, rfl, hlm, rfl, rfl, rfl, rfl, rfl, rfl, rfl, hG6, ⟨hmid.1, by omega, by rw [hp6.1, hsz5]; exact hR4.sz, hL.1, fun R hR hs => (hL.2 R hR hs).elim fun q1 q2 => hR4.fin R q1 q2⟩, by omega⟩
                    · (repeat' (first | (simp -implicitDefEqProofs (maxSteps := 1000000) (disch := first | assumption | omega | (simp only [ZDI]; omega)) only [*,lenV,fl_len,fl_at,eq_self,pr_eta,hc.run,G116,Za,Zb,Zc,Zd,Ze,Zf,Zg,Zh,Zi,Zj,Zk,Zl,Zm,Zn,Zo,Ja,Jb,Jc,J6,Jd,Je,J7,J8,Jf,Jg,Jh,Ji,Jj,Jk,J9,Jl,Jm,wr,Jn,JA,JB,Jo,Jp,Jq,Jr,Js,Jt,Ju,Jv,Jw,Jx,Jy,Jz,J0,J1,J2,J3,J4,J5,reduceCtorEq,JC,JD,JE,JF,JG,JH,JI,JJ]) | ((with_reducible (first | apply Ok.br | apply Ok.gd | apply Ok.ld)) <;> (intro g; (try simp only [ZGS] at g); try (exfalso; omega)))))
                      refine Ok.bnd2 (partEq_R hc hS hb hG4 hn4 hl4 hp.1 hp.2 hR4.to ha hR4.bel (by rw [hc.neg]; exact decide_eq_false hcm)) fun y h3 ⟨G5, e5, mid, hy, hG5, hmid, hsz5, hB5, hf5⟩ => ?_
                      cases hy
                      (repeat' (first | (simp -implicitDefEqProofs (maxSteps := 1000000) (disch := first | assumption | omega | (simp only [ZDI]; omega)) only [*,lenV,G116,Za,Zb,Zc,Zd,Ze,Zf,Zg,Zh,Zi,Zj,Zk,Zl,Zm,Zn,Zo,Ja,Jb,Jc,J6,Jd,Je,J7,J8,Jf,Jg,Jh,Ji,Jj,Jk,J9,Jl,Jm,wr,Jn,JA,JB,Jo,Jp,Jq,Jr,Js,Jt,Ju,Jv,Jw,Jx,Jy,Jz,J0,J1,J2,J3,J4,J5,reduceCtorEq,JC,JD,JE,JF,JG,JH,JI,JJ]) | ((with_reducible (first | apply Ok.br | apply Ok.gd | apply Ok.ld)) <;> (intro g; (try simp only [ZGS] at g); try (exfalso; omega)))))
                      exact Turn.next (c - mid) (by omega) ⟨rfl, mid, c, lm, _, true, e5, _, rfl, hlm, rfl, rfl, rfl, rfl, rfl, rfl, rfl, hG5, ⟨hmid.2, hto, by rw [hsz5]; exact hR4.sz, hB5, fun R hR hs => (hf5 R hR hs).elim fun q1 q2 => hR4.fin R q1 q2⟩, by omega⟩
                  · have ha' : ¬ 0 < (a : Int) := by omega
                    (repeat' (first | (simp -implicitDefEqProofs (maxSteps := 1000000) (disch := first | assumption | omega | (simp only [ZDI]; omega)) only [*,lenV,fl_len,fl_at,eq_self,pr_eta,hc.run,G116,Za,Zb,Zc,Zd,Ze,Zf,Zg,Zh,Zi,Zj,Zk,Zl,Zm,Zn,Zo,Ja,Jb,Jc,J6,Jd,Je,J7,J8,Jf,Jg,Jh,Ji,Jj,Jk,J9,Jl,Jm,wr,Jn,JA,JB,Jo,Jp,Jq,Jr,Js,Jt,Ju,Jv,Jw,Jx,Jy,Jz,J0,J1,J2,J3,J4,J5,reduceCtorEq,JC,JD,JE,JF,JG,JH,JI,JJ]) | ((with_reducible (first | apply Ok.br | apply Ok.gd | apply Ok.ld)) <;> (intro g; (try simp only [ZGS] at g); try (exfalso; omega)))))
                    refine Ok.bnd2 (part_R hc hS hb hG4 hn4 hl4 hp.1 hp.2 hR4.to hR4.bel) fun y h3 ⟨G5, e5, mid, ap, hy, hG5, hmid, hsz5, hBl, hBr, hlft, hrgt⟩ => ?_
                    cases hy
                    by_cases hm : mid - a < c - mid
                    · have hm' : (mid : Int) - (a : Int) < (c : Int) - (mid : Int) := by omega
                      (repeat' (first | (simp -implicitDefEqProofs (maxSteps := 1000000) (disch := first | assumption | omega | (simp only [ZDI]; omega)) only [*,lenV,G116,Za,Zb,Zc,Zd,Ze,Zf,Zg,Zh,Zi,Zj,Zk,Zl,Zm,Zn,Zo,Ja,Jb,Jc,J6,Jd,Je,J7,J8,Jf,Jg,Jh,Ji,Jj,Jk,J9,Jl,Jm,wr,Jn,JA,JB,Jo,Jp,Jq,Jr,Js,Jt,Ju,Jv,Jw,Jx,Jy,Jz,J0,J1,J2,J3,J4,J5,reduceCtorEq,JC,JD,JE,JF,JG,JH,JI,JJ]) | ((with_reducible (first | apply Ok.br | apply Ok.gd | apply Ok.ld)) <;> (intro g; (try simp only [ZGS] at g); try (exfalso; omega)))))
                      refine Ok.bnd2 (ih (i0 := a) (j0 := mid) hG5 (by omega) (by omega) (by omega) (by omega) hlm hBl) fun y h3 ⟨G6, e6, hy, hG6, hp6, hs6⟩ => ?_
                      cases hy
                      (repeat' (first | (simp -implicitDefEqProofs (maxSteps := 1000000) (disch := first | assumption | omega | (simp only [ZDI]; omega)) only [*,lenV,G116,Za,Zb,Zc,Zd,Ze,Zf,Zg,Zh,Zi,Zj,Zk,Zl,Zm,Zn,Zo,Ja,Jb,Jc,J6,Jd,Je,J7,J8,Jf,Jg,Jh,Ji,Jj,Jk,J9,Jl,Jm,wr,Jn,JA,JB,Jo,Jp,Jq,Jr,Js,Jt,Ju,Jv,Jw,Jx,Jy,Jz,J0,J1,J2,J3,J4,J5,reduceCtorEq,JC,JD,JE,JF,JG,JH,JI,JJ]) | ((with_reducible (first | apply Ok.br | apply Ok.gd | apply Ok.ld)) <;> (intro g; (try simp only [ZGS] at g); try (exfalso; omega)))))
                      have hL := hlft e6 hp6 hs6
                      exact Turn.next (c - (mid + 1)) (by omega) ⟨rfl, mid + 1, c, lm, _, ap, e6, _, rfl, hlm, rfl, rfl, rfl, rfl, rfl, rfl, rfl, hG6, ⟨by omega, hto, by rw [hp6.1, hsz5]; exact hR4.sz, hL.1, fun R hR hs => (hL.2 R hR hs).elim fun q1 q2 => hR4.fin R q1 q2⟩, by omega⟩
                    · have hm' : ¬ (mid : Int) - (a : Int) < (c : Int) - (mid : Int) := by omega
                      (repeat' (first | (simp -implicitDefEqProofs (maxSteps := 1000000) (disch := first | assumption | omega | (simp only [ZDI]; omega)) only [*,lenV,G116,Za,Zb,Zc,Zd,Ze,Zf,Zg,Zh,Zi,Zj,Zk,Zl,Zm,Zn,Zo,Ja,Jb,Jc,J6,Jd,Je,J7,J8,Jf,Jg,Jh,Ji,Jj,Jk,J9,Jl,Jm,wr,Jn,JA,JB,Jo,Jp,Jq,Jr,Js,Jt,Ju,Jv,Jw,Jx,Jy,Jz,J0,J1,J2,J3,J4,J5,reduceCtorEq,JC,JD,JE,JF,JG,JH,JI,JJ]) | ((with_reducible (first | apply Ok.br | apply Ok.gd | apply Ok.ld)) <;> (intro g; (try simp only [ZGS] at g); try (exfalso; omega)))))
                      refine Ok.bnd2 (ih (i0 := mid + 1) (j0 := c) hG5 (by omega) (by omega) (by omega) (by omega) hlm hBr) fun y h3 ⟨G6, e6, hy, hG6, hp6, hs6⟩ => ?_
                      cases hy
                      (repeat' (first | (simp -implicitDefEqProofs (maxSteps := 1000000) (disch := first | assumption | omega | (simp only [ZDI]; omega)) only [*,lenV,G116,Za,Zb,Zc,Zd,Ze,Zf,Zg,Zh,Zi,Zj,Zk,Zl,Zm,Zn,Zo,Ja,Jb,Jc,J6,Jd,Je,J7,J8,Jf,Jg,Jh,Ji,Jj,Jk,J9,Jl,Jm,wr,Jn,JA,JB,Jo,Jp,Jq,Jr,Js,Jt,Ju,Jv,Jw,Jx,Jy,Jz,J0,J1,J2,J3,J4,J5,reduceCtorEq,JC,JD,JE,JF,JG,JH,JI,JJ]) | ((with_reducible (first | apply Ok.br | apply Ok.gd | apply Ok.ld)) <;> (intro g; (try simp only [ZGS] at g); try (exfalso; omega)))))
                      have hL := hrgt e6 hp6 hs6
                      exact Turn.next (mid - a) (by omega) ⟨rfl, a, mid, lm, _, ap, e6, _, rfl, hlm, rfl, rfl, rfl, rfl, rfl, rfl, rfl, hG6, ⟨hmid.1, by omega, by rw [hp6.1, hsz5]; exact hR4.sz, hL.1, fun R hR hs => (hL.2 R hR hs).elim fun q1 q2 => hR4.fin R q1 q2⟩, by omega⟩
              · (repeat' (first | (simp -implicitDefEqProofs (maxSteps := 1000000) (disch := first | assumption | omega | (simp only [ZDI]; omega)) only [*,lenV,G116,Za,Zb,Zc,Zd,Ze,Zf,Zg,Zh,Zi,Zj,Zk,Zl,Zm,Zn,Zo,Ja,Jb,Jc,J6,Jd,Je,J7,J8,Jf,Jg,Jh,Ji,Jj,Jk,J9,Jl,Jm,wr,Jn,JA,JB,Jo,Jp,Jq,Jr,Js,Jt,Ju,Jv,Jw,Jx,Jy,Jz,J0,J1,J2,J3,J4,J5,reduceCtorEq,JC,JD,JE,JF,JG,JH,JI,JJ]) | ((with_reducible (first | apply Ok.br | apply Ok.gd | apply Ok.ld)) <;> (intro g; (try simp only [ZGS] at g); try (exfalso; omega)))))
                refine Ok.bnd2 (reverse_R hb hG3 (by rw [hR1.sz]; exact hn) (by rw [hR1.sz]; exact hl) (by omega) hR1.to) fun y h3 ⟨G4, e4, hy, hG4, hp4⟩ => ?_
                cases hy
                have hR4 := hR1.perm hn hp4
                obtain ⟨pv, hpv'⟩ : ∃ pv : Nat, (c : Int) - 1 - ((p : Int) - (a : Int)) = (pv : Int) := ⟨c - 1 - (p - a), by omega⟩
                have hpv : a <= pv /\ pv < c := by omega
                clear hp4 hG3 hR1
                (repeat' (first | (simp -implicitDefEqProofs (maxSteps := 1000000) (disch := first | assumption | omega | (simp only [ZDI]; omega)) only [*,lenV,G116,Za,Zb,Zc,Zd,Ze,Zf,Zg,Zh,Zi,Zj,Zk,Zl,Zm,Zn,Zo,Ja,Jb,Jc,J6,Jd,Je,J7,J8,Jf,Jg,Jh,Ji,Jj,Jk,J9,Jl,Jm,wr,Jn,JA,JB,Jo,Jp,Jq,Jr,Js,Jt,Ju,Jv,Jw,Jx,Jy,Jz,J0,J1,J2,J3,J4,J5,reduceCtorEq,JC,JD,JE,JF,JG,JH,JI,JJ]) | ((with_reducible (first | apply Ok.br | apply Ok.gd | apply Ok.ld)) <;> (intro g; (try simp only [ZGS] at g); try (exfalso; omega)))))
                refine Ok.bnd2 (partIns_R hc hS hb hG4 (by rw [hR4.sz]; exact hn) (by rw [hR4.sz]; exact hl) (by omega) hR4.to hR4.bel) fun y h3 ⟨G7, e7, r, hy, hG7, hp4, hs4⟩ => ?_
                cases hy
                have hR7 := hR4.perm hn hp4
                cases r with
                | true =>
                  (repeat' (first | (simp -implicitDefEqProofs (maxSteps := 1000000) (disch := first | assumption | omega | (simp only [ZDI]; omega)) only [*,lenV,G116,Za,Zb,Zc,Zd,Ze,Zf,Zg,Zh,Zi,Zj,Zk,Zl,Zm,Zn,Zo,Ja,Jb,Jc,J6,Jd,Je,J7,J8,Jf,Jg,Jh,Ji,Jj,Jk,J9,Jl,Jm,wr,Jn,JA,JB,Jo,Jp,Jq,Jr,Js,Jt,Ju,Jv,Jw,Jx,Jy,Jz,J0,J1,J2,J3,J4,J5,reduceCtorEq,JC,JD,JE,JF,JG,JH,JI,JJ]) | ((with_reducible (first | apply Ok.br | apply Ok.gd | apply Ok.ld)) <;> (intro g; (try simp only [ZGS] at g); try (exfalso; omega)))))
                  have := hR4.fin e7 hp4 (hs4 rfl)
                  exact Turn.ret ⟨rfl, rfl, rfl, e7, hG7, this.1, this.2⟩
                | false =>
                  clear hs4 hp4 hG4 hR4
                  have hcl := hG7.cells hb
                  have hto := hR7.to
                  have hn4 : n <= e7.size := by rw [hR7.sz]; exact hn
                  have hl4 : e7.size <= 1000000000 := by rw [hR7.sz]; exact hl
                  have hx1 : 0 <= (pv : Int) /\ (pv : Int) < (n : Int) := by have := hR7.to; omega
                  have hx2 : pv < e7.size := by omega
                  by_cases ha : 0 < a
                  · have ha' : 0 < (a : Int) := by omega
                    have e5 : (a : Int) - 1 = ((a - 1 : Nat) : Int) := by omega
                    have hx3 : 0 <= ((a - 1 : Nat) : Int) /\ ((a - 1 : Nat) : Int) < (n : Int) := by have := hR7.to; omega
                    have hx4 : a - 1 < e7.size := by omega
                    by_cases hcm : hc.c e7[a - 1]! e7[pv]! < 0
                    · (repeat' (first | (simp -implicitDefEqProofs (maxSteps := 1000000) (disch := first | assumption | omega | (simp only [ZDI]; omega)) only [*,lenV,fl_len,fl_at,eq_self,pr_eta,hc.run,G116,Za,Zb,Zc,Zd,Ze,Zf,Zg,Zh,Zi,Zj,Zk,Zl,Zm,Zn,Zo,Ja,Jb,Jc,J6,Jd,Je,J7,J8,Jf,Jg,Jh,Ji,Jj,Jk,J9,Jl,Jm,wr,Jn,JA,JB,Jo,Jp,Jq,Jr,Js,Jt,Ju,Jv,Jw,Jx,Jy,Jz,J0,J1,J2,J3,J4,J5,reduceCtorEq,JC,JD,JE,JF,JG,JH,JI,JJ]) | ((with_reducible (first | apply Ok.br | apply Ok.gd | apply Ok.ld)) <;> (intro g; (try simp only [ZGS] at g); try (exfalso; omega)))))
                      refine Ok.bnd2 (part_R hc hS hb hG7 hn4 hl4 hpv.1 hpv.2 hR7.to hR7.bel) fun y h3 ⟨G5, e5, mid, ap, hy, hG5, hmid, hsz5, hBl, hBr, hlft, hrgt⟩ => ?_
                      cases hy
                      by_cases hm : mid - a < c - mid
                      · have hm' : (mid : Int) - (a : Int) < (c : Int) - (mid : Int) := by omega
                        (repeat' (first | (simp -implicitDefEqProofs (maxSteps := 1000000) (disch := first | assumption | omega | (simp only [ZDI]; omega)) only [*,lenV,G116,Za,Zb,Zc,Zd,Ze,Zf,Zg,Zh,Zi,Zj,Zk,Zl,Zm,Zn,Zo,Ja,Jb,Jc,J6,Jd,Je,J7,J8,Jf,Jg,Jh,Ji,Jj,Jk,J9,Jl,Jm,wr,Jn,JA,JB,Jo,Jp,Jq,Jr,Js,Jt,Ju,Jv,Jw,Jx,Jy,Jz,J0,J1,J2,J3,J4,J5,reduceCtorEq,JC,JD,JE,JF,JG,JH,JI,JJ]) | ((with_reducible (first | apply Ok.br | apply Ok.gd | apply Ok.ld)) <;> (intro g; (try simp only [ZGS] at g); try (exfalso; omega)))))
                        refine Ok.bnd2 (ih (i0 := a) (j0 := mid) hG5 (by omega) (by omega) (by omega) (by omega) hlm hBl) fun y h3 ⟨G6, e6, hy, hG6, hp6, hs6⟩ => ?_
                        cases hy
                        (repeat' (first | (simp -implicitDefEqProofs (maxSteps := 1000000) (disch := first | assumption | omega | (simp only [ZDI]; omega)) only [*,lenV,G116,Za,Zb,Zc,Zd,Ze,Zf,Zg,Zh,Zi,Zj,Zk,Zl,Zm,Zn,Zo,Ja,Jb,Jc,J6,Jd,Je,J7,J8,Jf,Jg,Jh,Ji,Jj,Jk,J9,Jl,Jm,wr,Jn,JA,JB,Jo,Jp,Jq,Jr,Js,Jt,Ju,Jv,Jw,Jx,Jy,Jz,J0,J1,J2,J3,J4,J5,reduceCtorEq,JC,JD,JE,JF,JG,JH,JI,JJ]) | ((with_reducible (first | apply Ok.br | apply Ok.gd | apply Ok.ld)) <;> (intro g; (try simp only [ZGS] at g); try (exfalso; omega)))))
                        have hL := hlft e6 hp6 hs6
                        exact Turn.next (c - (mid + 1)) (by omega) ⟨rfl, mid + 1, c, lm, _, ap, e6, _, rfl, hlm, rfl, rfl, rfl, rfl, rfl, rfl, rfl, hG6, ⟨by omega, hto, by rw [hp6.1, hsz5]; exact hR7.sz, hL.1, fun R hR hs => (hL.2 R hR hs).elim fun q1 q2 => hR7.fin R q1 q2⟩, by omega⟩
                      · have hm' : ¬ (mid : Int) - (a : Int) < (c : Int) - (mid : Int) := by omega
                        (repeat' (first | (simp -implicitDefEqProofs (maxSteps := 1000000) (disch := first | assumption | omega | (simp only [ZDI]; omega)) only [*,lenV,G116,Za,Zb,Zc,Zd,Ze,Zf,Zg,Zh,Zi,Zj,Zk,Zl,Zm,Zn,Zo,Ja,Jb,Jc,J6,Jd,Je,J7,J8,Jf,Jg,Jh,Ji,Jj,Jk,J9,Jl,Jm,wr,Jn,JA,JB,Jo,Jp,Jq,Jr,Js,Jt,Ju,Jv,Jw,Jx,Jy,Jz,J0,J1,J2,J3,J4,J5,reduceCtorEq,JC,JD,JE,JF,JG,JH,JI,JJ]) | ((with_reducible (first | apply Ok.br | apply Ok.gd | apply Ok.ld)) <;> (intro g; (try simp only [ZGS] at g); try (exfalso; omega)))))
                        refine Ok.bnd2 (ih (i0 := mid + 1) (j0 := c) hG5 (by omega) (by omega) (by omega) (by omega) hlm hBr) fun y h3 ⟨G6, e6, hy, hG6, hp6, hs6⟩ => ?_
                        cases hy
                        (repeat' (first | (simp -implicitDefEqProofs (maxSteps := 1000000) (disch := first | assumption | omega | (simp only [ZDI]; omega)) only [*,lenV,G116,Za,Zb,Zc,Zd,Ze,Zf,Zg,Zh,Zi,Zj,Zk,Zl,Zm,Zn,Zo,Ja,Jb,Jc,J6,Jd,Je,J7,J8,Jf,Jg,Jh,Ji,Jj,Jk,J9,Jl,Jm,wr,Jn,JA,JB,Jo,Jp,Jq,Jr,Js,Jt,Ju,Jv,Jw,Jx,Jy,Jz,J0,J1,J2,J3,J4,J5,reduceCtorEq,JC,JD,JE,JF,JG,JH,JI,JJ]) | ((with_reducible (first | apply Ok.br | apply Ok.gd | apply Ok.ld)) <;> (intro g; (try simp only [ZGS] at g); try (exfalso; omega)))))
                        have hL := hrgt e6 hp6 hs6
                        exact Turn.next (mid - a) (by omega) ⟨rfl, a, mid, lm, _, ap, e6, _, rfl, hlm, rfl, rfl, rfl, rfl, rfl, rfl, rfl, hG6, ⟨hmid.1, by omega, by rw [hp6.1, hsz5]; exact hR7.sz, hL.1, fun R hR hs => (hL.2 R hR hs).elim fun q1 q2 => hR7.fin R q1 q2⟩, by omega⟩
                    · (repeat' (first | (simp -implicitDefEqProofs (maxSteps := 1000000) (disch := first | assumption | omega | (simp only [ZDI]; omega)) only [*,lenV,fl_len,fl_at,eq_self,pr_eta,hc.run,G116,Za,Zb,Zc,Zd,Ze,Zf,Zg,Zh,Zi,Zj,Zk,Zl,Zm,Zn,Zo,Ja,Jb,Jc,J6,Jd,Je,J7,J8,Jf,Jg,Jh,Ji,Jj,Jk,J9,Jl,Jm,wr,Jn,JA,JB,Jo,Jp,Jq,Jr,Js,Jt,Ju,Jv,Jw,Jx,Jy,Jz,J0,J1,J2,J3,J4,J5,reduceCtorEq,JC,JD,JE,JF,JG,JH,JI,JJ]) | ((with_reducible (first | apply Ok.br | apply Ok.gd | apply Ok.ld)) <;> (intro g; (try simp only [ZGS] at g); try (exfalso; omega)))))
                      refine Ok.bnd2 (partEq_R hc hS hb hG7 hn4 hl4 hpv.1 hpv.2 hR7.to ha hR7.bel (by rw [hc.neg]; exact decide_eq_false hcm)) fun y h3 ⟨G5, e5, mid, hy, hG5, hmid, hsz5, hB5, hf5⟩ => ?_
                      cases hy
                      (repeat' (first | (simp -implicitDefEqProofs (maxSteps := 1000000) (disch := first | assumption | omega | (simp only [ZDI]; omega)) only [*,lenV,G116,Za,Zb,Zc,Zd,Ze,Zf,Zg,Zh,Zi,Zj,Zk,Zl,Zm,Zn,Zo,Ja,Jb,Jc,J6,Jd,Je,J7,J8,Jf,Jg,Jh,Ji,Jj,Jk,J9,Jl,Jm,wr,Jn,JA,JB,Jo,Jp,Jq,Jr,Js,Jt,Ju,Jv,Jw,Jx,Jy,Jz,J0,J1,J2,J3,J4,J5,reduceCtorEq,JC,JD,JE,JF,JG,JH,JI,JJ]) | ((with_reducible (first | apply Ok.br | apply Ok.gd | apply Ok.ld)) <;> (intro g; (try simp only [ZGS] at g); try (exfalso; omega)))))
                      exact Turn.next (c - mid) (by omega) ⟨rfl, mid, c, lm, _, true, e5, _, rfl, hlm, rfl, rfl, rfl, rfl, rfl, rfl, rfl, hG5, ⟨hmid.2, hto, by rw [hsz5]; exact hR7.sz, hB5, fun R hR hs => (hf5 R hR hs).elim fun q1 q2 => hR7.fin R q1 q2⟩, by omega⟩
                  · have ha' : ¬ 0 < (a : Int) := by omega
                    (repeat' (first | (simp -implicitDefEqProofs (maxSteps := 1000000) (disch := first | assumption | omega | (simp only [ZDI]; omega)) only [*,lenV,fl_len,fl_at,eq_self,pr_eta,hc.run,G116,Za,Zb,Zc,Zd,Ze,Zf,Zg,Zh,Zi,Zj,Zk,Zl,Zm,Zn,Zo,Ja,Jb,Jc,J6,Jd,Je,J7,J8,Jf,Jg,Jh,Ji,Jj,Jk,J9,Jl,Jm,wr,Jn,JA,JB,Jo,Jp,Jq,Jr,Js,Jt,Ju,Jv,Jw,Jx,Jy,Jz,J0,J1,J2,J3,J4,J5,reduceCtorEq,JC,JD,JE,JF,JG,JH,JI,JJ]) | ((with_reducible (first | apply Ok.br | apply Ok.gd | apply Ok.ld)) <;> (intro g; (try simp only [ZGS] at g); try (exfalso; omega)))))
                    refine Ok.bnd2 (part_R hc hS hb hG7 hn4 hl4 hpv.1 hpv.2 hR7.to hR7.bel) fun y h3 ⟨G5, e5, mid, ap, hy, hG5, hmid, hsz5, hBl, hBr, hlft, hrgt⟩ => ?_
                    cases hy
                    by_cases hm : mid - a < c - mid
                    · have hm' : (mid : Int) - (a : Int) < (c : Int) - (mid : Int) := by omega
                      (repeat' (first | (simp -implicitDefEqProofs (maxSteps := 1000000) (disch := first | assumption | omega | (simp only [ZDI]; omega)) only [*,lenV,G116,Za,Zb,Zc,Zd,Ze,Zf,Zg,Zh,Zi,Zj,Zk,Zl,Zm,Zn,Zo,Ja,Jb,Jc,J6,Jd,Je,J7,J8,Jf,Jg,Jh,Ji,Jj,Jk,J9,Jl,Jm,wr,Jn,JA,JB,Jo,Jp,Jq,Jr,Js,Jt,Ju,Jv,Jw,Jx,Jy,Jz,J0,J1,J2,J3,J4,J5,reduceCtorEq,JC,JD,JE,JF,JG,JH,JI,JJ]) | ((with_reducible (first | apply Ok.br | apply Ok.gd | apply Ok.ld)) <;> (intro g; (try simp only [ZGS] at g); try (exfalso; omega)))))
                      refine Ok.bnd2 (ih (i0 := a) (j0 := mid) hG5 (by omega) (by omega) (by omega) (by omega) hlm hBl) fun y h3 ⟨G6, e6, hy, hG6, hp6, hs6⟩ => ?_
                      cases hy
                      (repeat' (first | (simp -implicitDefEqProofs (maxSteps := 1000000) (disch := first | assumption | omega | (simp only [ZDI]; omega)) only [*,lenV,G116,Za,Zb,Zc,Zd,Ze,Zf,Zg,Zh,Zi,Zj,Zk,Zl,Zm,Zn,Zo,Ja,Jb,Jc,J6,Jd,Je,J7,J8,Jf,Jg,Jh,Ji,Jj,Jk,J9,Jl,Jm,wr,Jn,JA,JB,Jo,Jp,Jq,Jr,Js,Jt,Ju,Jv,Jw,Jx,Jy,Jz,J0,J1,J2,J3,J4,J5,reduceCtorEq,JC,JD,JE,JF,JG,JH,JI,JJ]) | ((with_reducible (first | apply Ok.br | apply Ok.gd | apply Ok.ld)) <;> (intro g; (try simp only [ZGS] at g); try (exfalso; omega)))))
                      have hL := hlft e6 hp6 hs6
                      exact Turn.next (c - (mid + 1)) (by omega) ⟨rfl, mid + 1, c, lm, _, ap, e6, _, rfl, hlm, rfl, rfl, rfl, rfl, rfl, rfl, rfl, hG6, ⟨by omega, hto, by rw [hp6.1, hsz5]; exact hR7.sz, hL.1, fun R hR hs => (hL.2 R hR hs).elim fun q1 q2 => hR7.fin R q1 q2⟩, by omega⟩
                    · have hm' : ¬ (mid : Int) - (a : Int) < (c : Int) - (mid : Int) := by omega
                      (repeat' (first | (simp -implicitDefEqProofs (maxSteps := 1000000) (disch := first | assumption | omega | (simp only [ZDI]; omega)) only [*,lenV,G116,Za,Zb,Zc,Zd,Ze,Zf,Zg,Zh,Zi,Zj,Zk,Zl,Zm,Zn,Zo,Ja,Jb,Jc,J6,Jd,Je,J7,J8,Jf,Jg,Jh,Ji,Jj,Jk,J9,Jl,Jm,wr,Jn,JA,JB,Jo,Jp,Jq,Jr,Js,Jt,Ju,Jv,Jw,Jx,Jy,Jz,J0,J1,J2,J3,J4,J5,reduceCtorEq,JC,JD,JE,JF,JG,JH,JI,JJ]) | ((with_reducible (first | apply Ok.br | apply Ok.gd | apply Ok.ld)) <;> (intro g; (try simp only [ZGS] at g); try (exfalso; omega)))))
                      refine Ok.bnd2 (ih (i0 := mid + 1) (j0 := c) hG5 (by omega) (by omega) (by omega) (by omega) hlm hBr) fun y h3 ⟨G6, e6, hy, hG6, hp6, hs6⟩ => ?_
                      cases hy
                      (repeat' (first | (simp -implicitDefEqProofs (maxSteps := 1000000) (disch := first | assumption | omega | (simp only [ZDI]; omega)) only [*,lenV,G116,Za,Zb,Zc,Zd,Ze,Zf,Zg,Zh,Zi,Zj,Zk,Zl,Zm,Zn,Zo,Ja,Jb,Jc,J6,Jd,Je,J7,J8,Jf,Jg,Jh,Ji,Jj,Jk,J9,Jl,Jm,wr,Jn,JA,JB,Jo,Jp,Jq,Jr,Js,Jt,Ju,Jv,Jw,Jx,Jy,Jz,J0,J1,J2,J3,J4,J5,reduceCtorEq,JC,JD,JE,JF,JG,JH,JI,JJ]) | ((with_reducible (first | apply Ok.br | apply Ok.gd | apply Ok.ld)) <;> (intro g; (try simp only [ZGS] at g); try (exfalso; omega)))))
                      have hL := hrgt e6 hp6 hs6
                      exact Turn.next (mid - a) (by omega) ⟨rfl, a, mid, lm, _, ap, e6, _, rfl, hlm, rfl, rfl, rfl, rfl, rfl, rfl, rfl, hG6, ⟨hmid.1, by omega, by rw [hp6.1, hsz5]; exact hR7.sz, hL.1, fun R hR hs => (hL.2 R hR hs).elim fun q1 q2 => hR7.fin R q1 q2⟩, by omega⟩
    · intro x ⟨e', l', H'⟩ hW ⟨hx, k2, e, k3, hp, hs⟩
      dsimp only at hW k2 k3
      subst l' hx
      rw [hW.spread]
      clear hW
      simp only [spread_t,spread_f,spread_n,Nat.zero_add,Nat.reduceAdd]
      (repeat' (first | (simp -implicitDefEqProofs (maxSteps := 1000000) (disch := first | assumption | omega | (simp only [ZDI]; omega)) only [*,G116,Za,Zb,Zc,Zd,Ze,Zf,Zg,Zh,Zi,Zj,Zk,Zl,Zm,Zn,Zo,Ja,Jb,Jc,J6,Jd,Je,J7,J8,Jf,Jg,Jh,Ji,Jj,Jk,J9,Jl,Jm,wr,Jn,JA,JB,Jo,Jp,Jq,Jr,Js,Jt,Ju,Jv,Jw,Jx,Jy,Jz,J0,J1,J2,J3,J4,J5,reduceCtorEq,JC,JD,JE,JF,JG,JH,JI,JJ]) | ((with_reducible (first | apply Ok.br | apply Ok.gd | apply Ok.ld)) <;> (intro g; (try simp only [ZGS] at g); try (exfalso; omega)))))
      exact hQ'.out _ ⟨_, e, rfl, k3, hp, hs⟩
end Go.Ev.Q
set_option maxRecDepth 100000
namespace Go.Ev.Q
open Go.Ev renaming exPure -> Ja, ofValue -> Jb, cellsV -> Jc, load -> Jd, store -> Je, binOp -> Jf, intOp -> Jg, rdV -> Jh, vsame -> Ji, vsames -> Jj, makeSliceV -> Jk, resV -> Jl, isCell -> Jm, nilCheckV -> Jn, allV -> Jo, builtinV -> Jp, lenV -> Jq, indexAddrV -> Jr, unOp -> Js, minmaxV -> Jt, minmax -> Ju, sliceV -> Jv, asInt -> Jw, appendV -> Jx, forkB -> Jy, roY -> Jz, rwB -> J0, copyV -> J1, clearV -> J2, convV -> J3, sliceCells -> J4, shift -> J5
open Bool renaming true -> BT, false -> BF
open Nat renaming reduceEqDiff -> J6, reduceLT -> J7, reduceAdd -> J8, reduceBEq -> J9, reduceSub -> JA, reduceMul -> JB, reduceLeDiff -> JJ
open Int renaming reduceLT -> JC, reduceLE -> JD, reduceAdd -> JE, reduceSub -> JF, reduceNeg -> JG, reduceToNat -> JH, reduceEq -> JI
open Go.Proofs Go.Sort
theorem less_at (x y : RP) (h : Heap) : D X (.fn 98 []) [.agg [.int .i64 x.1, .int .i64 x.2], .agg [.int .i64 y.1, .int .i64 y.2]] h = some (.bool (ltR x y), h) := by
  refine Ok.eq ?_
  obtain ⟨x1, x2⟩ := x
  obtain ⟨y1, y2⟩ := y
  unfold ltR
  by_cases h1 : x1 = y1
  · by_cases h2 : x2 < y2
    · (refine Ok.body body98 pin98 ?_; simp only [c98,Tryz.f98,Option.getD_some,nslot98,List.append_nil,List.map,List.replicate,List.length_cons,List.length_nil,Nat.reduceAdd,Nat.reduceSub,List.cons_append,List.nil_append])
      (repeat' (first | (simp -implicitDefEqProofs (maxSteps := 1000000) (disch := first | assumption | omega | (simp only [ZDI]; omega)) only [*,lenV,G98,Za,Zb,Zc,Zd,Ze,Zf,Zg,Zh,Zi,Zj,Zk,Zl,Zm,Zn,Zo,Ja,Jb,Jc,J6,Jd,Je,J7,J8,Jf,Jg,Jh,Ji,Jj,Jk,J9,Jl,Jm,wr,Jn,JA,JB,Jo,Jp,Jq,Jr,Js,Jt,Ju,Jv,Jw,Jx,Jy,Jz,J0,J1,J2,J3,J4,J5,reduceCtorEq,JC,JD,JE,JF,JG,JH,JI,JJ]) | ((with_reducible (first | apply Ok.br | apply Ok.gd | apply Ok.ld)) <;> (intro g; (try simp only [ZGS] at g); try (exfalso; omega)))))
      all_goals simp [*]
    · (refine Ok.body body98 pin98 ?_; simp only [c98,Tryz.f98,Option.getD_some,nslot98,List.append_nil,List.map,List.replicate,List.length_cons,List.length_nil,Nat.reduceAdd,Nat.reduceSub,List.cons_append,List.nil_append])
      (repeat' (first | (simp -implicitDefEqProofs (maxSteps := 1000000) (disch := first | assumption | omega | (simp only [ZDI]; omega)) only [*,lenV,G98,Za,Zb,Zc,Zd,Ze,Zf,Zg,Zh,Zi,Zj,Zk,Zl,Zm,Zn,Zo,Ja,Jb,Jc,J6,Jd,Je,J7,J8,Jf,Jg,Jh,Ji,Jj,Jk,J9,Jl,Jm,wr,Jn,JA,JB,Jo,Jp,Jq,Jr,Js,Jt,Ju,Jv,Jw,Jx,Jy,Jz,J0,J1,J2,J3,J4,J5,reduceCtorEq,JC,JD,JE,JF,JG,JH,JI,JJ]) | ((with_reducible (first | apply Ok.br | apply Ok.gd | apply Ok.ld)) <;> (intro g; (try simp only [ZGS] at g); try (exfalso; omega)))))
      all_goals simp [*]
  · by_cases h2 : x1 < y1
    · (refine Ok.body body98 pin98 ?_; simp only [c98,Tryz.f98,Option.getD_some,nslot98,List.append_nil,List.map,List.replicate,List.length_cons,List.length_nil,Nat.reduceAdd,Nat.reduceSub,List.cons_append,List.nil_append])
      (repeat' (first | (simp -implicitDefEqProofs (maxSteps := 1000000) (disch := first | assumption | omega | (simp only [ZDI]; omega)) only [*,lenV,G98,Za,Zb,Zc,Zd,Ze,Zf,Zg,Zh,Zi,Zj,Zk,Zl,Zm,Zn,Zo,Ja,Jb,Jc,J6,Jd,Je,J7,J8,Jf,Jg,Jh,Ji,Jj,Jk,J9,Jl,Jm,wr,Jn,JA,JB,Jo,Jp,Jq,Jr,Js,Jt,Ju,Jv,Jw,Jx,Jy,Jz,J0,J1,J2,J3,J4,J5,reduceCtorEq,JC,JD,JE,JF,JG,JH,JI,JJ]) | ((with_reducible (first | apply Ok.br | apply Ok.gd | apply Ok.ld)) <;> (intro g; (try simp only [ZGS] at g); try (exfalso; omega)))))
      all_goals simp [*]
    · (refine Ok.body body98 pin98 ?_; simp only [c98,Tryz.f98,Option.getD_some,nslot98,List.append_nil,List.map,List.replicate,List.length_cons,List.length_nil,Nat.reduceAdd,Nat.reduceSub,List.cons_append,List.nil_append])
      (repeat' (first | (simp -implicitDefEqProofs (maxSteps := 1000000) (disch := first | assumption | omega | (simp only [ZDI]; omega)) only [*,lenV,G98,Za,Zb,Zc,Zd,Ze,Zf,Zg,Zh,Zi,Zj,Zk,Zl,Zm,Zn,Zo,Ja,Jb,Jc,J6,Jd,Je,J7,J8,Jf,Jg,Jh,Ji,Jj,Jk,J9,Jl,Jm,wr,Jn,JA,JB,Jo,Jp,Jq,Jr,Js,Jt,Ju,Jv,Jw,Jx,Jy,Jz,J0,J1,J2,J3,J4,J5,reduceCtorEq,JC,JD,JE,JF,JG,JH,JI,JJ]) | ((with_reducible (first | apply Ok.br | apply Ok.gd | apply Ok.ld)) <;> (intro g; (try simp only [ZGS] at g); try (exfalso; omega)))))
      all_goals simp [*]
theorem order3_at (a b : Bool) (h : Heap) : D X (.fn 97 []) [.bool a, .bool b] h = some (.int .i64 (ord a b), h) := by
  refine Ok.eq ?_
  cases a <;> cases b
  all_goals
    (refine Ok.body body97 pin97 ?_; simp only [c97,Tryz.f97,Option.getD_some,nslot97,List.append_nil,List.map,List.replicate,List.length_cons,List.length_nil,Nat.reduceAdd,Nat.reduceSub,List.cons_append,List.nil_append])
    (repeat' (first | (simp -implicitDefEqProofs (maxSteps := 1000000) (disch := first | assumption | omega | (simp only [ZDI]; omega)) only [*,lenV,slot97,Za,Zb,Zc,Zd,Ze,Zf,Zg,Zh,Zi,Zj,Zk,Zl,Zm,Zn,Zo,Ja,Jb,Jc,J6,Jd,Je,J7,J8,Jf,Jg,Jh,Ji,Jj,Jk,J9,Jl,Jm,wr,Jn,JA,JB,Jo,Jp,Jq,Jr,Js,Jt,Ju,Jv,Jw,Jx,Jy,Jz,J0,J1,J2,J3,J4,J5,reduceCtorEq,JC,JD,JE,JF,JG,JH,JI,JJ]) | ((with_reducible (first | apply Ok.br | apply Ok.gd | apply Ok.ld)) <;> (intro g; (try simp only [ZGS] at g); try (exfalso; omega)))))
    rfl
def refCmp : Cmp (.fn 96 []) ltR where
  c x y := ord (ltR x y) (ltR y x)
  run x y h := by
    have h1 := less_at x y h
    have h2 := less_at y x h
    have h3 := order3_at (ltR x y) (ltR y x) h
    refine Ok.eq ?_
    (refine Ok.body body96 pin96 ?_; simp only [c96,Tryz.f96,Option.getD_some,nslot96,List.append_nil,List.map,List.replicate,List.length_cons,List.length_nil,Nat.reduceAdd,Nat.reduceSub,List.cons_append,List.nil_append])
    (repeat' (first | (simp -implicitDefEqProofs (maxSteps := 1000000) (disch := first | assumption | omega | (simp only [ZDI]; omega)) only [*,lenV,G96,Za,Zb,Zc,Zd,Ze,Zf,Zg,Zh,Zi,Zj,Zk,Zl,Zm,Zn,Zo,Ja,Jb,Jc,J6,Jd,Je,J7,J8,Jf,Jg,Jh,Ji,Jj,Jk,J9,Jl,Jm,wr,Jn,JA,JB,Jo,Jp,Jq,Jr,Js,Jt,Ju,Jv,Jw,Jx,Jy,Jz,J0,J1,J2,J3,J4,J5,reduceCtorEq,JC,JD,JE,JF,JG,JH,JI,JJ]) | ((with_reducible (first | apply Ok.br | apply Ok.gd | apply Ok.ld)) <;> (intro g; (try simp only [ZGS] at g); try (exfalso; omega)))))
  neg x y := by
    unfold ord
    cases ltR x y <;> cases ltR y x <;> rfl
end Go.Ev.Q
set_option maxRecDepth 100000
namespace Go.Ev.Q
open Go.Ev renaming exPure -> Ja, ofValue -> Jb, cellsV -> Jc, load -> Jd, store -> Je, binOp -> Jf, intOp -> Jg, rdV -> Jh, vsame -> Ji, vsames -> Jj, makeSliceV -> Jk, resV -> Jl, isCell -> Jm, nilCheckV -> Jn, allV -> Jo, builtinV -> Jp, lenV -> Jq, indexAddrV -> Jr, unOp -> Js, minmaxV -> Jt, minmax -> Ju, sliceV -> Jv, asInt -> Jw, appendV -> Jx, forkB -> Jy, roY -> Jz, rwB -> J0, copyV -> J1, clearV -> J2, convV -> J3, sliceCells -> J4, shift -> J5
open Bool renaming true -> BT, false -> BF
open Nat renaming reduceEqDiff -> J6, reduceLT -> J7, reduceAdd -> J8, reduceBEq -> J9, reduceSub -> JA, reduceMul -> JB, reduceLeDiff -> JJ
open Int renaming reduceLT -> JC, reduceLE -> JD, reduceAdd -> JE, reduceSub -> JF, reduceNeg -> JG, reduceToNat -> JH, reduceEq -> JI
open Go.Proofs Go.Sort
theorem grow_0 (h : Heap) : D X (.fn 115 []) [.sl .nil 0 0 0, .int .i64 0] h = some (.sl .nil 0 0 0, h) := by
  refine Ok.eq ?_
  (refine Ok.body body115 pin115 ?_; simp only [c115,Tryz.f115,Option.getD_some,nslot115,List.append_nil,List.map,List.replicate,List.length_cons,List.length_nil,Nat.reduceAdd,Nat.reduceSub,List.cons_append,List.nil_append])
  (repeat' (first | (simp -implicitDefEqProofs (maxSteps := 1000000) (disch := first | assumption | omega | (simp only [ZDI]; omega)) only [*,lenV,capV,G115,Za,Zb,Zc,Zd,Ze,Zf,Zg,Zh,Zi,Zj,Zk,Zl,Zm,Zn,Zo,Ja,Jb,Jc,J6,Jd,Je,J7,J8,Jf,Jg,Jh,Ji,Jj,Jk,J9,Jl,Jm,wr,Jn,JA,JB,Jo,Jp,Jq,Jr,Js,Jt,Ju,Jv,Jw,Jx,Jy,Jz,J0,J1,J2,J3,J4,J5,reduceCtorEq,JC,JD,JE,JF,JG,JH,JI,JJ]) | ((with_reducible (first | apply Ok.br | apply Ok.gd | apply Ok.ld)) <;> (intro g; (try simp only [ZGS] at g); try (exfalso; omega)))))
theorem grow_n {n : Nat} (h0 : 0 < n) (h1 : n <= 5000) (h : Heap) : D X (.fn 115 []) [.sl .nil 0 0 0, .int .i64 n] h = some (.sl (.at h.length 0 0) 0 n 2, h ++ [.cells 0 true (reps n [V.int .i64 0, V.int .i64 0])]) := by
  refine Ok.eq ?_
  have h0' : 0 < (n : Int) := by omega
  have h2 : (n : Int) * 16 <= 35184372088832 /\ (n : Int) <= 35184372088832 := by omega
  (refine Ok.body body115 pin115 ?_; simp only [c115,Tryz.f115,Option.getD_some,nslot115,List.append_nil,List.map,List.replicate,List.length_cons,List.length_nil,Nat.reduceAdd,Nat.reduceSub,List.cons_append,List.nil_append])
  (repeat' (first | (simp -implicitDefEqProofs (maxSteps := 1000000) (disch := first | assumption | omega | (simp only [ZDI]; omega)) only [*,lenV,capV,appendZ,newBlk,Int.sub_zero,Int.toNat_natCast,G115,Za,Zb,Zc,Zd,Ze,Zf,Zg,Zh,Zi,Zj,Zk,Zl,Zm,Zn,Zo,Ja,Jb,Jc,J6,Jd,Je,J7,J8,Jf,Jg,Jh,Ji,Jj,Jk,J9,Jl,Jm,wr,Jn,JA,JB,Jo,Jp,Jq,Jr,Js,Jt,Ju,Jv,Jw,Jx,Jy,Jz,J0,J1,J2,J3,J4,J5,reduceCtorEq,JC,JD,JE,JF,JG,JH,JI,JJ]) | ((with_reducible (first | apply Ok.br | apply Ok.gd | apply Ok.ld)) <;> (intro g; (try simp only [ZGS] at g); try (exfalso; omega)))))
set_option maxHeartbeats 2000000 in
theorem concat_at {G : Heap} {B : Nat} {v0 : V} {L : List RP} (hB : hcells G B 0 = some (true, [v0])) (r0 : RowAt G v0 L) (h0 : L.length <= 5000) :
    Ev.Ok (D X (.fn 94 []) [.sl (.at B 0 0) 1 1 0] G) fun y => (L = [] /\ y = (.sl .nil 0 0 0, G)) \/ (0 < L.length /\ y = (.sl (.at G.length 0 0) L.length L.length 2, G ++ [.cells 0 true (flL L)])) := by
  refine Ok.aim fun Q hQ => ?_
  have hQ' := Hid.mk hQ
  clear hQ
  have hBl := hcells_lt hB
  have hz : ((0 : Nat) : Int) = 0 := rfl
  by_cases hL0 : L.length = 0
  · obtain rfl : L = [] := List.length_eq_zero_iff.1 hL0
    obtain ⟨a0, c0, z0, rfl⟩ := r0.none
    clear r0
    have hg := grow_0 G
    cases a0
    all_goals
      (refine Ok.body body94 pin94 ?_; simp only [c94,Tryz.f94,Option.getD_some,nslot94,List.append_nil,List.map,List.replicate,List.length_cons,List.length_nil,Nat.reduceAdd,Nat.reduceSub,List.cons_append,List.nil_append])
      (repeat' (first | (simp -implicitDefEqProofs (maxSteps := 1000000) (disch := first | assumption | omega | (simp only [ZDI]; omega)) only [*,lenV,List.length_nil,G94,Za,Zb,Zc,Zd,Ze,Zf,Zg,Zh,Zi,Zj,Zk,Zl,Zm,Zn,Zo,Ja,Jb,Jc,J6,Jd,Je,J7,J8,Jf,Jg,Jh,Ji,Jj,Jk,J9,Jl,Jm,wr,Jn,JA,JB,Jo,Jp,Jq,Jr,Js,Jt,Ju,Jv,Jw,Jx,Jy,Jz,J0,J1,J2,J3,J4,J5,reduceCtorEq,JC,JD,JE,JF,JG,JH,JI,JJ]) | ((with_reducible (first | apply Ok.br | apply Ok.gd | apply Ok.ld)) <;> (intro g; (try simp only [ZGS] at g); try (exfalso; omega)))))
      repeat (refine Ok.unroll ?_; (repeat' (first | (simp -implicitDefEqProofs (maxSteps := 1000000) (disch := first | assumption | omega | (simp only [ZDI]; omega)) only [*,lenV,List.length_nil,Int.zero_add,Int.add_zero,G94,Za,Zb,Zc,Zd,Ze,Zf,Zg,Zh,Zi,Zj,Zk,Zl,Zm,Zn,Zo,Ja,Jb,Jc,J6,Jd,Je,J7,J8,Jf,Jg,Jh,Ji,Jj,Jk,J9,Jl,Jm,wr,Jn,JA,JB,Jo,Jp,Jq,Jr,Js,Jt,Ju,Jv,Jw,Jx,Jy,Jz,J0,J1,J2,J3,J4,J5,reduceCtorEq,JC,JD,JE,JF,JG,JH,JI,JJ]) | ((with_reducible (first | apply Ok.br | apply Ok.gd | apply Ok.ld)) <;> (intro g; (try simp only [ZGS] at g); try (exfalso; omega))))))
      exact hQ'.out _ (.inl ⟨rfl, rfl⟩)
  · obtain ⟨b0, g0, o0, c0, z0, rw0, full0, rfl, hb0, hc0, ho0⟩ := r0.full hL0
    have hbl0 := hcells_lt hb0
    clear r0
    have hg := grow_n (n := L.length) (by omega) (by omega) G
    obtain ⟨d, hd1, hd2⟩ := zeros_fl L.length
    rw [hd2] at hg
    clear hd2
    have hdr : List.drop (L.length * 2) (fl d) = [] := List.drop_eq_nil_of_le (by rw [fl_len]; omega)
    (refine Ok.body body94 pin94 ?_; simp only [c94,Tryz.f94,Option.getD_some,nslot94,List.append_nil,List.map,List.replicate,List.length_cons,List.length_nil,Nat.reduceAdd,Nat.reduceSub,List.cons_append,List.nil_append])
    (repeat' (first | (simp -implicitDefEqProofs (maxSteps := 1000000) (disch := first | assumption | omega | (simp only [ZDI]; omega)) only [*,lenV,List.length_nil,G94,Za,Zb,Zc,Zd,Ze,Zf,Zg,Zh,Zi,Zj,Zk,Zl,Zm,Zn,Zo,Ja,Jb,Jc,J6,Jd,Je,J7,J8,Jf,Jg,Jh,Ji,Jj,Jk,J9,Jl,Jm,wr,Jn,JA,JB,Jo,Jp,Jq,Jr,Js,Jt,Ju,Jv,Jw,Jx,Jy,Jz,J0,J1,J2,J3,J4,J5,reduceCtorEq,JC,JD,JE,JF,JG,JH,JI,JJ]) | ((with_reducible (first | apply Ok.br | apply Ok.gd | apply Ok.ld)) <;> (intro g; (try simp only [ZGS] at g); try (exfalso; omega)))))
    repeat (refine Ok.unroll ?_; (repeat' (first | (simp -implicitDefEqProofs (maxSteps := 1000000) (disch := first | assumption | omega | (simp only [ZDI]; omega)) only [*,lenV,List.length_nil,Int.zero_add,Int.add_zero,flL_len,fl_len,G94,Za,Zb,Zc,Zd,Ze,Zf,Zg,Zh,Zi,Zj,Zk,Zl,Zm,Zn,Zo,Ja,Jb,Jc,J6,Jd,Je,J7,J8,Jf,Jg,Jh,Ji,Jj,Jk,J9,Jl,Jm,wr,Jn,JA,JB,Jo,Jp,Jq,Jr,Js,Jt,Ju,Jv,Jw,Jx,Jy,Jz,J0,J1,J2,J3,J4,J5,reduceCtorEq,JC,JD,JE,JF,JG,JH,JI,JJ]) | ((with_reducible (first | apply Ok.br | apply Ok.gd | apply Ok.ld)) <;> (intro g; (try simp only [ZGS] at g); try (exfalso; omega))))))
    exact hQ'.out _ (.inr ⟨by omega, rfl⟩)
theorem sortFunc_at {G : Heap} {b g n cap z : Nat} {d : Array RP} (hG : hcells G b g = some (true, fl d)) (hn : d.size = n) (hl : n <= 5000) :
    Ev.Ok (D X (.fn 95 []) [.sl (.at b g 0) n cap z, .fn 96 []] G) fun y => ∃ l d2, y = (.tup [], hs (G ++ l) b g d2) /\ PermIn 0 n d d2 /\ SortedIn ltR 0 n d2 := by
  refine Ok.aim fun Q hQ => ?_
  have hQ' := Hid.mk hQ
  clear hQ
  have hb := hcells_lt hG
  have hA : At G b g d G := ⟨[], by unfold hs; rw [List.append_nil]; exact (set_same' hG).symm⟩
  have hw : IntKind.u64.wrap (n : Int) = n := u64_nat (by omega)
  (refine Ok.body body95 pin95 ?_; simp only [c95,Tryz.f95,Option.getD_some,nslot95,List.append_nil,List.map,List.replicate,List.length_cons,List.length_nil,Nat.reduceAdd,Nat.reduceSub,List.cons_append,List.nil_append])
  (repeat' (first | (simp -implicitDefEqProofs (maxSteps := 1000000) (disch := first | assumption | omega | (simp only [ZDI]; omega)) only [*,lenV,G95,Za,Zb,Zc,Zd,Ze,Zf,Zg,Zh,Zi,Zj,Zk,Zl,Zm,Zn,Zo,Ja,Jb,Jc,J6,Jd,Je,J7,J8,Jf,Jg,Jh,Ji,Jj,Jk,J9,Jl,Jm,wr,Jn,JA,JB,Jo,Jp,Jq,Jr,Js,Jt,Ju,Jv,Jw,Jx,Jy,Jz,J0,J1,J2,J3,J4,J5,reduceCtorEq,JC,JD,JE,JF,JG,JH,JI,JJ]) | ((with_reducible (first | apply Ok.br | apply Ok.gd | apply Ok.ld)) <;> (intro g; (try simp only [ZGS] at g); try (exfalso; omega)))))
  refine Ok.bnd2 (len_at (by omega) G) fun y h3 ⟨L, hy, hL⟩ => ?_
  cases hy
  obtain ⟨k, rfl⟩ : ∃ k : Nat, L = k := ⟨L.toNat, by have := hL.1; omega⟩
  have hk : k <= 1000 := by have := hL.2.1; omega
  clear hL
  (repeat' (first | (simp -implicitDefEqProofs (maxSteps := 1000000) (disch := first | assumption | omega | (simp only [ZDI]; omega)) only [*,lenV,G95,Za,Zb,Zc,Zd,Ze,Zf,Zg,Zh,Zi,Zj,Zk,Zl,Zm,Zn,Zo,Ja,Jb,Jc,J6,Jd,Je,J7,J8,Jf,Jg,Jh,Ji,Jj,Jk,J9,Jl,Jm,wr,Jn,JA,JB,Jo,Jp,Jq,Jr,Js,Jt,Ju,Jv,Jw,Jx,Jy,Jz,J0,J1,J2,J3,J4,J5,reduceCtorEq,JC,JD,JE,JF,JG,JH,JI,JJ]) | ((with_reducible (first | apply Ok.br | apply Ok.gd | apply Ok.ld)) <;> (intro g; (try simp only [ZGS] at g); try (exfalso; omega)))))
  refine Ok.bnd2 (pdq_R refCmp ltR_swo hb n (i0 := 0) hA (by omega) (by omega) (by omega) ⟨by omega, Nat.le_refl _⟩ hk (.inl rfl)) fun y h3 ⟨G2, d2, hy, ⟨l, hG2⟩, hp, hs⟩ => ?_
  cases hy
  subst hG2
  (repeat' (first | (simp -implicitDefEqProofs (maxSteps := 1000000) (disch := first | assumption | omega | (simp only [ZDI]; omega)) only [*,lenV,G95,Za,Zb,Zc,Zd,Ze,Zf,Zg,Zh,Zi,Zj,Zk,Zl,Zm,Zn,Zo,Ja,Jb,Jc,J6,Jd,Je,J7,J8,Jf,Jg,Jh,Ji,Jj,Jk,J9,Jl,Jm,wr,Jn,JA,JB,Jo,Jp,Jq,Jr,Js,Jt,Ju,Jv,Jw,Jx,Jy,Jz,J0,J1,J2,J3,J4,J5,reduceCtorEq,JC,JD,JE,JF,JG,JH,JI,JJ]) | ((with_reducible (first | apply Ok.br | apply Ok.gd | apply Ok.ld)) <;> (intro g; (try simp only [ZGS] at g); try (exfalso; omega)))))
  exact hQ'.out _ ⟨l, d2, rfl, hp, hs⟩
theorem sort_0 (h : Heap) : D X (.fn 95 []) [.sl .nil 0 0 0, .fn 96 []] h = some (.tup [], h) := by
  have insort : ∀ (v fv : V) (h : Heap), D X (.fn 122 []) [v, .int .i64 0, .int .i64 0, fv] h = some (.tup [], h) := by
    intro v fv h
    refine Ok.eq ?_
    (refine Ok.body body122 pin122 ?_; simp only [c122,Tryz.f122,Option.getD_some,nslot122,List.append_nil,List.map,List.replicate,List.length_cons,List.length_nil,Nat.reduceAdd,Nat.reduceSub,List.cons_append,List.nil_append])
    (repeat' (first | (simp -implicitDefEqProofs (maxSteps := 1000000) (disch := first | assumption | omega | (simp only [ZDI]; omega)) only [*,G122,Za,Zb,Zc,Zd,Ze,Zf,Zg,Zh,Zi,Zj,Zk,Zl,Zm,Zn,Zo,Ja,Jb,Jc,J6,Jd,Je,J7,J8,Jf,Jg,Jh,Ji,Jj,Jk,J9,Jl,Jm,wr,Jn,JA,JB,Jo,Jp,Jq,Jr,Js,Jt,Ju,Jv,Jw,Jx,Jy,Jz,J0,J1,J2,J3,J4,J5,reduceCtorEq,JC,JD,JE,JF,JG,JH,JI,JJ]) | ((with_reducible (first | apply Ok.br | apply Ok.gd | apply Ok.ld)) <;> (intro g; (try simp only [ZGS] at g); try (exfalso; omega)))))
    (refine Ok.unroll ?_; (repeat' (first | (simp -implicitDefEqProofs (maxSteps := 1000000) (disch := first | assumption | omega | (simp only [ZDI]; omega)) only [*,G122,Za,Zb,Zc,Zd,Ze,Zf,Zg,Zh,Zi,Zj,Zk,Zl,Zm,Zn,Zo,Ja,Jb,Jc,J6,Jd,Je,J7,J8,Jf,Jg,Jh,Ji,Jj,Jk,J9,Jl,Jm,wr,Jn,JA,JB,Jo,Jp,Jq,Jr,Js,Jt,Ju,Jv,Jw,Jx,Jy,Jz,J0,J1,J2,J3,J4,J5,reduceCtorEq,JC,JD,JE,JF,JG,JH,JI,JJ]) | ((with_reducible (first | apply Ok.br | apply Ok.gd | apply Ok.ld)) <;> (intro g; (try simp only [ZGS] at g); try (exfalso; omega))))))
  have pdq : ∀ (v fv : V) (k : Int) (h : Heap), D X (.fn 116 []) [v, .int .i64 0, .int .i64 0, .int .i64 k, fv] h = some (.tup [], h) := by
    intro v fv k h
    refine Ok.eq ?_
    (refine Ok.body body116 pin116 ?_; simp only [c116,Tryz.f116,Option.getD_some,nslot116,List.append_nil,List.map,List.replicate,List.length_cons,List.length_nil,Nat.reduceAdd,Nat.reduceSub,List.cons_append,List.nil_append])
    (repeat' (first | (simp -implicitDefEqProofs (maxSteps := 1000000) (disch := first | assumption | omega | (simp only [ZDI]; omega)) only [*,G116,Za,Zb,Zc,Zd,Ze,Zf,Zg,Zh,Zi,Zj,Zk,Zl,Zm,Zn,Zo,Ja,Jb,Jc,J6,Jd,Je,J7,J8,Jf,Jg,Jh,Ji,Jj,Jk,J9,Jl,Jm,wr,Jn,JA,JB,Jo,Jp,Jq,Jr,Js,Jt,Ju,Jv,Jw,Jx,Jy,Jz,J0,J1,J2,J3,J4,J5,reduceCtorEq,JC,JD,JE,JF,JG,JH,JI,JJ]) | ((with_reducible (first | apply Ok.br | apply Ok.gd | apply Ok.ld)) <;> (intro g; (try simp only [ZGS] at g); try (exfalso; omega)))))
    (refine Ok.unroll ?_; (repeat' (first | (simp -implicitDefEqProofs (maxSteps := 1000000) (disch := first | assumption | omega | (simp only [ZDI]; omega)) only [*,insort,G116,Za,Zb,Zc,Zd,Ze,Zf,Zg,Zh,Zi,Zj,Zk,Zl,Zm,Zn,Zo,Ja,Jb,Jc,J6,Jd,Je,J7,J8,Jf,Jg,Jh,Ji,Jj,Jk,J9,Jl,Jm,wr,Jn,JA,JB,Jo,Jp,Jq,Jr,Js,Jt,Ju,Jv,Jw,Jx,Jy,Jz,J0,J1,J2,J3,J4,J5,reduceCtorEq,JC,JD,JE,JF,JG,JH,JI,JJ]) | ((with_reducible (first | apply Ok.br | apply Ok.gd | apply Ok.ld)) <;> (intro g; (try simp only [ZGS] at g); try (exfalso; omega))))))
  have len : D X (.fn 117 []) [.int .u64 0] h = some (.int .i64 0, h) := D_closed 8 (by kernel_rfl)
  refine Ok.eq ?_
  (refine Ok.body body95 pin95 ?_; simp only [c95,Tryz.f95,Option.getD_some,nslot95,List.append_nil,List.map,List.replicate,List.length_cons,List.length_nil,Nat.reduceAdd,Nat.reduceSub,List.cons_append,List.nil_append])
  (repeat' (first | (simp -implicitDefEqProofs (maxSteps := 1000000) (disch := first | assumption | omega | (simp only [ZDI]; omega)) only [*,pdq,len,lenV,wrap_u64_0,G95,Za,Zb,Zc,Zd,Ze,Zf,Zg,Zh,Zi,Zj,Zk,Zl,Zm,Zn,Zo,Ja,Jb,Jc,J6,Jd,Je,J7,J8,Jf,Jg,Jh,Ji,Jj,Jk,J9,Jl,Jm,wr,Jn,JA,JB,Jo,Jp,Jq,Jr,Js,Jt,Ju,Jv,Jw,Jx,Jy,Jz,J0,J1,J2,J3,J4,J5,reduceCtorEq,JC,JD,JE,JF,JG,JH,JI,JJ]) | ((with_reducible (first | apply Ok.br | apply Ok.gd | apply Ok.ld)) <;> (intro g; (try simp only [ZGS] at g); try (exfalso; omega)))))
theorem compact_0 (h : Heap) : D X (.fn 99 []) [.sl .nil 0 0 0] h = some (.sl .nil 0 0 0, h) := by
  refine Ok.eq ?_
  (refine Ok.body body99 pin99 ?_; simp only [c99,Tryz.f99,Option.getD_some,nslot99,List.append_nil,List.map,List.replicate,List.length_cons,List.length_nil,Nat.reduceAdd,Nat.reduceSub,List.cons_append,List.nil_append])
  (repeat' (first | (simp -implicitDefEqProofs (maxSteps := 1000000) (disch := first | assumption | omega | (simp only [ZDI]; omega)) only [*,lenV,G99,Za,Zb,Zc,Zd,Ze,Zf,Zg,Zh,Zi,Zj,Zk,Zl,Zm,Zn,Zo,Ja,Jb,Jc,J6,Jd,Je,J7,J8,Jf,Jg,Jh,Ji,Jj,Jk,J9,Jl,Jm,wr,Jn,JA,JB,Jo,Jp,Jq,Jr,Js,Jt,Ju,Jv,Jw,Jx,Jy,Jz,J0,J1,J2,J3,J4,J5,reduceCtorEq,JC,JD,JE,JF,JG,JH,JI,JJ]) | ((with_reducible (first | apply Ok.br | apply Ok.gd | apply Ok.ld)) <;> (intro g; (try simp only [ZGS] at g); try (exfalso; omega)))))
set_option maxHeartbeats 4000000 in
theorem compact_at {G : Heap} {b g n : Nat} {d : Array RP} (hG : hcells G b g = some (true, fl d)) (hn : d.size = n) (h0 : 0 < n) (hl : n <= 5000) (hne : ∀ i, 0 < i -> i < n -> ¬ d[i]! = d[i - 1]!) :
    D X (.fn 99 []) [.sl (.at b g 0) n n 2] G = some (.sl (.at b g 0) n n 2, G) := by
  refine Ok.eq ?_
  refine Ok.aim fun Q hQ => ?_
  have hQ' := Hid.mk hQ
  clear hQ
  have hb := hcells_lt hG
  have hne' := Hid.mk hne
  clear hne
  by_cases hn2 : n < 2
  · have hn2' : (n : Int) < 2 := by omega
    (refine Ok.body body99 pin99 ?_; simp only [c99,Tryz.f99,Option.getD_some,nslot99,List.append_nil,List.map,List.replicate,List.length_cons,List.length_nil,Nat.reduceAdd,Nat.reduceSub,List.cons_append,List.nil_append])
    (repeat' (first | (simp -implicitDefEqProofs (maxSteps := 1000000) (disch := first | assumption | omega | (simp only [ZDI]; omega)) only [*,lenV,G99,Za,Zb,Zc,Zd,Ze,Zf,Zg,Zh,Zi,Zj,Zk,Zl,Zm,Zn,Zo,Ja,Jb,Jc,J6,Jd,Je,J7,J8,Jf,Jg,Jh,Ji,Jj,Jk,J9,Jl,Jm,wr,Jn,JA,JB,Jo,Jp,Jq,Jr,Js,Jt,Ju,Jv,Jw,Jx,Jy,Jz,J0,J1,J2,J3,J4,J5,reduceCtorEq,JC,JD,JE,JF,JG,JH,JI,JJ]) | ((with_reducible (first | apply Ok.br | apply Ok.gd | apply Ok.ld)) <;> (intro g; (try simp only [ZGS] at g); try (exfalso; omega)))))
    exact hQ'.out _ rfl
  · have hn2' : ¬ (n : Int) < 2 := by omega
    (refine Ok.body body99 pin99 ?_; simp only [c99,Tryz.f99,Option.getD_some,nslot99,List.append_nil,List.map,List.replicate,List.length_cons,List.length_nil,Nat.reduceAdd,Nat.reduceSub,List.cons_append,List.nil_append])
    (repeat' (first | (simp -implicitDefEqProofs (maxSteps := 1000000) (disch := first | assumption | omega | (simp only [ZDI]; omega)) only [*,lenV,G99,Za,Zb,Zc,Zd,Ze,Zf,Zg,Zh,Zi,Zj,Zk,Zl,Zm,Zn,Zo,Ja,Jb,Jc,J6,Jd,Je,J7,J8,Jf,Jg,Jh,Ji,Jj,Jk,J9,Jl,Jm,wr,Jn,JA,JB,Jo,Jp,Jq,Jr,Js,Jt,Ju,Jv,Jw,Jx,Jy,Jz,J0,J1,J2,J3,J4,J5,reduceCtorEq,JC,JD,JE,JF,JG,JH,JI,JJ]) | ((with_reducible (first | apply Ok.br | apply Ok.gd | apply Ok.ld)) <;> (intro g; (try simp only [ZGS] at g); try (exfalso; omega)))))
    refine Ok.loop [BF, BF, BT, BT, BT, BT, BF, BF, BF, BF, BT, BT, BT, BT, BT, BT, BT, BT, BT, BT, BT, BT, BT, BT, BT, BT, BT, BT, BT, BT, BT, BT, BT, BT, BT, BT, BT, BT, BT, BT, BT, BT, BT, BT, BT, BT, BT, BT, BT, BT, BT, BT, BT, BT, BT, BT, BT, BT, BT, BT, BF] (fun m s2 => ∃ i : Nat, m = n - i /\ 0 < i /\ i <= n /\ tv s2.e 3 = .v (.int .i64 i) /\ s2.l = [] /\ s2.h = G)
      (fun x s2 => s2.l = [] /\ x = .exit 0 /\ s2.h = G) (n - 1) ⟨1, rfl, by omega, by omega, rfl, rfl, rfl⟩ ?_ ?_
    · intro m ⟨e', l', H'⟩ hW ⟨i, hm, hi0, hin, h3, k2, k3⟩
      dsimp only at hW h3 k2 k3
      subst l' H'
      rw [hW.spread]
      simp only [spread_t,spread_f,spread_n,Nat.zero_add,Nat.reduceAdd,h3]
      clear hW hQ'
      by_cases hlt : i < n
      · have hlt' : (i : Int) < (n : Int) := by omega
        have e1 : (i : Int) - 1 = ((i - 1 : Nat) : Int) := by omega
        have g1 : 0 <= (i : Int) /\ (i : Int) < (n : Int) := by omega
        have g2 : 0 <= ((i - 1 : Nat) : Int) /\ ((i - 1 : Nat) : Int) < (n : Int) := by omega
        have g3 : i < d.size := by omega
        have g4 : i - 1 < d.size := by omega
        have hxy := hne'.out i hi0 hlt
        have hnx : ∀ P : Prop, (¬ d[i]!.1 = d[i - 1]!.1 -> P) -> (d[i]!.1 = d[i - 1]!.1 -> ¬ d[i]!.2 = d[i - 1]!.2 -> P) -> P := fun P p q => by
            by_cases h1 : d[i]!.1 = d[i - 1]!.1
            · exact q h1 fun h2 => hxy (Prod.ext h1 h2)
            · exact p h1
        clear hxy
        apply hnx <;> clear hnx
        · intro hn1
          (repeat' (first | (simp -implicitDefEqProofs (maxSteps := 1000000) (disch := first | assumption | omega | (simp only [ZDI]; omega)) only [*,lenV,fl_len,fl_at,fl_at2,fl_set,eq_self,Array.size_setIfInBounds,pr_eta,SA.add,Nat.zero_add,G99,Za,Zb,Zc,Zd,Ze,Zf,Zg,Zh,Zi,Zj,Zk,Zl,Zm,Zn,Zo,Ja,Jb,Jc,J6,Jd,Je,J7,J8,Jf,Jg,Jh,Ji,Jj,Jk,J9,Jl,Jm,wr,Jn,JA,JB,Jo,Jp,Jq,Jr,Js,Jt,Ju,Jv,Jw,Jx,Jy,Jz,J0,J1,J2,J3,J4,J5,reduceCtorEq,JC,JD,JE,JF,JG,JH,JI,JJ]) | ((with_reducible (first | apply Ok.br | apply Ok.gd | apply Ok.ld)) <;> (intro g; (try simp only [ZGS] at g); try (exfalso; omega)))))
          exact Turn.next (n - (i + 1)) (by omega) ⟨rfl, i + 1, rfl, by omega, by omega, rfl, rfl, rfl⟩
        · intro hn1 hn2
          (repeat' (first | (simp -implicitDefEqProofs (maxSteps := 1000000) (disch := first | assumption | omega | (simp only [ZDI]; omega)) only [*,lenV,fl_len,fl_at,fl_at2,fl_set,eq_self,Array.size_setIfInBounds,pr_eta,SA.add,Nat.zero_add,G99,Za,Zb,Zc,Zd,Ze,Zf,Zg,Zh,Zi,Zj,Zk,Zl,Zm,Zn,Zo,Ja,Jb,Jc,J6,Jd,Je,J7,J8,Jf,Jg,Jh,Ji,Jj,Jk,J9,Jl,Jm,wr,Jn,JA,JB,Jo,Jp,Jq,Jr,Js,Jt,Ju,Jv,Jw,Jx,Jy,Jz,J0,J1,J2,J3,J4,J5,reduceCtorEq,JC,JD,JE,JF,JG,JH,JI,JJ]) | ((with_reducible (first | apply Ok.br | apply Ok.gd | apply Ok.ld)) <;> (intro g; (try simp only [ZGS] at g); try (exfalso; omega)))))
          exact Turn.next (n - (i + 1)) (by omega) ⟨rfl, i + 1, rfl, by omega, by omega, rfl, rfl, rfl⟩
      · have hlt' : ¬ (i : Int) < (n : Int) := by omega
        (repeat' (first | (simp -implicitDefEqProofs (maxSteps := 1000000) (disch := first | assumption | omega | (simp only [ZDI]; omega)) only [*,lenV,G99,Za,Zb,Zc,Zd,Ze,Zf,Zg,Zh,Zi,Zj,Zk,Zl,Zm,Zn,Zo,Ja,Jb,Jc,J6,Jd,Je,J7,J8,Jf,Jg,Jh,Ji,Jj,Jk,J9,Jl,Jm,wr,Jn,JA,JB,Jo,Jp,Jq,Jr,Js,Jt,Ju,Jv,Jw,Jx,Jy,Jz,J0,J1,J2,J3,J4,J5,reduceCtorEq,JC,JD,JE,JF,JG,JH,JI,JJ]) | ((with_reducible (first | apply Ok.br | apply Ok.gd | apply Ok.ld)) <;> (intro g; (try simp only [ZGS] at g); try (exfalso; omega)))))
        exact Turn.exit ⟨rfl, rfl, rfl, rfl⟩
    · intro x ⟨e', l', H'⟩ hW ⟨k2, hx, hh⟩
      dsimp only at hW k2 hx hh
      subst l' hx hh
      rw [hW.spread]
      clear hW
      simp only [spread_t,spread_f,spread_n,Nat.zero_add,Nat.reduceAdd]
      (repeat' (first | (simp -implicitDefEqProofs (maxSteps := 1000000) (disch := first | assumption | omega | (simp only [ZDI]; omega)) only [*,lenV,G99,Za,Zb,Zc,Zd,Ze,Zf,Zg,Zh,Zi,Zj,Zk,Zl,Zm,Zn,Zo,Ja,Jb,Jc,J6,Jd,Je,J7,J8,Jf,Jg,Jh,Ji,Jj,Jk,J9,Jl,Jm,wr,Jn,JA,JB,Jo,Jp,Jq,Jr,Js,Jt,Ju,Jv,Jw,Jx,Jy,Jz,J0,J1,J2,J3,J4,J5,reduceCtorEq,JC,JD,JE,JF,JG,JH,JI,JJ]) | ((with_reducible (first | apply Ok.br | apply Ok.gd | apply Ok.ld)) <;> (intro g; (try simp only [ZGS] at g); try (exfalso; omega)))))
      exact hQ'.out _ rfl
theorem sorted_of {L : List RP} {d2 : Array RP} {n : Nat} (hn : L.length = n) (hnd : L.Nodup) (hp : PermIn 0 n L.toArray d2) (hs : SortedIn ltR 0 n d2) :
    d2.size = n /\ fl d2 = flL (addsR [] L) /\ (∀ i, 0 < i -> i < n -> ¬ d2[i]! = d2[i - 1]!) := by
  have hsz : L.toArray.size = n := by simpa using hn
  have hs2 : d2.size = n := by rw [hp.1]; exact hsz
  have hpm : d2.toList.Perm L := by
    have h1 := hp.2.2
    have e1 : (L.toArray.extract 0 n).toList = L := by
      rw [Array.extract_eq_self_of_le (by omega)]
    have e2 : (d2.extract 0 n).toList = d2.toList := by
      rw [Array.extract_eq_self_of_le (by omega)]
    rw [e1, e2] at h1
    first | exact h1 | exact h1.symm
  have hnd2 : d2.toList.Nodup := hpm.nodup_iff.2 hnd
  have hget : ∀ i, i < n -> d2.toList[i]? = some d2[i]! := fun i hi => by
    rw [Array.getElem?_toList, getElem!_pos d2 i (by omega)]
    simp [hs2, hi]
  have hlt : ∀ i j, i < j -> j < n -> ltR d2[i]! d2[j]! = true := by
    intro i j hij hj
    cases h : ltR d2[i]! d2[j]! with
    | true => rfl
    | false =>
      exfalso
      have h2 := hs i j (by omega) hij hj
      have h3 := ltR_tot h h2
      have hi' := hget i (by omega)
      have hj' := hget j hj
      rw [h3] at hi'
      have := (List.getElem?_inj (l := d2.toList) (i := i) (j := j) (by rw [Array.length_toList]; omega) hnd2).1 (hi'.trans hj'.symm)
      omega
  refine ⟨hs2, ?_, fun i h0 hi he => ?_⟩
  · have hst : Strict d2.toList := by
      refine List.pairwise_iff_getElem.2 ?_
      intro i j hi hj hij
      rw [Array.length_toList] at hi hj
      have h1 := hlt i j hij (by omega)
      rw [getElem!_pos d2 i (by omega), getElem!_pos d2 j (by omega)] at h1
      simpa using h1
    have : d2.toList = addsR [] L := by
      refine strict_eq _ _ hst (addsR_strict L [] List.Pairwise.nil) fun x => ?_
      rw [addsR_mem]
      simp [hpm.mem_iff]
    unfold fl
    rw [this]
  · have := hlt (i - 1) i (by omega) hi
    rw [he] at this
    rw [ltR_swo.irrefl] at this
    cases this
set_option maxHeartbeats 1000000 in
theorem refs_at {G : Heap} {B : Nat} {v0 : V} {L : List RP} (hB : hcells G B 0 = some (true, [v0])) (r0 : RowAt G v0 L) (h0 : L.length <= 5000) (hnd : L.Nodup) :
    Ev.Ok (D X (.fn 62 []) [.sl (.at B 0 0) 1 1 0] G) fun y => (L = [] /\ y = (.sl .nil 0 0 0, G)) \/ ∃ l, 0 < L.length /\ y = (.sl (.at G.length 0 0) L.length L.length 2, G ++ .cells 0 true (flL (addsR [] L)) :: l) := by
  refine Ok.aim fun Q hQ => ?_
  have hQ' := Hid.mk hQ
  clear hQ
  (refine Ok.body body62 pin62 ?_; simp only [c62,Tryz.f62,Option.getD_some,nslot62,List.append_nil,List.map,List.replicate,List.length_cons,List.length_nil,Nat.reduceAdd,Nat.reduceSub,List.cons_append,List.nil_append])
  (repeat' (first | (simp -implicitDefEqProofs (maxSteps := 1000000) (disch := first | assumption | omega | (simp only [ZDI]; omega)) only [*,G62,Za,Zb,Zc,Zd,Ze,Zf,Zg,Zh,Zi,Zj,Zk,Zl,Zm,Zn,Zo,Ja,Jb,Jc,J6,Jd,Je,J7,J8,Jf,Jg,Jh,Ji,Jj,Jk,J9,Jl,Jm,wr,Jn,JA,JB,Jo,Jp,Jq,Jr,Js,Jt,Ju,Jv,Jw,Jx,Jy,Jz,J0,J1,J2,J3,J4,J5,reduceCtorEq,JC,JD,JE,JF,JG,JH,JI,JJ]) | ((with_reducible (first | apply Ok.br | apply Ok.gd | apply Ok.ld)) <;> (intro g; (try simp only [ZGS] at g); try (exfalso; omega)))))
  refine Ok.bnd2 (concat_at hB r0 h0) fun y h3 hG => ?_
  clear hB r0
  rcases hG with ⟨rfl, hy⟩ | ⟨hz, hy⟩
  · cases hy
    (repeat' (first | (simp -implicitDefEqProofs (maxSteps := 1000000) (disch := first | assumption | omega | (simp only [ZDI]; omega)) only [*,sort_0,compact_0,G62,Za,Zb,Zc,Zd,Ze,Zf,Zg,Zh,Zi,Zj,Zk,Zl,Zm,Zn,Zo,Ja,Jb,Jc,J6,Jd,Je,J7,J8,Jf,Jg,Jh,Ji,Jj,Jk,J9,Jl,Jm,wr,Jn,JA,JB,Jo,Jp,Jq,Jr,Js,Jt,Ju,Jv,Jw,Jx,Jy,Jz,J0,J1,J2,J3,J4,J5,reduceCtorEq,JC,JD,JE,JF,JG,JH,JI,JJ]) | ((with_reducible (first | apply Ok.br | apply Ok.gd | apply Ok.ld)) <;> (intro g; (try simp only [ZGS] at g); try (exfalso; omega)))))
    exact hQ'.out _ (.inl ⟨rfl, rfl⟩)
  · cases hy
    obtain ⟨n, hn⟩ : ∃ n, L.length = n := ⟨_, rfl⟩
    rw [hn] at h0 hz
    simp only [hn]
    have hsz : L.toArray.size = n := by simpa using hn
    have hcl' : hcells (G ++ [Blk.cells 0 true (flL L)]) G.length 0 = some (true, fl L.toArray) := hcells_new
    have hnd' := Hid.mk hnd
    clear hnd
    (repeat' (first | (simp -implicitDefEqProofs (maxSteps := 1000000) (disch := first | assumption | omega | (simp only [ZDI]; omega)) only [*,G62,Za,Zb,Zc,Zd,Ze,Zf,Zg,Zh,Zi,Zj,Zk,Zl,Zm,Zn,Zo,Ja,Jb,Jc,J6,Jd,Je,J7,J8,Jf,Jg,Jh,Ji,Jj,Jk,J9,Jl,Jm,wr,Jn,JA,JB,Jo,Jp,Jq,Jr,Js,Jt,Ju,Jv,Jw,Jx,Jy,Jz,J0,J1,J2,J3,J4,J5,reduceCtorEq,JC,JD,JE,JF,JG,JH,JI,JJ]) | ((with_reducible (first | apply Ok.br | apply Ok.gd | apply Ok.ld)) <;> (intro g; (try simp only [ZGS] at g); try (exfalso; omega)))))
    refine Ok.bnd2 (sortFunc_at hcl' hsz (by omega)) fun y h4 ⟨l, d2, hy, hp, hs⟩ => ?_
    cases hy
    obtain ⟨s1, s2, s3⟩ := sorted_of hn hnd'.out hp hs
    have hcd : hcells (Ev.hs (G ++ [Blk.cells 0 true (flL L)] ++ l) G.length 0 d2) G.length 0 = some (true, fl d2) := hcells_set_eq (by simp)
    have hcp := compact_at hcd s1 (by omega) (by omega) s3
    have hfin : Ev.hs (G ++ [Blk.cells 0 true (flL L)] ++ l) G.length 0 d2 = G ++ Blk.cells 0 true (flL (addsR [] L)) :: l := by
      unfold Ev.hs
      rw [s2, List.append_assoc, heap_set_ge (Nat.le_refl _), Nat.sub_self]
      rfl
    rw [hfin] at hcp ⊢
    clear hfin hcd hp hs s2 s3
    (repeat' (first | (simp -implicitDefEqProofs (maxSteps := 1000000) (disch := first | assumption | omega | (simp only [ZDI]; omega)) only [*,G62,Za,Zb,Zc,Zd,Ze,Zf,Zg,Zh,Zi,Zj,Zk,Zl,Zm,Zn,Zo,Ja,Jb,Jc,J6,Jd,Je,J7,J8,Jf,Jg,Jh,Ji,Jj,Jk,J9,Jl,Jm,wr,Jn,JA,JB,Jo,Jp,Jq,Jr,Js,Jt,Ju,Jv,Jw,Jx,Jy,Jz,J0,J1,J2,J3,J4,J5,reduceCtorEq,JC,JD,JE,JF,JG,JH,JI,JJ]) | ((with_reducible (first | apply Ok.br | apply Ok.gd | apply Ok.ld)) <;> (intro g; (try simp only [ZGS] at g); try (exfalso; omega)))))
    exact hQ'.out _ (.inr ⟨l, by omega, by rw [hn]⟩)
end Go.Ev.Q
namespace Go.Ev
open Go.ChangeMaps
theorem bodyOf_get {P : Program} {f : FuncId} {c : Code} {n : Nat} {rs : List ResultVar} (h : bodyOf P f = some (c, n, rs)) : ∃ fn, P.funcs[f]? = some fn /\ fn.body = some c /\ fn.ntmps = n /\ fn.results.toList = rs := by
  unfold bodyOf at h
  split at h
  · rename_i fn hf
    split at h
    · rename_i c' hc
      cases h
      exact ⟨fn, hf, hc, rfl, rfl⟩
    · cases h
  · cases h
section
variable {P : Program} {X : Env}
theorem walk_ok (hf : Fit P X) {f : FuncId} {c : Code} (hok : CodeOk (DOk X f) c) {s : St} {x : Ex} {s' : St} (hrun : evC X (D X) (Lo X f) f c s stopK = some (x, s')) {base : Nat} {ro : Option Nat} {K : KM} {L : KL} {a : Act} {w : World}
    (hs : @SB (goodOf X) base K L s a w) (hro : InR K ro) (hb : base <= w.heap.size) {Q : Exit -> Act -> World -> Prop} (hq : ∀ a' w' K' L', @SB (goodOf X) base K' L' s' a' w' -> Step K L w K' L' w' -> Q (exitOf x) a' w') : c.wpIn (FW ro) 0 P Q a w := by
  letI := goodOf X
  refine evC_ok hf.typesOk hf.ty hf.specD (hf.drawD hf.specD) (fun _ _ h => h) (hf.loops f) c hok base s _ (x, s') hrun ro K L a w hs hro hb Q fun x1 s1 a' w' K' L' hk hs' hst => ?_
  cases hk
  exact hq a' w' K' L' hs' hst
theorem walk_seq (hf : Fit P X) {f : FuncId} {c c2 : Code} (hok : CodeOk (DOk X f) c) {s s' : St} (hrun : evC X (D X) (Lo X f) f c s stopK = some (.normal, s')) {base : Nat} {ro : Option Nat} {K : KM} {L : KL} {a : Act} {w : World}
    (hs : @SB (goodOf X) base K L s a w) (hro : InR K ro) (hb : base <= w.heap.size) {Q : Exit -> Act -> World -> Prop} (hq : ∀ a' w' K' L', @SB (goodOf X) base K' L' s' a' w' -> Step K L w K' L' w' -> c2.wpIn (FW ro) 0 P Q a' w') : (Code.seq c c2).wpIn (FW ro) 0 P Q a w :=
  wpIn_seq (walk_ok hf hok hrun hs hro hb hq)
end
section
variable [Good] {P : Program} {K : KM} {L : KL} {w : World}
theorem exOps_pre (hT : TypesOk P) {X : Env} (hX : X.ty = tyOf P) {C : CallSem} (hS : Spec P C) {f : FuncId} {ops : List Oper} {base : Nat} (ro : Option Nat) {Q : Exit -> Act -> World -> Prop} {rest : List Oper} :
    ∀ (l : List Oper) (s s' : St) (K : KM) (L : KL) (a : Act) (w : World), exOps X C f ops l s = some s' -> SB base K L s a w ->
      (∀ a' w' K' L', SB base K' L' s' a' w' -> Step K L w K' L' w' -> wpListIn (FW ro) 0 P ops.toArray Q rest a' w') -> wpListIn (FW ro) 0 P ops.toArray Q (l ++ rest) a w
  | [], s, s', K, L, a, w, h, hs, hq => by
    simp only [exOps] at h
    cases h
    exact hq a w K L hs (Step.refl K L w)
  | o :: r, s, s', K, L, a, w, h, hs, hq => by
    simp only [exOps] at h
    obtain ⟨b, hb, h⟩ := bnd_some h
    obtain ⟨s1, h1, hR⟩ := bnd_some h
    have hwant := wanted_ok hb hs.env
    rw [List.cons_append]
    unfold wpListIn
    rw [hwant]
    rcases cnd_some h1 with ⟨rfl, h2⟩ | ⟨rfl, h2⟩
    · simp only [if_true]
      exact exOp_ok hT hX hS h2 hs ro fun a' w' K' L' hs' hst => exOps_pre hT hX hS ro r s1 s' K' L' a' w' hR hs' fun a2 w2 K2 L2 hs2 hst2 => hq a2 w2 K2 L2 hs2 (hst.trans hst2)
    · cases h2
      refine ⟨fun _ _ => trivial, ?_⟩
      exact exOps_pre hT hX hS ro r _ s' K L (a.put o.dst undef) w hR (hs.put o.dst (v := .u) rfl) hq
theorem SB.it {base : Nat} {s : St} {a : Act} (hs : SB base K L s a w) (d : Option Tmp) (r : Nat) : SB base K L (s.put d (.v (.it r))) (a.put d (.pointer (some ⟨r, 0, none⟩))) w :=
  hs.put d (v := .v (.it r)) (by simp [TVR, VR])
theorem range_it {base : Nat} {s : St} {a : Act} (hs : SB base K L s a w) {o : Oper} {t : TypeId} {x : Operand} (ho : o.op = .range t x) {k e : TypeId} (hu : P.underlying t = some (.map k e))
    {bm : Nat} (hx : a.eval x = .map (some bm)) {ents : Array MapEntry} {clk : Nat} (hb : w.heap[bm]? = some (.map ents clk)) (ro : Option Nat) {next : Act -> World -> Prop} {Q : Exit -> Act -> World -> Prop}
    (hn : ∀ a' w', SB base K L (s.put o.dst (.v (.it w.heap.size))) a' w' -> Step K L w K L w' -> w'.heap[w.heap.size]? = some (.mapIter (some bm) clk #[] clk) -> next a' w') : o.wpIn (FW ro) 0 P a w next Q := by
  refine opv_ok ro (by rw [ho]; simp) (y := .pointer (some ⟨w.heap.size, 0, none⟩)) (w' := w.alloc (.mapIter (some bm) clk #[] clk)) ?_ ?_
  · have := run_range_map (P := P) w t k e bm ents clk hu hb
    simp [execOp, ho, hx, this]
  · have hsz : w.heap.size <= (w.alloc (.mapIter (some bm) clk #[] clk)).heap.size := by
      show w.heap.size <= (w.heap.push _).size
      simp
    have hst : Step K L w K L (w.alloc (.mapIter (some bm) clk #[] clk)) :=
      ⟨KM.le_refl K, KL.le_refl L, hsz, fun B h1 _ => heap_alloc w _ B h1, fun o _ h => .inr ⟨o, h⟩, rfl, rfl, rfl, fun _ _ _ _ _ h => .inl ⟨_, _, _, _, h⟩, fun _ _ kl _ h => ⟨kl, h, fun _ => rfl, KL.le_refl kl⟩⟩
    exact hn _ _ ((hs.turn hsz fun B h1 _ => heap_alloc w _ B h1).it o.dst _) hst (heap_alloc_new w _)
end
theorem mapFun_ok {P : Program} {X : Env} (hf : Fit P X) {f : FuncId} {n : Nat} {rs : List ResultVar} {R0 R1 R3 R8 rest : Code} {i4 id5 id6 x0 b1 it t : Nat} {pre4 : List Oper} {o4 o5 x5 o6 : Oper} {tail6 : List Oper} {tm km em : TypeId} {x4 : Operand}
    (hbody : X.body f = some (.seq R0 (.seq R1 (.seq R3 (.seq (.seq (.region i4 (pre4 ++ [o4]).toArray false) (.block x0 (.loop (.seq (.region id5 #[o5, x5] false) (.seq (.cond (.tmp t) .skip (.exit x0)) (.block b1 (.seq (.region id6 (o6 :: tail6).toArray false) rest))))))) R8))), n, rs))
    (h4 : o4.op = .range tm x4) (g4 : o4.guard = none) (hu : P.underlying tm = some (.map km em)) (h5 : o5.op = .next (.tmp it) false) (g5 : o5.guard = none) (h6 : o6.op = .entry (.tmp it)) (g6 : o6.guard = none) (hx0 : x0 ≠ b1) (hit4 : o4.dst = some it)
    {nsl : Nat} {K : KM} {w : World} {args : List V} {h : Heap} {v : V} {h' : Heap} (hm : @Mem (goodOf X) K [] [] h w) {m : Nat} {ex : Bool} {es : List ME} {c : Nat} (hmap : h[m]? = some (.map ex es c))
    {s1 s2 s3 s4 : St} (e0 : evC X (D X) (Lo X f) f R0 ⟨args.map .v ++ List.replicate (n - args.length) .u, List.replicate nsl (0, []), h⟩ stopK = some (.normal, s1)) (e1 : evC X (D X) (Lo X f) f R1 s1 stopK = some (.normal, s2))
    (e3 : evC X (D X) (Lo X f) f R3 s2 stopK = some (.normal, s3)) (e4 : exOps X (D X) f (pre4 ++ [o4]) pre4 s3 = some s4) (hx4 : opd s4.e x4 = .v (.map m)) (hit : it < s4.e.length) (hm4 : s4.h[m]? = some (.map ex es c))
    (loop : ∀ (r : Nat) (es' : List ME) (c' : Nat), (es'.map unborn).Perm (es.map unborn) -> (ex = true -> es' = es /\ c' = c) -> (es'.map (·.1)).Nodup -> (es'.map (·.2.2)).Nodup -> ∃ (I : List ME -> St -> Prop) (F : St -> Prop), I [] (({ s4 with h := s4.h.set m (.map true es' c') } : St).put (some it) (.v (.it r))) /\
      (∀ dn s, I dn s -> getT s.e it = .v (.it r) /\ s.h[m]? = some (.map true es' c')) /\
      (∀ dn s, I dn s -> dn.Perm es' -> ∃ s1, exOps X (D X) f [o5, x5] [x5] (s.put o5.dst (.v (.tup [.bool false]))) = some s1 /\ getT s1.e t = .v (.bool false) /\ F s1) /\
      (∀ dn s e, I dn s -> e ∈ es' -> e ∉ dn -> ∃ s5 s6 s', exOps X (D X) f [o5, x5] [x5] (s.put o5.dst (.v (.tup [.bool true, e.1, e.2.1]))) = some s5 /\ getT s5.e t = .v (.bool true) /\ getT s5.e it = .v (.it r) /\ s5.h[m]? = some (.map true es' c') /\
        exOps X (D X) f (o6 :: tail6) tail6 (s5.put o6.dst (.v (.tup [e.1, e.2.1]))) = some s6 /\ evC X (D X) (Lo X f) f rest s6 stopK = some (.normal, s') /\ I (dn ++ [e]) s') /\
      (∀ s, F s -> ∃ x s', evC X (D X) (Lo X f) f R8 s stopK = some (x, s') /\ (x = .normal \/ x = .ret) /\ @Told (goodOf X) X rs K s' v h')) : @CallOk (goodOf X) P K w (.fn f []) args v h' := by
  letI := goodOf X
  have hb' := hbody
  rw [hf.body] at hb'
  obtain ⟨fn, hfn, hc, hn', hrs⟩ := bodyOf_get hb'
  have hname := hf.funcsOk f fn hfn (by simp [hc])
  have hcode := hf.code f _ hb'
  simp only [CodeOk] at hcode
  obtain ⟨k0, k1, k3, ⟨_, kl⟩, k8⟩ := hcode
  refine bodyCall_ok hf.ty hfn hc hname nsl hm fun a hs => ?_
  rw [List.append_nil, hn'] at hs
  rw [hrs]
  refine walk_seq hf k0 e0 hs (ro := none) (show InR _ none from trivial) (Nat.le_refl _) fun a1 w1 K1 L1 hs1 st1 => ?_
  refine walk_seq hf k1 e1 hs1 (ro := none) (show InR _ none from trivial) st1.size fun a2 w2 K2 L2 hs2 st2 => ?_
  refine walk_seq hf k3 e3 hs2 (ro := none) (show InR _ none from trivial) (Nat.le_trans st1.size st2.size) fun a3 w3 K3 L3 hs3 st3 => ?_
  have st03 := (st1.trans st2).trans st3
  refine wpIn_seq (wpIn_seq (wpIn_region_list ?_))
  have htl : (pre4 ++ [o4]).toArray.toList = pre4 ++ [o4] := by simp
  rw [htl]
  refine exOps_pre hf.typesOk hf.ty hf.specD none pre4 s3 s4 K3 L3 a3 w3 e4 hs3 fun a4 w4 K4 L4 hs4 st4 => ?_
  have st04 := st03.trans st4
  obtain ⟨es', c', bm, ents, hperm, hex, hmem, hKm, hbm, hmr⟩ := hs4.mem.exact hm4
  have hxv : a4.eval x4 = .map (some bm) := by
    have h1 := opd_ok hs4.env x4
    rw [hx4] at h1
    simp only [TVR,VR] at h1
    obtain ⟨B, h2, h3⟩ := h1
    rw [hKm] at h2; cases h2
    exact h3
  unfold wpListIn
  have hw4 : ∀ (a : Act), Region.wanted o4 (yielded (pre4 ++ [o4]).toArray a.tmps) = true := fun a => by unfold Region.wanted; rw [g4]
  rw [hw4]
  simp only [if_true]
  refine range_it (s := { s4 with h := s4.h.set m (.map true es' c') }) ⟨hs4.env, hmem, hs4.marks⟩ h4 hu hxv hbm none fun a5 w5 hs5 st5 hr5 => ?_
  rw [hit4] at hs5
  have hKe : (es'.map (·.1)).Nodup := hmr.keys
  obtain ⟨I, F, hI, hIt, hEnd, hGo, hFin⟩ := loop w4.heap.size es' c' hperm hex hmr.keys hmr.borns
  refine wpIn_block (wpIn_loop_rounds (es'.length + 1) ?_)
  have hlen0 : (notYet [] es').length < es'.length + 1 := by
    have := List.length_filter_le (fun e : ME => !(([] : List ME).map (·.2.2)).contains e.2.2) es'
    unfold notYet; omega
  refine mapLoop_ok hf.typesOk hf.ty hf.specD (hf.drawD hf.specD) (fun _ _ h => h) (hf.loops f) h5 g5 h6 g6 kl.2.2.2 hx0 I F hIt hEnd hGo (es'.length + 1) [] _ w.heap.size none K4 L4 a5 w5 hlen0 hI List.nodup_nil (fun e he => by cases he)
    hs5 trivial (Nat.le_trans st04.size st5.size) hKm ⟨c', by simpa using hr5, Nat.le_refl _⟩ _ fun s6 a6 w6 K6 L6 hF hs6 stx => ?_
  have stx2 := ((st04.trans st5).toX w4.heap.size).trans stx
  have st06 := stx2.ofNew st04.size
  obtain ⟨x, s', he8, hx, htold⟩ := hFin s6 hF
  unfold Exit.inBlock
  dsimp only
  rw [if_pos rfl]
  refine walk_ok hf k8 he8 hs6 (ro := none) (show InR _ none from trivial) st06.size fun a7 w7 K7 L7 hs7 st7 => ?_
  refine ⟨?_, s', K7, L7, hs7, st06.trans st7, htold⟩
  rcases hx with rfl | rfl
  · exact .inl rfl
  · exact .inr rfl
theorem mapFun_run {P : Program} {X : Env} (hf : Fit P X) {f : FuncId} {n : Nat} {rs : List ResultVar} {R0 R1 R3 R8 rest : Code} {i4 id5 id6 x0 b1 it t : Nat} {pre4 : List Oper} {o4 o5 x5 o6 : Oper} {tail6 : List Oper} {tm km em : TypeId} {x4 : Operand}
    (hbody : X.body f = some (.seq R0 (.seq R1 (.seq R3 (.seq (.seq (.region i4 (pre4 ++ [o4]).toArray false) (.block x0 (.loop (.seq (.region id5 #[o5, x5] false) (.seq (.cond (.tmp t) .skip (.exit x0)) (.block b1 (.seq (.region id6 (o6 :: tail6).toArray false) rest))))))) R8))), n, rs))
    (h4 : o4.op = .range tm x4) (g4 : o4.guard = none) (hu : P.underlying tm = some (.map km em)) (h5 : o5.op = .next (.tmp it) false) (g5 : o5.guard = none) (h6 : o6.op = .entry (.tmp it)) (g6 : o6.guard = none) (hx0 : x0 ≠ b1) (hit4 : o4.dst = some it)
    {nsl : Nat} {K : KM} {w : World} {args : List V} {h : Heap} {v : V} {h' : Heap} (hm : @Mem (goodOf X) K [] [] h w) {m : Nat} {ex : Bool} {es : List ME} {c : Nat} (hmap : h[m]? = some (.map ex es c))
    (runs : Ok (evC X (D X) (Lo X f) f R0 ⟨args.map .v ++ List.replicate (n - args.length) .u, List.replicate nsl (0, []), h⟩ stopK) fun p0 => p0.1 = .normal /\ Ok (evC X (D X) (Lo X f) f R1 p0.2 stopK) fun p1 => p1.1 = .normal /\
      Ok (evC X (D X) (Lo X f) f R3 p1.2 stopK) fun p3 => p3.1 = .normal /\ Ok (exOps X (D X) f (pre4 ++ [o4]) pre4 p3.2) fun s4 => opd s4.e x4 = .v (.map m) /\ it < s4.e.length /\ s4.h[m]? = some (.map ex es c) /\
      ∀ (r : Nat) (es' : List ME) (c' : Nat) (s5 : St), s5 = (({ s4 with h := s4.h.set m (.map true es' c') } : St).put (some it) (.v (.it r))) -> (es'.map unborn).Perm (es.map unborn) -> (ex = true -> es' = es /\ c' = c) -> (es'.map (·.1)).Nodup -> (es'.map (·.2.2)).Nodup -> ∃ (I : List ME -> St -> Prop) (F : St -> Prop), I [] s5 /\
      (∀ dn s, I dn s -> getT s.e it = .v (.it r) /\ s.h[m]? = some (.map true es' c')) /\
      (∀ dn s, I dn s -> dn.Perm es' -> Ok (exOps X (D X) f [o5, x5] [x5] (s.put o5.dst (.v (.tup [.bool false])))) fun s1 => getT s1.e t = .v (.bool false) /\ F s1) /\
      (∀ dn s e, I dn s -> e ∈ es' -> e ∉ dn -> Ok (exOps X (D X) f [o5, x5] [x5] (s.put o5.dst (.v (.tup [.bool true, e.1, e.2.1])))) fun s5 => getT s5.e t = .v (.bool true) /\ getT s5.e it = .v (.it r) /\ s5.h[m]? = some (.map true es' c') /\
        Ok (exOps X (D X) f (o6 :: tail6) tail6 (s5.put o6.dst (.v (.tup [e.1, e.2.1])))) fun s6 => Ok (evC X (D X) (Lo X f) f rest s6 stopK) fun p => p.1 = .normal /\ I (dn ++ [e]) p.2) /\
      (∀ s, F s -> Ok (evC X (D X) (Lo X f) f R8 s stopK) fun p => (p.1 = .normal \/ p.1 = .ret) /\ @Told (goodOf X) X rs K p.2 v h')) : @CallOk (goodOf X) P K w (.fn f []) args v h' := by
  obtain ⟨⟨x0', s1⟩, e0, rfl, ⟨x1', s2⟩, e1, rfl, ⟨x3', s3⟩, e3, rfl, s4, e4, hx4, hit, hm4, hloop⟩ := runs
  refine mapFun_ok hf hbody h4 g4 hu h5 g5 h6 g6 hx0 hit4 (nsl := nsl) hm hmap e0 e1 e3 e4 hx4 hit hm4 fun r es' c' hp hex hk hb => ?_
  obtain ⟨I, F, h1, h2, h3, h4, h5⟩ := hloop r es' c' _ rfl hp hex hk hb
  refine ⟨I, F, h1, h2, fun dn s hI hp => ?_, fun dn s e hI he hd => ?_, fun s hF => ?_⟩
  · obtain ⟨s1, a, b, c⟩ := h3 dn s hI hp
    exact ⟨s1, a, b, c⟩
  · obtain ⟨s5, a1, a2, a3, a4, s6, a5, ⟨x, s'⟩, a6, rfl, a7⟩ := h4 dn s e hI he hd
    exact ⟨s5, s6, s', a1, a2, a3, a4, a5, a6, a7⟩
  · obtain ⟨⟨x, s'⟩, a, b, c⟩ := h5 s hF
    exact ⟨x, s', a, b, c⟩
end Go.Ev
namespace Go.Ev
def keyP : V -> Option RP
  | .agg [.int .i64 a, .int .i64 b] => some (a, b)
  | _ => none
def keysM : List ME -> Option (List RP)
  | [] => some []
  | e :: es => bnd (keyP e.1) fun x => bnd (keysM es) fun xs => some (x :: xs)
def mapAtV (h : Heap) (b g o : Nat) : Option (Nat × List ME) :=
  bnd (hcells h b g) fun p => match p.2[o]? with
    | some (.map m) => (match h[m]? with | some (.map _ es _) => some (m, es) | _ => none)
    | _ => none
def refsG : List V -> List Blk -> Option (V × List Blk)
  | [.nilp], h => some (.sl .nil 0 0 0, h)
  | [.ptr b g o], h => bnd (mapAtV h b g o) fun q => bnd (keysM q.2) fun ks => grd (ks.length <= 5000)
      (match ks with | [] => some (.sl .nil 0 0 0, h) | _ => some (.sl (.at h.length 0 0) ks.length ks.length 2, h ++ [.cells 0 true (flL (addsR [] ks))]))
  | _, _ => none
def ownSl (h : Heap) (nx z : Nat) : V -> Option (V × List Blk)
  | .sl a n cap y => match a with
    | .nil => some (.sl .nil 0 0 0, [])
    | .any => cnd (decide (n = 0)) (some (.sl (.at nx 0 0) 0 0 0, [.cells 0 true []])) none
    | .at b g o => cnd (decide (n = 0)) (some (.sl (.at nx 0 0) 0 0 0, [.cells 0 true []]))
        (bnd (hcells h b g) fun p => grd (o + n * z <= p.2.length /\ n <= 5000) (some (.sl (.at (nx + 1) 0 0) n n z, [.cells 0 true [], .cells 0 true ((p.2.drop o).take (n * z))])))
  | _ => none
def ownG (h : Heap) (nx : Nat) : V -> Option (V × List Blk)
  | .agg cs => grd (cs.length = 16) <| bnd cs[13]? fun d => bnd cs[15]? fun p => bnd (ownSl h nx 1 d) fun q => bnd (ownSl h (nx + q.2.length) 2 p) fun r => some (.agg ((cs.set 13 q.1).set 15 r.1), q.2 ++ r.2)
  | _ => none
def ownsG (h : Heap) : Nat -> List ME -> Option (List ME × List Blk)
  | _, [] => some ([], [])
  | nx, e :: es => bnd (ownG h nx e.2.1) fun q => bnd (ownsG h (nx + q.2.length) es) fun r => some ((e.1, q.1, 0) :: r.1, q.2 ++ r.2)
def cloneG : List V -> List Blk -> Option (V × List Blk)
  | [.nilp], h => some (.nilp, h)
  | [.ptr b g o], h => bnd (mapAtV h b g o) fun q => bnd (keysM q.2) fun _ => bnd (ownsG h (h.length + 2) q.2) fun r =>
      some (.ptr (h.length + 1) 0 0, h ++ .map false r.1 r.1.length :: .cells 0 true [.map h.length] :: r.2)
  | _, _ => none
theorem keysM_len : ∀ {es : List ME} {ks : List RP}, keysM es = some ks -> ks.length = es.length
  | [], ks, h => by cases h; rfl
  | e :: es, ks, h => by
    obtain ⟨x, _, h⟩ := bnd_get h
    obtain ⟨xs, h1, h⟩ := bnd_get h
    cases h
    simp [keysM_len h1]
theorem keyP_some {v : V} {x : RP} (h : keyP v = some x) : v = .agg [.int .i64 x.1, .int .i64 x.2] := by
  unfold keyP at h
  split at h
  · cases h; rfl
  · cases h
theorem keysM_map : ∀ {es : List ME} {ks : List RP}, keysM es = some ks -> es.map (·.1) = ks.map fun x => .agg [.int .i64 x.1, .int .i64 x.2]
  | [], ks, h => by cases h; rfl
  | e :: es, ks, h => by
    obtain ⟨x, hx, h⟩ := bnd_get h
    obtain ⟨xs, h1, h⟩ := bnd_get h
    cases h
    simp only [List.map_cons,keysM_map h1,keyP_some hx]
theorem keysM_of : ∀ {es : List ME} {ks : List RP}, es.map (·.1) = ks.map (fun x => .agg [.int .i64 x.1, .int .i64 x.2]) -> keysM es = some ks
  | [], ks, h => by
    cases ks with
    | nil => rfl
    | cons x xs => simp at h
  | e :: es, ks, h => by
    cases ks with
    | nil => simp at h
    | cons x xs =>
      simp only [List.map_cons,List.cons.injEq] at h
      have h1 := keysM_of h.2
      unfold keysM
      rw [h.1, h1]
      rfl
theorem keysM_nodup {es : List ME} {ks : List RP} (h : keysM es = some ks) (hn : (es.map (·.1)).Nodup) : ks.Nodup := by
  rw [keysM_map h] at hn
  exact (List.pairwise_map.1 hn).imp fun h e => h (by rw [e])
theorem keysM_perm {es es' : List ME} {ks : List RP} (hp : (es'.map unborn).Perm (es.map unborn)) (h : keysM es = some ks) : ∃ ks', keysM es' = some ks' /\ ks'.Perm ks := by
  have h1 : (es'.map (·.1)).Perm (ks.map fun x => V.agg [.int .i64 x.1, .int .i64 x.2]) := by
    rw [<- keysM_map h]
    have := hp.map Prod.fst
    rw [List.map_map, List.map_map] at this
    exact this
  obtain ⟨l, h2, h3⟩ := perm_map_inv ks _ h1
  exact ⟨l, keysM_of h3, h2⟩
theorem keysM_snoc {e : ME} {x : RP} (hx : keyP e.1 = some x) : ∀ {es : List ME} {ks : List RP}, keysM es = some ks -> keysM (es ++ [e]) = some (ks ++ [x])
  | [], ks, h => by cases h; simp [keysM, hx, bnd]
  | y :: es, ks, h => by
    obtain ⟨z, hz, h⟩ := bnd_get h
    obtain ⟨xs, h1, h⟩ := bnd_get h
    cases h
    rw [List.cons_append]
    unfold keysM
    rw [hz, keysM_snoc hx h1]
    rfl
theorem keysM_get : ∀ {es : List ME} {ks : List RP}, keysM es = some ks -> ∀ e ∈ es, ∃ x, keyP e.1 = some x
  | [], ks, h, e, he => by cases he
  | y :: es, ks, h, e, he => by
    obtain ⟨z, hz, h⟩ := bnd_get h
    obtain ⟨xs, h1, h⟩ := bnd_get h
    rcases List.mem_cons.1 he with rfl | he
    · exact ⟨z, hz⟩
    · exact keysM_get h1 e he
theorem nodup_le {α : Type} : ∀ {l m : List α}, l.Nodup -> (∀ x ∈ l, x ∈ m) -> l.length <= m.length
  | [], m, _, _ => Nat.zero_le _
  | a :: l, m, h, k => by
    obtain ⟨s, t, rfl⟩ := List.append_of_mem (k a (by simp))
    obtain ⟨h1, h2⟩ := List.nodup_cons.1 h
    have := nodup_le (m := s ++ t) h2 fun x hx => by
      have hne : x ≠ a := fun e => h1 (e ▸ hx)
      have := k x (by simp [hx])
      simp only [List.mem_append,List.mem_cons] at this ⊢
      rcases this with h | h | h
      · exact .inl h
      · exact absurd h hne
      · exact .inr h
    simp only [List.length_append,List.length_cons] at this ⊢
    omega
theorem told_old [Good] {K : KM} {h : Heap} {w : World} (hm : Mem K [] [] h w) {m : Nat} {ex : Bool} {es es' : List ME} {c c' : Nat} (hmap : h[m]? = some (.map ex es c)) (hp : (es'.map unborn).Perm (es.map unborn)) (hex : ex = true -> es' = es /\ c' = c)
    {σ : Nat -> Nat} (hf : ∀ b, b < K.length -> σ b = b) {l : List Blk} {b : Nat} {x2 : Blk} (hx : h[b]? = some x2) : ∃ x1, (h.set m (.map true es' c') ++ l)[σ b]? = some x1 /\ (BlkTo σ x1 x2 \/ (x1 = x2 /\ OldB K x2)) := by
  have hb := (List.getElem?_eq_some_iff.1 hx).1
  have hbK : b < K.length := by rw [<- hm.hr.1]; exact hb
  rw [hf b hbK, List.getElem?_append_left (by simpa using hb)]
  have hold := hm.old hx
  by_cases e : m = b
  · subst e
    rw [hmap] at hx
    cases hx
    refine ⟨.map true es' c', by rw [List.getElem?_set_self hb], ?_⟩
    cases hxe : ex with
    | true =>
      obtain ⟨rfl, rfl⟩ := hex hxe
      rw [hxe] at hold
      exact .inr ⟨rfl, hold⟩
    | false =>
      refine .inl (.perm true es' es c' c ?_)
      have : (es.map fun e => (e.1, mapV σ e.2.1)) = es.map unborn := List.map_congr_left fun e he => by
        show (e.1, mapV σ e.2.1) = (e.1, e.2.1)
        rw [hold.map hf e he]
      rw [this]; exact hp
  · exact ⟨x2, by rw [List.getElem?_set_ne e]; exact hx, .inr ⟨rfl, hold⟩⟩
theorem mapAtV_some {h : Heap} {b g o : Nat} {q : Nat × List ME} (hq : mapAtV h b g o = some q) : ∃ rw cs ex c, hcells h b g = some (rw, cs) /\ cs[o]? = some (.map q.1) /\ h[q.1]? = some (.map ex q.2 c) := by
  unfold mapAtV at hq
  obtain ⟨⟨rw0, cs⟩, hbc, hq⟩ := bnd_get hq
  dsimp only at hq
  split at hq <;> try (cases hq; done)
  rename_i m' hco
  split at hq <;> try (cases hq; done)
  rename_i ex es2 c hmap
  cases hq
  exact ⟨rw0, cs, ex, c, hbc, hco, hmap⟩
theorem refsG_some {args : List V} {h h' : Heap} {v : V} (hr : refsG args h = some (v, h')) : (args = [.nilp] /\ v = .sl .nil 0 0 0 /\ h' = h) \/
    ∃ b g o m es ks, args = [.ptr b g o] /\ mapAtV h b g o = some (m, es) /\ keysM es = some ks /\ ks.length <= 5000 /\ ((ks = [] /\ v = .sl .nil 0 0 0 /\ h' = h) \/ (0 < ks.length /\ v = .sl (.at h.length 0 0) ks.length ks.length 2 /\ h' = h ++ [.cells 0 true (flL (addsR [] ks))])) := by
  unfold refsG at hr
  split at hr
  · cases hr; exact .inl ⟨rfl, rfl, rfl⟩
  · obtain ⟨⟨m, es⟩, hq, hr⟩ := bnd_get hr
    obtain ⟨ks, hks, hr⟩ := bnd_get hr
    obtain ⟨hlen, hr⟩ := grd_some' hr
    refine .inr ⟨_, _, _, m, es, ks, rfl, hq, hks, hlen, ?_⟩
    cases ks with
    | nil => cases hr; exact .inl ⟨rfl, rfl, rfl⟩
    | cons x xs => cases hr; exact .inr ⟨by simp, rfl, rfl⟩
  · cases hr
theorem vsame_elt (x y : RP) : vsame (elt x) (elt y) = decide (x = y) := by
  obtain ⟨a, b⟩ := x
  obtain ⟨c, d⟩ := y
  simp only [elt,vsame,vsames,decide_true,Bool.true_and,Bool.and_true]
  by_cases h1 : a = c <;> by_cases h2 : b = d <;> simp [h1, h2]
theorem keyP_elt {v : V} {x : RP} (h : keyP v = some x) : v = elt x := keyP_some h
theorem findM_none {x : RP} : ∀ {es : List ME} {ks : List RP}, keysM es = some ks -> x ∉ ks -> findM (elt x) es = none
  | [], ks, h, _ => rfl
  | e :: es, ks, h, hx => by
    obtain ⟨y, hy, h⟩ := bnd_get h
    obtain ⟨ys, h1, h⟩ := bnd_get h
    cases h
    have h2 := findM_none (x := x) h1 fun h => hx (by simp [h])
    unfold findM at h2 ⊢
    rw [List.find?_cons, keyP_elt hy, vsame_elt, decide_eq_false fun e => hx (by simp [e])]
    exact h2
theorem putM_new {x : RP} {v : V} {es : List ME} {ks : List RP} {c : Nat} (h : keysM es = some ks) (hx : x ∉ ks) : putM (elt x) v es c = (es ++ [(elt x, v, c)], c + 1) := by
  unfold putM
  rw [findM_none h hx]
end Go.Ev
set_option maxRecDepth 100000
namespace Go.Ev.Q
open Go.Ev renaming exPure -> Ja, ofValue -> Jb, cellsV -> Jc, load -> Jd, store -> Je, binOp -> Jf, intOp -> Jg, rdV -> Jh, vsame -> Ji, vsames -> Jj, makeSliceV -> Jk, resV -> Jl, isCell -> Jm, nilCheckV -> Jn, allV -> Jo, builtinV -> Jp, lenV -> Jq, indexAddrV -> Jr, unOp -> Js, minmaxV -> Jt, minmax -> Ju, sliceV -> Jv, asInt -> Jw, appendV -> Jx, forkB -> Jy, roY -> Jz, rwB -> J0, copyV -> J1, clearV -> J2, convV -> J3, sliceCells -> J4, shift -> J5
open Bool renaming true -> BT, false -> BF
open Nat renaming reduceEqDiff -> J6, reduceLT -> J7, reduceAdd -> J8, reduceBEq -> J9, reduceSub -> JA, reduceMul -> JB, reduceLeDiff -> JJ
open Int renaming reduceLT -> JC, reduceLE -> JD, reduceAdd -> JE, reduceSub -> JF, reduceNeg -> JG, reduceToNat -> JH, reduceEq -> JI
open Go.Proofs Go.Sort
theorem refs_nil (h : Heap) : D X (.fn 91 []) [.nilp] h = some (.sl .nil 0 0 0, h) := by
  refine Ok.eq ?_
  (refine Ok.body body91 pin91 ?_; simp only [c91,Tryz.f91,Option.getD_some,nslot91,List.append_nil,List.map,List.replicate,List.length_cons,List.length_nil,Nat.reduceAdd,Nat.reduceSub,List.cons_append,List.nil_append])
  (repeat' (first | (simp -implicitDefEqProofs (maxSteps := 1000000) (disch := first | assumption | omega | (simp only [ZDI]; omega)) only [*,G91,Za,Zb,Zc,Zd,Ze,Zf,Zg,Zh,Zi,Zj,Zk,Zl,Zm,Zn,Zo,Ja,Jb,Jc,J6,Jd,Je,J7,J8,Jf,Jg,Jh,Ji,Jj,Jk,J9,Jl,Jm,wr,Jn,JA,JB,Jo,Jp,Jq,Jr,Js,Jt,Ju,Jv,Jw,Jx,Jy,Jz,J0,J1,J2,J3,J4,J5,reduceCtorEq,JC,JD,JE,JF,JG,JH,JI,JJ]) | ((with_reducible (first | apply Ok.br | apply Ok.gd | apply Ok.ld)) <;> (intro g; (try simp only [ZGS] at g); try (exfalso; omega)))))
set_option maxHeartbeats 4000000 in
theorem refsPin : @PinOk (goodOf X0) Tryz.prog 91 (.s refsG) := by
  intro K w args h v h' hrun hm
  have hrun' : refsG args h = some (v, h') := hrun
  clear hrun
  rcases refsG_some hrun' with ⟨rfl, rfl, rfl⟩ | ⟨b, g, o, m, es, ks, rfl, hq, hks, hlen, hfin⟩
  · exact fit0.specD _ _ _ _ _ (refs_nil _) K w hm
  · clear hrun'
    obtain ⟨rw0, cs, ex, c, hbc, hco, hmap⟩ := mapAtV_some hq
    dsimp only at hco hmap
    clear hq
    have hco' : o < cs.length := (List.getElem?_eq_some_iff.1 hco).1
    have hkl := keysM_len hks
    have hml := (List.getElem?_eq_some_iff.1 hmap).1
    have hbl := hcells_lt hbc
    obtain ⟨n, hn⟩ : ∃ n, es.length = n := ⟨_, rfl⟩
    have hb := body91
    simp only [c91,Tryz.f91,Option.getD_some] at hb
    refine mapFun_run (pre4 := [_, _, _, _]) (tail6 := [_, _, _]) (tm := 123) (km := 24) (em := 32) (nsl := 2) fit0 hb rfl rfl (by kernel_rfl) rfl rfl rfl rfl (by decide) rfl hm hmap ?_
    simp only [List.map,List.replicate,List.length_cons,List.length_nil,Nat.reduceAdd,Nat.reduceSub,List.cons_append,List.nil_append]
    obtain ⟨d0, hd1, hd2⟩ := zeros_fl n
    have hgr : (n : Int) * 16 <= 281474976710656 /\ (n : Int) <= 35184372088832 := by omega
    have hmb : ¬ m = b := by
      rintro rfl
      unfold hcells at hbc
      rw [hmap] at hbc
      cases hbc
    have hfin2 := Hid.mk hfin
    have hm1 : (h ++ [Blk.cells 0 true (fl d0)])[m]? = some (.map ex es c) := by rw [List.getElem?_append_left hml]; exact hmap
    have hks2 := Hid.mk hks
    have hm2 := Hid.mk hm
    clear hfin hks hb hm
    (repeat' (first | (simp -implicitDefEqProofs (maxSteps := 1000000) (disch := first | assumption | omega | (simp only [ZDI]; omega)) only [*,lenV,G91,Za,Zb,Zc,Zd,Ze,Zf,Zg,Zh,Zi,Zj,Zk,Zl,Zm,Zn,Zo,Ja,Jb,Jc,J6,Jd,Je,J7,J8,Jf,Jg,Jh,Ji,Jj,Jk,J9,Jl,Jm,wr,Jn,JA,JB,Jo,Jp,Jq,Jr,Js,Jt,Ju,Jv,Jw,Jx,Jy,Jz,J0,J1,J2,J3,J4,J5,reduceCtorEq,JC,JD,JE,JF,JG,JH,JI,JJ]) | ((with_reducible (first | apply Ok.br | apply Ok.gd | apply Ok.ld)) <;> (intro g; (try simp only [ZGS] at g); try (exfalso; omega)))))
    intro r es' c' s5 hs5 hp hex hkn hbn
    obtain ⟨ks', hks', hkp⟩ := keysM_perm hp hks2.out
    have hn' : es'.length = n := by have := hp.length_eq; simp only [List.length_map] at this; omega
    have hksn := Hid.mk (hkp.nodup_iff.1 (keysM_nodup hks' hkn))
    have hex' := Hid.mk hex
    have hp' := Hid.mk hp
    clear hex hp hkp hm1
    obtain ⟨h1, hh1⟩ : ∃ h1, h1 = h.set m (.map true es' c') := ⟨_, rfl⟩
    have hl1 : h1.length = h.length := by rw [hh1]; simp
    have hm1 : ∀ x, (h1 ++ x)[m]? = some (.map true es' c') := fun x => by rw [List.getElem?_append_left (by omega), hh1, List.getElem?_set_self hml]
    rw [<- hh1] at hs5
    obtain ⟨e5, l5, H5⟩ := s5
    simp only [St.mk.injEq] at hs5
    obtain ⟨he5, rfl, rfl⟩ := hs5
    have hl1' := Hid.mk hl1
    have hh1' := Hid.mk hh1
    clear hh1 hl1 hbc hbl
    obtain ⟨N, hN⟩ : ∃ N, h.length = N := ⟨_, rfl⟩
    have hlN : h1.length = N := by rw [hl1'.out, hN]
    simp only [hN] at he5 ⊢
    refine ⟨fun dn s => ∃ (kd : List RP) (d : Array RP) (v0 v1 : Nat) (c0 c1 : List V), keysM dn = some kd /\ dn.Nodup /\ (∀ x ∈ dn, x ∈ es') /\ d.size = n /\ d.toList.take dn.length = kd /\ OutW [BF, BF, BF, BT, BT, BF, BF, BF, BF, BF, BF, BF, BF, BF, BF, BF, BF, BF, BT, BT, BT, BT, BT, BT, BT, BT, BF, BF, BF] e5 s.e /\
        tv s.e 3 = .v (.sl (.at N 0 0) dn.length n 0) /\ s.l = [(v0, c0), (v1, c1)] /\ s.h = h1 ++ [Blk.cells 0 true (fl d)],
      fun s => ∃ (d : Array RP) (v0 v1 : Nat) (c0 c1 : List V), d.size = n /\ d.toList.Perm ks /\ OutW [BF, BF, BF, BT, BT, BF, BF, BF, BF, BF, BF, BF, BF, BF, BF, BF, BF, BF, BT, BT, BT, BT, BT, BT, BT, BT, BF, BF, BF] e5 s.e /\
        tv s.e 3 = .v (.sl (.at N 0 0) n n 0) /\ s.l = [(v0, c0), (v1, c1)] /\ s.h = h1 ++ [Blk.cells 0 true (fl d)], ?a1, ?a2, ?a3, ?a4, ?a5⟩
    case a1 => exact ⟨[], d0, 0, 0, [], [], rfl, List.nodup_nil, (fun x hx => nomatch hx), hd1, rfl, rfl, by rw [he5]; rfl, rfl, rfl⟩
    case a2 =>
      intro dn ⟨e, l, H⟩ ⟨kd, d, v0, v1, c0, c1, _, _, _, _, _, hW, _, _, hH⟩
      dsimp only at hW hH
      subst H
      have hW2 := hW.spread
      rw [he5] at hW2
      rw [hW2]
      simp only [spread_t,spread_f,spread_n,Nat.zero_add,Nat.reduceAdd]
      exact ⟨rfl, hm1 _⟩
    case a3 =>
      intro dn ⟨e, l, H⟩ ⟨kd, d, v0, v1, c0, c1, hkd, hnd, hsub, hds, htk, hW, h3, hl, hH⟩ hperm
      dsimp only at hW hH hl h3
      subst H l
      have hW2 := hW.spread
      rw [he5] at hW2
      rw [hW2]
      simp only [spread_t,spread_f,spread_n,Nat.zero_add,Nat.reduceAdd,h3]
      have hdl : dn.length = n := by rw [hperm.length_eq, hn']
      obtain ⟨kd2, hk2, hk3⟩ := keysM_perm ((hperm.map unborn).trans hp'.out) hks2.out
      rw [hkd] at hk2
      cases hk2
      rw [hdl, List.take_of_length_le (by simp; omega)] at htk
      have htk' := Hid.mk htk
      have hk3' := Hid.mk hk3
      clear htk hk3 hsub hnd hkd hW hW2
      simp only [hdl]
      (repeat' (first | (simp -implicitDefEqProofs (maxSteps := 1000000) (disch := first | assumption | omega | (simp only [ZDI]; omega)) only [*,G91,Za,Zb,Zc,Zd,Ze,Zf,Zg,Zh,Zi,Zj,Zk,Zl,Zm,Zn,Zo,Ja,Jb,Jc,J6,Jd,Je,J7,J8,Jf,Jg,Jh,Ji,Jj,Jk,J9,Jl,Jm,wr,Jn,JA,JB,Jo,Jp,Jq,Jr,Js,Jt,Ju,Jv,Jw,Jx,Jy,Jz,J0,J1,J2,J3,J4,J5,reduceCtorEq,JC,JD,JE,JF,JG,JH,JI,JJ]) | ((with_reducible (first | apply Ok.br | apply Ok.gd | apply Ok.ld)) <;> (intro g; (try simp only [ZGS] at g); try (exfalso; omega)))))
      exact ⟨d, v0, v1, c0, c1, hds, by rw [htk'.out]; exact hk3'.out, rfl, rfl, rfl, rfl⟩
    case a4 =>
      intro dn ⟨e, l, H⟩ ⟨k0, vv, j0⟩ ⟨kd, d, v0, v1, c0, c1, hkd, hnd, hsub, hds, htk, hW, h3, hl, hH⟩ he hne
      dsimp only at hW hH hl h3
      subst H l
      have hW2 := hW.spread
      rw [he5] at hW2
      rw [hW2]
      simp only [spread_t,spread_f,spread_n,Nat.zero_add,Nat.reduceAdd,h3]
      obtain ⟨⟨x1, x2⟩, hkx⟩ := keysM_get hks' _ he
      have hsn := keysM_snoc hkx hkd
      obtain rfl := keyP_some hkx
      have hnd2 : (dn ++ [((V.agg [.int .i64 x1, .int .i64 x2], vv, j0) : ME)]).Nodup := List.nodup_append.2 ⟨hnd, by simp, fun a ha b hb => by rw [List.mem_singleton.1 hb]; rintro rfl; exact hne ha⟩
      have hsub2 : ∀ x ∈ dn ++ [((V.agg [.int .i64 x1, .int .i64 x2], vv, j0) : ME)], x ∈ es' := fun x hx => by
        rcases List.mem_append.1 hx with hx | hx
        · exact hsub x hx
        · rw [List.mem_singleton.1 hx]; exact he
      have hlt : dn.length < d.size := by
        have := nodup_le hnd2 hsub2
        simp only [List.length_append,List.length_cons,List.length_nil] at this
        omega
      have htk2 : (d.setIfInBounds dn.length (x1, x2)).toList.take (dn.length + 1) = kd ++ [(x1, x2)] := by rw [take_set hlt, htk]
      have hlt2 : dn.length + 1 <= n := by omega
      have hfs := fl_set x1 x2 hlt
      have hfl : (fl d).length = n * 2 := by rw [fl_len, hds]
      have hlt3 : dn.length * 2 + 2 <= n * 2 := by omega
      have g1 := Hid.mk hnd2
      have g2 := Hid.mk hsub2
      have g3 := Hid.mk htk2
      have g4 := Hid.mk hsn
      have g5 := Hid.mk hds
      clear hnd2 hsub2 htk2 hsn hkd hsub hnd htk hW hW2 he hne hks' hkx hkn hbn hds
      (repeat' (first | (simp -implicitDefEqProofs (maxSteps := 1000000) (disch := first | assumption | omega | (simp only [ZDI]; omega)) only [*,appendV,sliceCells,putBlk,splice,lenV,G91,Za,Zb,Zc,Zd,Ze,Zf,Zg,Zh,Zi,Zj,Zk,Zl,Zm,Zn,Zo,Ja,Jb,Jc,J6,Jd,Je,J7,J8,Jf,Jg,Jh,Ji,Jj,Jk,J9,Jl,Jm,wr,Jn,JA,JB,Jo,Jp,Jq,Jr,Js,Jt,Ju,Jv,Jw,Jx,Jy,Jz,J0,J1,J2,J3,J4,J5,reduceCtorEq,JC,JD,JE,JF,JG,JH,JI,JJ]) | ((with_reducible (first | apply Ok.br | apply Ok.gd | apply Ok.ld)) <;> (intro g; (try simp only [ZGS] at g); try (exfalso; omega)))))
      exact ⟨_, _, _, _, _, _, g4.out, g1.out, g2.out, by simpa using g5.out, by simpa using g3.out, rfl, rfl, rfl, rfl⟩
    case a5 =>
      intro ⟨e, l, H⟩ ⟨d, v0, v1, c0, c1, hds, hdp, hW, h3, hl, hH⟩
      dsimp only at hW hH hl h3
      subst H l
      have hW2 := hW.spread
      rw [he5] at hW2
      rw [hW2]
      simp only [spread_t,spread_f,spread_n,Nat.zero_add,Nat.reduceAdd,h3]
      clear hW hW2 hks' hkn hbn he5
      have hdp' := Hid.mk hdp
      have hds' := Hid.mk hds
      clear hdp hds
      (repeat' (first | (simp -implicitDefEqProofs (maxSteps := 1000000) (disch := first | assumption | omega | (simp only [ZDI]; omega)) only [*,hlN,G91,Za,Zb,Zc,Zd,Ze,Zf,Zg,Zh,Zi,Zj,Zk,Zl,Zm,Zn,Zo,Ja,Jb,Jc,J6,Jd,Je,J7,J8,Jf,Jg,Jh,Ji,Jj,Jk,J9,Jl,Jm,wr,Jn,JA,JB,Jo,Jp,Jq,Jr,Js,Jt,Ju,Jv,Jw,Jx,Jy,Jz,J0,J1,J2,J3,J4,J5,reduceCtorEq,JC,JD,JE,JF,JG,JH,JI,JJ]) | ((with_reducible (first | apply Ok.br | apply Ok.gd | apply Ok.ld)) <;> (intro g; (try simp only [ZGS] at g); try (exfalso; omega)))))
      have hdl : d.toList.length = n := by rw [Array.length_toList, hds'.out]
      have hB : hcells (h1 ++ [Blk.cells 0 true (fl d), .cells 0 true [.sl (.at N 0 0) n n 0]]) (N + 1) 0 = some (true, [.sl (.at N 0 0) n n 0]) := by
        rw [hcells_ge (by omega), hlN, Nat.add_sub_cancel_left]; rfl
      have hrow : RowAt (h1 ++ [Blk.cells 0 true (fl d), .cells 0 true [.sl (.at N 0 0) n n 0]]) (.sl (.at N 0 0) n n 0) d.toList := by
        have := row_head (g := h1 ++ [Blk.cells 0 true (fl d), .cells 0 true [.sl (.at N 0 0) n n 0]]) (b := N) (q := 0) (cap := n) (z := 0) (p := d.toList) (rest := []) (rw := true)
          (by rw [hcells_ge (by omega), hlN, Nat.sub_self, List.append_nil]; rfl) (by omega) (by omega)
        rw [hdl] at this; exact this
      have hadd : addsR [] d.toList = addsR [] ks := by
        refine strict_eq _ _ (addsR_strict _ [] List.Pairwise.nil) (addsR_strict _ [] List.Pairwise.nil) fun x => ?_
        rw [addsR_mem, addsR_mem]
        simp [hdp'.out.mem_iff]
      letI := goodOf X0
      have hKl : K.length = N := by rw [<- hm2.out.hr.1, hN]
      refine Ok.bnd2 (refs_at hB hrow (by omega) (hdp'.out.nodup_iff.2 hksn.out)) fun y h9 hy => ?_
      clear hB hrow
      rcases hy with ⟨hnil, hy⟩ | ⟨l, hpos, hy⟩
      · cases hy
        (repeat' (first | (simp -implicitDefEqProofs (maxSteps := 1000000) (disch := first | assumption | omega | (simp only [ZDI]; omega)) only [*,hlN,G91,Za,Zb,Zc,Zd,Ze,Zf,Zg,Zh,Zi,Zj,Zk,Zl,Zm,Zn,Zo,Ja,Jb,Jc,J6,Jd,Je,J7,J8,Jf,Jg,Jh,Ji,Jj,Jk,J9,Jl,Jm,wr,Jn,JA,JB,Jo,Jp,Jq,Jr,Js,Jt,Ju,Jv,Jw,Jx,Jy,Jz,J0,J1,J2,J3,J4,J5,reduceCtorEq,JC,JD,JE,JF,JG,JH,JI,JJ]) | ((with_reducible (first | apply Ok.br | apply Ok.gd | apply Ok.ld)) <;> (intro g; (try simp only [ZGS] at g); try (exfalso; omega)))))
        rcases hfin2.out with ⟨_, rfl, rfl⟩ | ⟨hp0, _⟩
        case inr => rw [hnil] at hdl; simp at hdl; omega
        refine ⟨⟨fun b => if b < N then b else b + 2, [.sl .nil 0 0 0], fun b b' => ?_, fun b hb => ?_, fun b hb => ?_, fun b hb => ?_, fun b x2 hx => ?_, rfl, rfl⟩⟩
        · dsimp only; split <;> split <;> omega
        · dsimp only; rw [if_pos (by omega)]
        · dsimp only; rw [if_pos (by omega), List.length_append, hlN]; omega
        · dsimp only; rw [if_neg (by omega), List.length_append, hlN]; simp only [List.length_cons,List.length_nil]; omega
        · dsimp only
          rw [hh1'.out]
          exact told_old (σ := fun b => if b < N then b else b + 2) hm2.out hmap hp'.out hex'.out (fun b hb => by (try dsimp only); rw [if_pos (by omega)]) hx
      · cases hy
        (repeat' (first | (simp -implicitDefEqProofs (maxSteps := 1000000) (disch := first | assumption | omega | (simp only [ZDI]; omega)) only [*,hlN,G91,Za,Zb,Zc,Zd,Ze,Zf,Zg,Zh,Zi,Zj,Zk,Zl,Zm,Zn,Zo,Ja,Jb,Jc,J6,Jd,Je,J7,J8,Jf,Jg,Jh,Ji,Jj,Jk,J9,Jl,Jm,wr,Jn,JA,JB,Jo,Jp,Jq,Jr,Js,Jt,Ju,Jv,Jw,Jx,Jy,Jz,J0,J1,J2,J3,J4,J5,reduceCtorEq,JC,JD,JE,JF,JG,JH,JI,JJ]) | ((with_reducible (first | apply Ok.br | apply Ok.gd | apply Ok.ld)) <;> (intro g; (try simp only [ZGS] at g); try (exfalso; omega)))))
        rcases hfin2.out with ⟨hnil, _, _⟩ | ⟨hp0, rfl, rfl⟩
        · rw [hnil] at hkl; simp at hkl; omega
        have hkn : ks.length = n := by omega
        refine ⟨⟨fun b => if b < N then b else if b = N then N + 2 else b + 2 + l.length, [.sl (.at (N + 2) 0 0) n n 2], fun b b' => ?_, fun b hb => ?_, fun b hb => ?_, fun b hb => ?_, fun b x2 hx => ?_, by simp [results, getT, bnd, hlN, hdl], ?_⟩⟩
        · dsimp only; (repeat' split) <;> omega
        · dsimp only; rw [if_pos (by omega)]
        · dsimp only
          simp only [List.length_append,List.length_cons,List.length_nil] at hb ⊢
          (repeat' split) <;> omega
        · dsimp only
          simp only [List.length_append,List.length_cons,List.length_nil] at hb ⊢
          rw [if_neg (by omega), if_neg (by omega)]; omega
        · by_cases hb : b < N
          · rw [List.getElem?_append_left (by omega)] at hx
            dsimp only
            rw [hh1'.out]
            exact told_old (σ := fun b => if b < N then b else if b = N then N + 2 else b + 2 + l.length) hm2.out hmap hp'.out hex'.out (fun b hb => by (try dsimp only); rw [if_pos (by omega)]) hx
          · rw [List.getElem?_append_right (by omega)] at hx
            have hb0 : b = N := by
              have := (List.getElem?_eq_some_iff.1 hx).1
              simp only [List.length_cons,List.length_nil] at this
              omega
            rw [hb0, hN, Nat.sub_self] at hx
            rw [hb0]
            simp only [List.getElem?_cons_zero,Option.some.injEq] at hx
            subst hx
            refine ⟨.cells 0 true (flL (addsR [] ks)), ?_, .inl ?_⟩
            · dsimp only
              rw [if_neg (by omega), if_pos rfl, List.getElem?_append_right (by omega)]
              simp [hlN]
            · have : (flL (addsR [] ks)).map (mapV fun b => if b < N then b else if b = N then N + 2 else b + 2 + l.length) = flL (addsR [] ks) := by
                generalize addsR [] ks = q
                induction q with
                | nil => rfl
                | cons x q ih => simp only [flL,List.map_cons,ih,mapV]
              have h8 := BlkTo.cells (σ := fun b => if b < N then b else if b = N then N + 2 else b + 2 + l.length) 0 true (flL (addsR [] ks))
              rw [this] at h8
              exact h8
        · simp [resV, mapV, mapA, hkn, hN]
end Go.Ev.Q
namespace Go.Ev
section
variable {α : Type} [DecidableEq α]
def offOf (f : α -> Nat) (a : α) : List α -> Nat
  | [] => 0
  | b :: l => if b = a then 0 else f b + offOf f a l
def totOf {α : Type} (f : α -> Nat) (l : List α) : Nat := (l.map f).sum
omit [DecidableEq α] in
theorem totOf_cons (f : α -> Nat) (a : α) (l : List α) : totOf f (a :: l) = f a + totOf f l := by simp [totOf]
omit [DecidableEq α] in
theorem perm_tot (f : α -> Nat) {l l' : List α} (h : l.Perm l') : totOf f l = totOf f l' := by
  unfold totOf
  induction h with
  | nil => rfl
  | cons a _ ih => simp [ih]
  | swap a b l => simp; omega
  | trans _ _ h1 h2 => exact h1.trans h2
theorem perm_num (f : α -> Nat) {l l' : List α} (h : l.Perm l') : l.Nodup -> ∃ σ : Nat -> Nat, (∀ x y, σ x = σ y -> x = y) /\ (∀ x, σ x < totOf f l ↔ x < totOf f l) /\
    ∀ a ∈ l, ∀ k, k < f a -> σ (offOf f a l' + k) = offOf f a l + k := by
  induction h with
  | nil => intro _; exact ⟨id, fun _ _ h => h, fun _ => Iff.rfl, fun a ha => by cases ha⟩
  | @cons a l l' hp ih =>
    intro hn
    obtain ⟨hna, hnl⟩ := List.nodup_cons.1 hn
    obtain ⟨σ, h1, h2, h3⟩ := ih hnl
    refine ⟨fun x => if x < f a then x else f a + σ (x - f a), fun x y hxy => ?_, fun x => ?_, fun c hc k hk => ?_⟩
    · dsimp only at hxy
      split at hxy <;> split at hxy
      · exact hxy
      · omega
      · omega
      · have := h1 (x - f a) (y - f a) (by omega); omega
    · dsimp only
      rw [totOf_cons]
      split
      · omega
      · have := h2 (x - f a); omega
    · dsimp only
      unfold offOf
      by_cases e : a = c
      · subst e; rw [if_pos rfl, if_pos (by omega), if_pos rfl]
      · rw [if_neg e, if_neg (by omega), if_neg e]
        have hc' : c ∈ l := (List.mem_cons.1 hc).resolve_left (Ne.symm e)
        have := h3 c hc' k hk
        rw [show f a + offOf f c l' + k - f a = offOf f c l' + k by omega, this]; omega
  | swap a b l =>
    intro hn
    have hab : b ≠ a := by
      have := (List.nodup_cons.1 hn).1
      intro e; subst e; exact this (by simp)
    refine ⟨fun x => if x < f a then f b + x else if x < f a + f b then x - f a else x, fun x y hxy => ?_, fun x => ?_, fun c hc k hk => ?_⟩
    · dsimp only at hxy
      split at hxy <;> split at hxy <;> (try split at hxy) <;> (try split at hxy) <;> omega
    · dsimp only
      rw [totOf_cons, totOf_cons]
      split
      · omega
      · split <;> omega
    · dsimp only
      unfold offOf
      by_cases e1 : a = c
      · subst e1
        rw [if_pos rfl, if_pos (by omega), if_neg hab]
        unfold offOf
        rw [if_pos rfl]; omega
      · rw [if_neg e1]
        unfold offOf
        by_cases e2 : b = c
        · subst e2
          rw [if_pos rfl, if_pos rfl, if_neg (by omega), if_pos (by omega)]; omega
        · rw [if_neg e2, if_neg e2, if_neg e1, if_neg (by omega), if_neg (by omega)]; omega
  | @trans l1 l2 l3 p1 p2 ih1 ih2 =>
    intro hn
    obtain ⟨σ1, a1, b1, c1⟩ := ih1 hn
    obtain ⟨σ2, a2, b2, c2⟩ := ih2 (p1.nodup_iff.1 hn)
    refine ⟨fun x => σ1 (σ2 x), fun x y h => a2 _ _ (a1 _ _ h), fun x => ?_, fun a ha k hk => ?_⟩
    · dsimp only
      rw [b1, perm_tot f p1, b2]
    · dsimp only
      rw [c2 a (p1.mem_iff.1 ha) k hk, c1 a ha k hk]
theorem offOf_of (f : α -> Nat) : ∀ (l : List α) (x : Nat), l.Nodup -> x < totOf f l -> ∃ a ∈ l, ∃ k, k < f a /\ x = offOf f a l + k
  | [], x, _, h => by simp [totOf] at h
  | b :: l, x, hn, h => by
    obtain ⟨h1, h2⟩ := List.nodup_cons.1 hn
    rw [totOf_cons] at h
    by_cases hx : x < f b
    · exact ⟨b, by simp, x, hx, by unfold offOf; rw [if_pos rfl]; omega⟩
    · obtain ⟨a, ha, k, hk, e⟩ := offOf_of f l (x - f b) h2 (by omega)
      refine ⟨a, by simp [ha], k, hk, ?_⟩
      unfold offOf
      rw [if_neg fun e => h1 (by rw [e]; exact ha)]
      omega
end
end Go.Ev
namespace Go.Ev
open Classical
theorem ownSl_cases {h : Heap} {nx z : Nat} {d d' : V} {bl : List Blk} (hr : ownSl h nx z d = some (d', bl)) :
    (∃ n c y, d = .sl .nil n c y /\ d' = .sl .nil 0 0 0 /\ bl = []) \/ (∃ a c y, d = .sl a 0 c y /\ a ≠ .nil /\ d' = .sl (.at nx 0 0) 0 0 0 /\ bl = [.cells 0 true []]) \/
    ∃ b g o n c y rw full, d = .sl (.at b g o) n c y /\ 0 < n /\ n <= 5000 /\ hcells h b g = some (rw, full) /\ o + n * z <= full.length /\ d' = .sl (.at (nx + 1) 0 0) n n z /\ bl = [.cells 0 true [], .cells 0 true ((full.drop o).take (n * z))] := by
  cases d with
  | sl a n c y =>
    cases a with
    | nil => cases hr; exact .inl ⟨n, c, y, rfl, rfl, rfl⟩
    | any =>
      by_cases hn : n = 0
      · subst hn; cases hr; exact .inr (.inl ⟨_, c, y, rfl, by simp, rfl, rfl⟩)
      · simp only [ownSl,decide_eq_false hn,cnd] at hr; cases hr
    | «at» b g o =>
      by_cases hn : n = 0
      · subst hn; cases hr; exact .inr (.inl ⟨_, c, y, rfl, by simp, rfl, rfl⟩)
      · simp only [ownSl,decide_eq_false hn,cnd] at hr
        obtain ⟨⟨rw0, full⟩, h1, hr⟩ := bnd_get hr
        obtain ⟨h2, hr⟩ := grd_some' hr
        cases hr
        exact .inr (.inr ⟨b, g, o, n, c, y, rw0, full, rfl, by omega, h2.2, h1, h2.1, rfl, rfl⟩)
  | _ => cases hr
theorem ownSl_at {h : Heap} {nx z b g o n c y : Nat} {rw : Bool} {full : List V} (h0 : 0 < n) (h1 : n <= 5000) (hc : hcells h b g = some (rw, full)) (hf : o + n * z <= full.length) :
    ownSl h nx z (.sl (.at b g o) n c y) = some (.sl (.at (nx + 1) 0 0) n n z, [.cells 0 true [], .cells 0 true ((full.drop o).take (n * z))]) := by
  simp only [ownSl,decide_eq_false (show ¬ n = 0 by omega),cnd,hc,bnd]
  unfold grd
  rw [if_pos ⟨hf, h1⟩]
theorem ownSl_empty {h : Heap} {nx z c y : Nat} {a : SA} (ha : a ≠ .nil) : ownSl h nx z (.sl a 0 c y) = some (.sl (.at nx 0 0) 0 0 0, [.cells 0 true []]) := by
  cases a with
  | nil => exact absurd rfl ha
  | any => rfl
  | «at» b g o => rfl
theorem ownSl_nx {h : Heap} {nx z : Nat} {d d' : V} {bl : List Blk} (hr : ownSl h nx z d = some (d', bl)) (nx' : Nat) :
    ∃ d'', ownSl h nx' z d = some (d'', bl) /\ ∀ σ : Nat -> Nat, (∀ k, k < bl.length -> σ (nx + k) = nx' + k) -> mapV σ d' = d'' := by
  rcases ownSl_cases hr with ⟨n, c, y, rfl, rfl, rfl⟩ | ⟨a, c, y, rfl, ha, rfl, rfl⟩ | ⟨b, g, o, n, c, y, rw, full, rfl, h0, h1, hc, hf, rfl, rfl⟩
  · exact ⟨_, rfl, fun σ _ => rfl⟩
  · exact ⟨_, ownSl_empty ha, fun σ hσ => by have := hσ 0 (by simp); simp only [Nat.add_zero] at this; simp only [mapV,mapA,this]⟩
  · exact ⟨_, ownSl_at h0 h1 hc hf, fun σ hσ => by have := hσ 1 (by simp); simp only [mapV,mapA,this]⟩
theorem ownSl_ext {h h2 : Heap} {nx z : Nat} {d d' : V} {bl : List Blk} (hr : ownSl h nx z d = some (d', bl)) (he : ∀ b g p, hcells h b g = some p -> hcells h2 b g = some p) : ownSl h2 nx z d = some (d', bl) := by
  rcases ownSl_cases hr with ⟨n, c, y, rfl, rfl, rfl⟩ | ⟨a, c, y, rfl, ha, rfl, rfl⟩ | ⟨b, g, o, n, c, y, rw, full, rfl, h0, h1, hc, hf, rfl, rfl⟩
  · rfl
  · exact ownSl_empty ha
  · exact ownSl_at h0 h1 (he _ _ _ hc) hf
theorem ownG_cases {h : Heap} {nx : Nat} {v v' : V} {bl : List Blk} (hr : ownG h nx v = some (v', bl)) :
    ∃ cs d p d' p' bd bp, v = .agg cs /\ cs.length = 16 /\ cs[13]? = some d /\ cs[15]? = some p /\ ownSl h nx 1 d = some (d', bd) /\ ownSl h (nx + bd.length) 2 p = some (p', bp) /\ v' = .agg ((cs.set 13 d').set 15 p') /\ bl = bd ++ bp := by
  cases v with
  | agg cs =>
    obtain ⟨h0, hr⟩ := grd_some' hr
    obtain ⟨d, h1, hr⟩ := bnd_get hr
    obtain ⟨p, h2, hr⟩ := bnd_get hr
    obtain ⟨⟨d', bd⟩, h3, hr⟩ := bnd_get hr
    obtain ⟨⟨p', bp⟩, h4, hr⟩ := bnd_get hr
    cases hr
    exact ⟨cs, d, p, d', p', bd, bp, rfl, h0, h1, h2, h3, h4, rfl, rfl⟩
  | _ => cases hr
theorem ownG_mk {h : Heap} {nx : Nat} {cs : List V} {d p d' p' : V} {bd bp : List Blk} (h0 : cs.length = 16) (h1 : cs[13]? = some d) (h2 : cs[15]? = some p) (h3 : ownSl h nx 1 d = some (d', bd)) (h4 : ownSl h (nx + bd.length) 2 p = some (p', bp)) :
    ownG h nx (.agg cs) = some (.agg ((cs.set 13 d').set 15 p'), bd ++ bp) := by
  simp only [ownG,h1,h2,h3,h4,bnd]
  exact if_pos h0
theorem ownG_nx {h : Heap} {nx : Nat} {v v' : V} {bl : List Blk} (hr : ownG h nx v = some (v', bl)) (nx' : Nat) :
    ∃ v'', ownG h nx' v = some (v'', bl) /\ ∀ σ : Nat -> Nat, (∀ k, k < bl.length -> σ (nx + k) = nx' + k) -> mapV σ v = v -> mapV σ v' = v'' := by
  obtain ⟨cs, d, p, d', p', bd, bp, rfl, h0, h1, h2, h3, h4, rfl, rfl⟩ := ownG_cases hr
  obtain ⟨d2, h5, h6⟩ := ownSl_nx h3 nx'
  obtain ⟨p2, h7, h8⟩ := ownSl_nx h4 (nx' + bd.length)
  refine ⟨_, ownG_mk h0 h1 h2 h5 h7, fun σ hσ hv => ?_⟩
  have e1 := h6 σ fun k hk => hσ k (by rw [List.length_append]; omega)
  have e2 := h8 σ fun k hk => by
    have := hσ (bd.length + k) (by rw [List.length_append]; omega)
    rw [Nat.add_assoc, this]; omega
  simp only [mapV,V.agg.injEq,mapVs_eq] at hv ⊢
  rw [List.map_set, List.map_set, hv, e1, e2]
theorem ownG_ext {h h2 : Heap} {nx : Nat} {v v' : V} {bl : List Blk} (hr : ownG h nx v = some (v', bl)) (he : ∀ b g p, hcells h b g = some p -> hcells h2 b g = some p) : ownG h2 nx v = some (v', bl) := by
  obtain ⟨cs, d, p, d', p', bd, bp, rfl, h0, h1, h2, h3, h4, rfl, rfl⟩ := ownG_cases hr
  exact ownG_mk h0 h1 h2 (ownSl_ext h3 he) (ownSl_ext h4 he)
def cntV (h : Heap) (u : V × V) : Nat := match ownG h 0 u.2 with | some r => r.2.length | none => 0
theorem cntV_eq {h : Heap} {nx : Nat} {k v v' : V} {bl : List Blk} (hr : ownG h nx v = some (v', bl)) : cntV h (k, v) = bl.length := by
  obtain ⟨v2, h2, _⟩ := ownG_nx hr 0
  unfold cntV
  rw [h2]
def valV (h : Heap) (nx : Nat) (v : V) : V := match ownG h nx v with | some r => r.1 | none => v
theorem valV_eq {h : Heap} {nx : Nat} {v v' : V} {bl : List Blk} (hr : ownG h nx v = some (v', bl)) : valV h nx v = v' := by
  unfold valV
  rw [hr]
theorem ownsG_spec {h : Heap} : ∀ (l : List ME) (nx : Nat) (ml : List ME) (bl : List Blk), ownsG h nx l = some (ml, bl) -> (l.map unborn).Nodup ->
    bl.length = totOf (cntV h) (l.map unborn) /\ ml.length = l.length /\ (∀ u ∈ l.map unborn, ∃ v' b1, ownG h (nx + offOf (cntV h) u (l.map unborn)) u.2 = some (v', b1) /\ ∀ k, k < b1.length -> bl[offOf (cntV h) u (l.map unborn) + k]? = b1[k]?) /\
    ml.map unborn = (l.map unborn).map fun u => (u.1, valV h (nx + offOf (cntV h) u (l.map unborn)) u.2)
  | [], nx, ml, bl, hr, _ => by
    cases hr
    exact ⟨rfl, rfl, fun u hu => by simp at hu, rfl⟩
  | e :: l, nx, ml, bl, hr, hn => by
    obtain ⟨⟨v', b0⟩, h1, hr⟩ := bnd_get hr
    obtain ⟨⟨m1, b1⟩, h2, hr⟩ := bnd_get hr
    cases hr
    dsimp only at h2
    rw [List.map_cons] at hn ⊢
    obtain ⟨hn1, hn2⟩ := List.nodup_cons.1 hn
    obtain ⟨a1, a2, a3, a4⟩ := ownsG_spec l _ _ _ h2 hn2
    have hc : cntV h (unborn e) = b0.length := cntV_eq (k := e.1) h1
    have hoff : ∀ u ∈ l.map unborn, offOf (cntV h) u (unborn e :: l.map unborn) = b0.length + offOf (cntV h) u (l.map unborn) := by
      intro u hu
      rw [offOf, if_neg fun e' => hn1 (by rw [e']; exact hu), hc]
    have hoff0 : offOf (cntV h) (unborn e) (unborn e :: l.map unborn) = 0 := by rw [offOf, if_pos rfl]
    refine ⟨by rw [totOf_cons, hc, List.length_append, a1], by simp [a2], fun u hu => ?_, ?_⟩
    · rcases List.mem_cons.1 hu with rfl | hu
      · rw [hoff0]
        refine ⟨v', b0, h1, fun k hk => ?_⟩
        dsimp only
        rw [Nat.zero_add, List.getElem?_append_left hk]
      · obtain ⟨v2, b2, h3, h4⟩ := a3 u hu
        rw [hoff u hu]
        refine ⟨v2, b2, by rw [<- Nat.add_assoc]; exact h3, fun k hk => ?_⟩
        dsimp only
        rw [List.getElem?_append_right (by omega), <- h4 k hk]
        congr 1; omega
    · simp only [List.map_cons]
      rw [a4]
      congr 1
      · rw [hoff0]
        show (e.1, v') = (e.1, valV h nx e.2.1)
        rw [valV_eq h1]
      · refine List.map_congr_left fun u hu => ?_
        rw [hoff u hu, Nat.add_assoc]
theorem ownsG_snoc {h : Heap} {e : ME} {v' : V} {b1 : List Blk} : ∀ {l : List ME} {nx : Nat} {ml : List ME} {bl : List Blk}, ownsG h nx l = some (ml, bl) -> ownG h (nx + bl.length) e.2.1 = some (v', b1) -> ownsG h nx (l ++ [e]) = some (ml ++ [(e.1, v', 0)], bl ++ b1)
  | [], nx, ml, bl, hr, h1 => by
    cases hr
    rw [List.length_nil, Nat.add_zero] at h1
    simp [ownsG, h1, bnd]
  | x :: l, nx, ml, bl, hr, h1 => by
    obtain ⟨⟨v0, b0⟩, h0, hr⟩ := bnd_get hr
    obtain ⟨⟨m1, b2⟩, h2, hr⟩ := bnd_get hr
    cases hr
    dsimp only at h2 h1
    rw [List.length_append, <- Nat.add_assoc] at h1
    have := ownsG_snoc h2 h1
    rw [List.cons_append]
    unfold ownsG
    rw [h0]
    show bnd (ownsG h (nx + b0.length) (l ++ [e])) _ = _
    rw [this]
    simp [bnd]
theorem ownsG_get {h : Heap} : ∀ {l : List ME} {nx : Nat} {r : List ME × List Blk}, ownsG h nx l = some r -> ∀ u ∈ l.map unborn, ∃ nx' r', ownG h nx' u.2 = some r'
  | x :: l, nx, r, hr, u, hu => by
    obtain ⟨q, h0, hr⟩ := bnd_get hr
    obtain ⟨r2, h2, hr⟩ := bnd_get hr
    rcases List.mem_cons.1 hu with rfl | hu
    · exact ⟨nx, q, h0⟩
    · exact ownsG_get h2 u hu
theorem ownG_plain {K : KM} {h : Heap} {w : World} [Good] (hm : Mem K [] [] h w) {nx : Nat} {v v' : V} {bl : List Blk} (hr : ownG h nx v = some (v', bl)) {σ : Nat -> Nat} (hf : ∀ b, b < K.length -> σ b = b) :
    ∀ x ∈ bl, ∃ c, x = .cells 0 true c /\ c.map (mapV σ) = c := by
  have key : ∀ {nx z : Nat} {d d' : V} {bl : List Blk}, ownSl h nx z d = some (d', bl) -> ∀ x ∈ bl, ∃ c, x = .cells 0 true c /\ c.map (mapV σ) = c := by
    intro nx z d d' bl hr x hx
    rcases ownSl_cases hr with ⟨n, c, y, rfl, rfl, rfl⟩ | ⟨a, c, y, rfl, ha, rfl, rfl⟩ | ⟨b, g, o, n, c, y, rw, full, rfl, h0, h1, hc, hf2, rfl, rfl⟩
    · cases hx
    · rw [List.mem_singleton.1 hx]; exact ⟨[], rfl, rfl⟩
    · rcases List.mem_cons.1 hx with rfl | hx
      · exact ⟨[], rfl, rfl⟩
      · rw [List.mem_singleton.1 hx]
        refine ⟨_, rfl, ?_⟩
        unfold hcells at hc
        cases hb : h[b]? with
        | none => rw [hb] at hc; cases hc
        | some blk =>
          rw [hb] at hc
          cases blk with
          | cells g' k c' =>
            obtain ⟨_, hc⟩ := grd_some' hc
            cases hc
            have := (hm.old hb).cells hf
            rw [List.map_take, List.map_drop, this]
          | map ex es c => cases hc
          | loop r => cases hc
  obtain ⟨cs, d, p, d', p', bd, bp, rfl, h0, h1, h2, h3, h4, rfl, rfl⟩ := ownG_cases hr
  intro x hx
  rcases List.mem_append.1 hx with hx | hx
  · exact key h3 x hx
  · exact key h4 x hx
theorem cloneG_some {args : List V} {h h' : Heap} {v : V} (hr : cloneG args h = some (v, h')) : (args = [.nilp] /\ v = .nilp /\ h' = h) \/
    ∃ b g o m es ec bc ks, args = [.ptr b g o] /\ mapAtV h b g o = some (m, es) /\ keysM es = some ks /\ ownsG h (h.length + 2) es = some (ec, bc) /\ v = .ptr (h.length + 1) 0 0 /\ h' = h ++ .map false ec ec.length :: .cells 0 true [.map h.length] :: bc := by
  unfold cloneG at hr
  split at hr
  · cases hr; exact .inl ⟨rfl, rfl, rfl⟩
  · obtain ⟨⟨m, es⟩, hq, hr⟩ := bnd_get hr
    obtain ⟨ks, hks, hr⟩ := bnd_get hr
    obtain ⟨⟨ec, bc⟩, hk, hr⟩ := bnd_get hr
    cases hr
    exact .inr ⟨_, _, _, m, es, ec, bc, ks, rfl, hq, hks, hk, rfl, rfl⟩
  · cases hr
theorem nodup_map_inj {α β : Type} {f : α -> β} : ∀ {l : List α}, (l.map f).Nodup -> ∀ x ∈ l, ∀ y ∈ l, f x = f y -> x = y
  | a :: l, h, x, hx, y, hy, e => by
    rw [List.map_cons] at h
    obtain ⟨h1, h2⟩ := List.nodup_cons.1 h
    rcases List.mem_cons.1 hx with hx1 | hx1 <;> rcases List.mem_cons.1 hy with hy1 | hy1
    · rw [hx1, hy1]
    · subst hx1
      exact absurd (List.mem_map.2 ⟨y, hy1, e.symm⟩) h1
    · subst hy1
      exact absurd (List.mem_map.2 ⟨x, hx1, e⟩) h1
    · exact nodup_map_inj h2 x hx1 y hy1 e
theorem keysM_mem {es : List ME} {ks : List RP} (h : keysM es = some ks) {x : RP} (hx : x ∈ ks) : ∃ e ∈ es, e.1 = elt x := by
  have h1 := keysM_map h
  have : elt x ∈ es.map (·.1) := by rw [h1]; exact List.mem_map.2 ⟨x, hx, rfl⟩
  obtain ⟨e, he, h2⟩ := List.mem_map.1 this
  exact ⟨e, he, h2⟩
theorem unborn_keys {a b : List ME} (h : a.map unborn = b.map unborn) : a.map (·.1) = b.map (·.1) := by
  have := congrArg (List.map Prod.fst) h
  rw [List.map_map, List.map_map] at this
  exact this
theorem ownsG_keys {h : Heap} : ∀ {l : List ME} {nx : Nat} {ml : List ME} {bl : List Blk}, ownsG h nx l = some (ml, bl) -> ml.map (·.1) = l.map (·.1)
  | [], nx, ml, bl, hr => by cases hr; rfl
  | x :: l, nx, ml, bl, hr => by
    obtain ⟨⟨v0, b0⟩, h0, hr⟩ := bnd_get hr
    obtain ⟨⟨m1, b2⟩, h2, hr⟩ := bnd_get hr
    cases hr
    simp [ownsG_keys h2]
theorem keysM_keys {a b : List ME} {ks : List RP} (h : a.map (·.1) = b.map (·.1)) (hb : keysM b = some ks) : keysM a = some ks := keysM_of (h.trans (keysM_map hb))
theorem clone_told [Good] {K : KM} {h : Heap} {w : World} (hm : Mem K [] [] h w) {m : Nat} {ex : Bool} {es es' dn : List ME} {c c' : Nat} (hmap : h[m]? = some (.map ex es c)) (hp : (es'.map unborn).Perm (es.map unborn)) (hex : ex = true -> es' = es /\ c' = c)
    (hd : dn.Perm es') (hkn : (es'.map (·.1)).Nodup) {ec md mm : List ME} {bc bd : List Blk} {clk : Nat} (he : ownsG h (h.length + 2) es = some (ec, bc)) (hdn : ownsG h (h.length + 2) dn = some (md, bd)) (hmm : mm.map unborn = md.map unborn)
    {X : Env} {rs : List ResultVar} {e : List TV} {l : Locs} (hr : results X ⟨e, l, h.set m (.map true es' c') ++ .map true mm clk :: .cells 0 true [.map h.length] :: bd⟩ rs = some [.ptr (h.length + 1) 0 0]) :
    Told X rs K ⟨e, l, h.set m (.map true es' c') ++ .map true mm clk :: .cells 0 true [.map h.length] :: bd⟩ (.ptr (h.length + 1) 0 0) (h ++ .map false ec ec.length :: .cells 0 true [.map h.length] :: bc) := by
  obtain ⟨N, hN⟩ : ∃ N, h.length = N := ⟨_, rfl⟩
  have hKl : K.length = N := by rw [<- hm.hr.1, hN]
  have hperm : (dn.map unborn).Perm (es.map unborn) := (hd.map unborn).trans hp
  have hnd' : (es'.map unborn).Nodup := by
    rw [List.Nodup, List.pairwise_map] at hkn ⊢
    exact hkn.imp fun {a b} h (e : unborn a = unborn b) => h (congrArg (fun u : V × V => u.1) e)
  have hnd : (dn.map unborn).Nodup := (hd.map unborn).nodup_iff.2 hnd'
  have hne : (es.map unborn).Nodup := hperm.nodup_iff.1 hnd
  obtain ⟨a1, a2, a3, a4⟩ := ownsG_spec _ _ _ _ he hne
  obtain ⟨b1, b2, b3, b4⟩ := ownsG_spec _ _ _ _ hdn hnd
  obtain ⟨τ, t1, t2, t3⟩ := perm_num (cntV h) hperm hnd
  have htot : bd.length = bc.length := by rw [a1, b1, perm_tot _ hperm]
  have hset : (h.set m (.map true es' c')).length = N := by simp [hN]
  let σ : Nat -> Nat := fun b => if b < N + 2 then b else N + 2 + τ (b - (N + 2))
  have hσ0 : ∀ b, b < N + 2 -> σ b = b := fun b hb => if_pos hb
  have hσ1 : ∀ x, σ (N + 2 + x) = N + 2 + τ x := fun x => by
    simp only [σ]
    rw [if_neg (by omega), Nat.add_sub_cancel_left]
  have hfix : ∀ b, b < K.length -> σ b = b := fun b hb => hσ0 b (by omega)
  have hchunk : ∀ u ∈ es.map unborn, ∀ k, k < cntV h u -> σ (N + 2 + offOf (cntV h) u (es.map unborn) + k) = N + 2 + offOf (cntV h) u (dn.map unborn) + k := fun u hu k hk => by
    rw [Nat.add_assoc, hσ1, t3 u (hperm.mem_iff.2 hu) k hk]; omega
  have hold := hm.old hmap
  refine ⟨⟨σ, [.ptr (h.length + 1) 0 0], fun b b' hbb => ?_, hfix, fun b hb => ?_, fun b hb => ?_, fun b x2 hx => ?_, hr, ?_⟩⟩
  · simp only [σ] at hbb
    split at hbb <;> split at hbb
    · exact hbb
    · omega
    · omega
    · have := t1 (b - (N + 2)) (b' - (N + 2)) (by omega)
      omega
  · simp only [List.length_append,List.length_cons,hN,hset] at hb ⊢
    simp only [σ]
    split
    · omega
    · have := (t2 (b - (N + 2))).2 (by omega)
      omega
  · simp only [List.length_append,List.length_cons,hN,hset] at hb ⊢
    simp only [σ]
    rw [if_neg (by omega)]
    have h6 := (not_congr (t2 (b - (N + 2)))).2 (by omega)
    omega
  · by_cases hb : b < N
    · rw [List.getElem?_append_left (by omega)] at hx
      exact told_old hm hmap hp hex hfix hx
    · rw [List.getElem?_append_right (by omega), hN] at hx
      by_cases hb0 : b = N
      · rw [hb0, Nat.sub_self] at hx
        cases hx
        refine ⟨.map true mm clk, ?_, .inl (.perm true mm ec clk ec.length ?_)⟩
        · dsimp only
          rw [hb0, hσ0 N (by omega), List.getElem?_append_right (by omega), hset, Nat.sub_self]; rfl
        · rw [hmm, b4]
          have e1 : (ec.map fun e => (e.1, mapV σ e.2.1)) = (ec.map unborn).map fun u => (u.1, mapV σ u.2) := by rw [List.map_map]; rfl
          rw [e1, a4]
          have e2 : (((es.map unborn).map fun u => (u.1, valV h (h.length + 2 + offOf (cntV h) u (es.map unborn)) u.2)).map fun u : V × V => (u.1, mapV σ u.2)) = (es.map unborn).map fun u => (u.1, valV h (h.length + 2 + offOf (cntV h) u (dn.map unborn)) u.2) := by
            conv => lhs; rw [List.map_map]
            refine List.map_congr_left fun u hu => ?_
            obtain ⟨v', q1, h3, _⟩ := a3 u hu
            obtain ⟨v'', h4, h5⟩ := ownG_nx h3 (h.length + 2 + offOf (cntV h) u (dn.map unborn))
            show (u.1, mapV σ (valV h _ u.2)) = _
            rw [valV_eq h3, valV_eq h4]
            have hc : cntV h u = q1.length := cntV_eq (k := u.1) h3
            obtain ⟨e0, he0, hue⟩ := List.mem_map.1 hu
            rw [h5 σ (fun k hk => by rw [hN]; exact hchunk u hu k (by omega)) (by rw [<- hue]; exact hold.map hfix e0 he0)]
          rw [e2]
          exact hperm.map _
      · by_cases hb1 : b = N + 1
        · rw [hb1, Nat.add_sub_cancel_left] at hx
          cases hx
          refine ⟨.cells 0 true [.map h.length], ?_, .inl ?_⟩
          · dsimp only
            rw [hb1, hσ0 (N + 1) (by omega), List.getElem?_append_right (by omega), hset, Nat.add_sub_cancel_left]; rfl
          · have h8 := BlkTo.cells (σ := σ) 0 true [.map h.length]
            simp only [List.map_cons,List.map_nil,mapV,hN,hσ0 N (by omega)] at h8
            rw [hN]; exact h8
        · obtain ⟨x, hbx⟩ : ∃ x, b = N + 2 + x := ⟨b - (N + 2), by omega⟩
          rw [hbx, show N + 2 + x - N = x + 1 + 1 by omega, List.getElem?_cons_succ, List.getElem?_cons_succ] at hx
          have hxl := (List.getElem?_eq_some_iff.1 hx).1
          obtain ⟨u, hu, k, hk, rfl⟩ := offOf_of (cntV h) _ x hne (by omega)
          obtain ⟨v', q1, h3, h4⟩ := a3 u hu
          obtain ⟨v2, q2, h5, h6⟩ := b3 u (hperm.mem_iff.2 hu)
          obtain ⟨v3, h7, _⟩ := ownG_nx h3 (h.length + 2 + offOf (cntV h) u (dn.map unborn))
          rw [h5] at h7
          cases h7
          have hc : cntV h u = q1.length := cntV_eq (k := u.1) h3
          rw [h4 k (by omega)] at hx
          obtain ⟨cc, rfl, hcc⟩ := ownG_plain hm h3 hfix x2 (List.mem_of_getElem? hx)
          refine ⟨.cells 0 true cc, ?_, .inl ?_⟩
          · dsimp only
            rw [hbx, <- Nat.add_assoc, hchunk u hu k hk, List.getElem?_append_right (by omega), hset, show N + 2 + offOf (cntV h) u (dn.map unborn) + k - N = offOf (cntV h) u (dn.map unborn) + k + 1 + 1 by omega, List.getElem?_cons_succ, List.getElem?_cons_succ, h6 k (by omega)]
            exact hx
          · have h8 := BlkTo.cells (σ := σ) 0 true cc
            rw [hcc] at h8
            exact h8
  · simp only [resV,mapV]
    rw [hN, hσ0 (N + 1) (by omega)]
end Go.Ev
set_option maxRecDepth 100000
namespace Go.Ev.Q
open Go.Ev renaming exPure -> Ja, ofValue -> Jb, cellsV -> Jc, load -> Jd, store -> Je, binOp -> Jf, intOp -> Jg, rdV -> Jh, vsame -> Ji, vsames -> Jj, makeSliceV -> Jk, resV -> Jl, isCell -> Jm, nilCheckV -> Jn, allV -> Jo, builtinV -> Jp, lenV -> Jq, indexAddrV -> Jr, unOp -> Js, minmaxV -> Jt, minmax -> Ju, sliceV -> Jv, asInt -> Jw, appendV -> Jx, forkB -> Jy, roY -> Jz, rwB -> J0, copyV -> J1, clearV -> J2, convV -> J3, sliceCells -> J4, shift -> J5
open Bool renaming true -> BT, false -> BF
open Nat renaming reduceEqDiff -> J6, reduceLT -> J7, reduceAdd -> J8, reduceBEq -> J9, reduceSub -> JA, reduceMul -> JB, reduceLeDiff -> JJ
open Int renaming reduceLT -> JC, reduceLE -> JD, reduceAdd -> JE, reduceSub -> JF, reduceNeg -> JG, reduceToNat -> JH, reduceEq -> JI
open Go.Proofs
theorem cloneS_at {h : Heap} {d d' : V} {bl : List Blk} (hr : ownSl h h.length 1 d = some (d', bl)) : D X (.fn 105 []) [d] h = some (d', h ++ bl) := by
  refine Ok.eq ?_
  rcases ownSl_cases hr with ⟨n, c, y, rfl, rfl, rfl⟩ | ⟨a, c, y, rfl, ha, rfl, rfl⟩ | ⟨b, g, o, n, c, y, rw, full, rfl, h0, h1, hc, hf, rfl, rfl⟩
  · (refine Ok.body body105 pin105 ?_; simp only [c105,Tryz.f105,Option.getD_some,nslot105,List.append_nil,List.map,List.replicate,List.length_cons,List.length_nil,Nat.reduceAdd,Nat.reduceSub,List.cons_append,List.nil_append])
    (repeat' (first | (simp -implicitDefEqProofs (maxSteps := 1000000) (disch := first | assumption | omega | (simp only [ZDI]; omega)) only [*,List.append_nil,G105,Za,Zb,Zc,Zd,Ze,Zf,Zg,Zh,Zi,Zj,Zk,Zl,Zm,Zn,Zo,Ja,Jb,Jc,J6,Jd,Je,J7,J8,Jf,Jg,Jh,Ji,Jj,Jk,J9,Jl,Jm,wr,Jn,JA,JB,Jo,Jp,Jq,Jr,Js,Jt,Ju,Jv,Jw,Jx,Jy,Jz,J0,J1,J2,J3,J4,J5,reduceCtorEq,JC,JD,JE,JF,JG,JH,JI,JJ]) | ((with_reducible (first | apply Ok.br | apply Ok.gd | apply Ok.ld)) <;> (intro g; (try simp only [ZGS] at g); try (exfalso; omega)))))
  · cases a with
    | nil => exact absurd rfl ha
    | any =>
      (refine Ok.body body105 pin105 ?_; simp only [c105,Tryz.f105,Option.getD_some,nslot105,List.append_nil,List.map,List.replicate,List.length_cons,List.length_nil,Nat.reduceAdd,Nat.reduceSub,List.cons_append,List.nil_append])
      (repeat' (first | (simp -implicitDefEqProofs (maxSteps := 1000000) (disch := first | assumption | omega | (simp only [ZDI]; omega)) only [*,appendV,sliceCells,G105,Za,Zb,Zc,Zd,Ze,Zf,Zg,Zh,Zi,Zj,Zk,Zl,Zm,Zn,Zo,Ja,Jb,Jc,J6,Jd,Je,J7,J8,Jf,Jg,Jh,Ji,Jj,Jk,J9,Jl,Jm,wr,Jn,JA,JB,Jo,Jp,Jq,Jr,Js,Jt,Ju,Jv,Jw,Jx,Jy,Jz,J0,J1,J2,J3,J4,J5,reduceCtorEq,JC,JD,JE,JF,JG,JH,JI,JJ]) | ((with_reducible (first | apply Ok.br | apply Ok.gd | apply Ok.ld)) <;> (intro g; (try simp only [ZGS] at g); try (exfalso; omega)))))
    | «at» b g o =>
      (refine Ok.body body105 pin105 ?_; simp only [c105,Tryz.f105,Option.getD_some,nslot105,List.append_nil,List.map,List.replicate,List.length_cons,List.length_nil,Nat.reduceAdd,Nat.reduceSub,List.cons_append,List.nil_append])
      (repeat' (first | (simp -implicitDefEqProofs (maxSteps := 1000000) (disch := first | assumption | omega | (simp only [ZDI]; omega)) only [*,appendV,sliceCells,G105,Za,Zb,Zc,Zd,Ze,Zf,Zg,Zh,Zi,Zj,Zk,Zl,Zm,Zn,Zo,Ja,Jb,Jc,J6,Jd,Je,J7,J8,Jf,Jg,Jh,Ji,Jj,Jk,J9,Jl,Jm,wr,Jn,JA,JB,Jo,Jp,Jq,Jr,Js,Jt,Ju,Jv,Jw,Jx,Jy,Jz,J0,J1,J2,J3,J4,J5,reduceCtorEq,JC,JD,JE,JF,JG,JH,JI,JJ]) | ((with_reducible (first | apply Ok.br | apply Ok.gd | apply Ok.ld)) <;> (intro g; (try simp only [ZGS] at g); try (exfalso; omega)))))
  · have hb := hcells_lt hc
    have hn0 : ¬ n = 0 := by omega
    have hg : n * 16 <= 35184372088832 /\ n <= 35184372088832 := by omega
    have hg1 : ¬ n <= 0 := by omega
    (refine Ok.body body105 pin105 ?_; simp only [c105,Tryz.f105,Option.getD_some,nslot105,List.append_nil,List.map,List.replicate,List.length_cons,List.length_nil,Nat.reduceAdd,Nat.reduceSub,List.cons_append,List.nil_append])
    (repeat' (first | (simp -implicitDefEqProofs (maxSteps := 1000000) (disch := first | assumption | omega | (simp only [ZDI]; omega)) only [*,appendV,sliceCells,newBlk,List.append_assoc,Nat.zero_add,Nat.mul_one,G105,Za,Zb,Zc,Zd,Ze,Zf,Zg,Zh,Zi,Zj,Zk,Zl,Zm,Zn,Zo,Ja,Jb,Jc,J6,Jd,Je,J7,J8,Jf,Jg,Jh,Ji,Jj,Jk,J9,Jl,Jm,wr,Jn,JA,JB,Jo,Jp,Jq,Jr,Js,Jt,Ju,Jv,Jw,Jx,Jy,Jz,J0,J1,J2,J3,J4,J5,reduceCtorEq,JC,JD,JE,JF,JG,JH,JI,JJ]) | ((with_reducible (first | apply Ok.br | apply Ok.gd | apply Ok.ld)) <;> (intro g; (try simp only [ZGS] at g); try (exfalso; omega)))))
theorem cloneR_at {h : Heap} {d d' : V} {bl : List Blk} (hr : ownSl h h.length 2 d = some (d', bl)) : D X (.fn 106 []) [d] h = some (d', h ++ bl) := by
  refine Ok.eq ?_
  rcases ownSl_cases hr with ⟨n, c, y, rfl, rfl, rfl⟩ | ⟨a, c, y, rfl, ha, rfl, rfl⟩ | ⟨b, g, o, n, c, y, rw, full, rfl, h0, h1, hc, hf, rfl, rfl⟩
  · (refine Ok.body body106 pin106 ?_; simp only [c106,Tryz.f106,Option.getD_some,nslot106,List.append_nil,List.map,List.replicate,List.length_cons,List.length_nil,Nat.reduceAdd,Nat.reduceSub,List.cons_append,List.nil_append])
    (repeat' (first | (simp -implicitDefEqProofs (maxSteps := 1000000) (disch := first | assumption | omega | (simp only [ZDI]; omega)) only [*,List.append_nil,G106,Za,Zb,Zc,Zd,Ze,Zf,Zg,Zh,Zi,Zj,Zk,Zl,Zm,Zn,Zo,Ja,Jb,Jc,J6,Jd,Je,J7,J8,Jf,Jg,Jh,Ji,Jj,Jk,J9,Jl,Jm,wr,Jn,JA,JB,Jo,Jp,Jq,Jr,Js,Jt,Ju,Jv,Jw,Jx,Jy,Jz,J0,J1,J2,J3,J4,J5,reduceCtorEq,JC,JD,JE,JF,JG,JH,JI,JJ]) | ((with_reducible (first | apply Ok.br | apply Ok.gd | apply Ok.ld)) <;> (intro g; (try simp only [ZGS] at g); try (exfalso; omega)))))
  · cases a with
    | nil => exact absurd rfl ha
    | any =>
      (refine Ok.body body106 pin106 ?_; simp only [c106,Tryz.f106,Option.getD_some,nslot106,List.append_nil,List.map,List.replicate,List.length_cons,List.length_nil,Nat.reduceAdd,Nat.reduceSub,List.cons_append,List.nil_append])
      (repeat' (first | (simp -implicitDefEqProofs (maxSteps := 1000000) (disch := first | assumption | omega | (simp only [ZDI]; omega)) only [*,appendV,sliceCells,G106,Za,Zb,Zc,Zd,Ze,Zf,Zg,Zh,Zi,Zj,Zk,Zl,Zm,Zn,Zo,Ja,Jb,Jc,J6,Jd,Je,J7,J8,Jf,Jg,Jh,Ji,Jj,Jk,J9,Jl,Jm,wr,Jn,JA,JB,Jo,Jp,Jq,Jr,Js,Jt,Ju,Jv,Jw,Jx,Jy,Jz,J0,J1,J2,J3,J4,J5,reduceCtorEq,JC,JD,JE,JF,JG,JH,JI,JJ]) | ((with_reducible (first | apply Ok.br | apply Ok.gd | apply Ok.ld)) <;> (intro g; (try simp only [ZGS] at g); try (exfalso; omega)))))
    | «at» b g o =>
      (refine Ok.body body106 pin106 ?_; simp only [c106,Tryz.f106,Option.getD_some,nslot106,List.append_nil,List.map,List.replicate,List.length_cons,List.length_nil,Nat.reduceAdd,Nat.reduceSub,List.cons_append,List.nil_append])
      (repeat' (first | (simp -implicitDefEqProofs (maxSteps := 1000000) (disch := first | assumption | omega | (simp only [ZDI]; omega)) only [*,appendV,sliceCells,G106,Za,Zb,Zc,Zd,Ze,Zf,Zg,Zh,Zi,Zj,Zk,Zl,Zm,Zn,Zo,Ja,Jb,Jc,J6,Jd,Je,J7,J8,Jf,Jg,Jh,Ji,Jj,Jk,J9,Jl,Jm,wr,Jn,JA,JB,Jo,Jp,Jq,Jr,Js,Jt,Ju,Jv,Jw,Jx,Jy,Jz,J0,J1,J2,J3,J4,J5,reduceCtorEq,JC,JD,JE,JF,JG,JH,JI,JJ]) | ((with_reducible (first | apply Ok.br | apply Ok.gd | apply Ok.ld)) <;> (intro g; (try simp only [ZGS] at g); try (exfalso; omega)))))
  · have hb := hcells_lt hc
    have hn0 : ¬ n = 0 := by omega
    have hg : n * 16 <= 35184372088832 /\ n <= 35184372088832 := by omega
    have hg1 : ¬ n <= 0 := by omega
    (refine Ok.body body106 pin106 ?_; simp only [c106,Tryz.f106,Option.getD_some,nslot106,List.append_nil,List.map,List.replicate,List.length_cons,List.length_nil,Nat.reduceAdd,Nat.reduceSub,List.cons_append,List.nil_append])
    (repeat' (first | (simp -implicitDefEqProofs (maxSteps := 1000000) (disch := first | assumption | omega | (simp only [ZDI]; omega)) only [*,appendV,sliceCells,newBlk,List.append_assoc,Nat.zero_add,Nat.mul_one,G106,Za,Zb,Zc,Zd,Ze,Zf,Zg,Zh,Zi,Zj,Zk,Zl,Zm,Zn,Zo,Ja,Jb,Jc,J6,Jd,Je,J7,J8,Jf,Jg,Jh,Ji,Jj,Jk,J9,Jl,Jm,wr,Jn,JA,JB,Jo,Jp,Jq,Jr,Js,Jt,Ju,Jv,Jw,Jx,Jy,Jz,J0,J1,J2,J3,J4,J5,reduceCtorEq,JC,JD,JE,JF,JG,JH,JI,JJ]) | ((with_reducible (first | apply Ok.br | apply Ok.gd | apply Ok.ld)) <;> (intro g; (try simp only [ZGS] at g); try (exfalso; omega)))))
theorem own_at {h : Heap} {c0 c1 c2 c3 c4 c5 c6 c7 c8 c9 c10 c11 c12 c13 c14 c15 v' : V} {bl : List Blk} (hr : ownG h h.length (.agg [c0, c1, c2, c3, c4, c5, c6, c7, c8, c9, c10, c11, c12, c13, c14, c15]) = some (v', bl)) : D X (.fn 71 []) [.agg [c0, c1, c2, c3, c4, c5, c6, c7, c8, c9, c10, c11, c12, c13, c14, c15]] h = some (v', h ++ bl) := by
  refine Ok.eq ?_
  obtain ⟨cs, d, p, d', p', bd, bp, he, _, h1, h2, h3, h4, rfl, rfl⟩ := ownG_cases hr
  cases he
  cases h1
  cases h2
  have g1 := cloneS_at h3
  have hl : (h ++ bd).length = h.length + bd.length := List.length_append
  have h5 : ownSl (h ++ bd) (h ++ bd).length 2 c15 = some (p', bp) := by
    rw [hl]
    exact ownSl_ext h4 fun b g p hp => by rw [hcells_app (hcells_lt hp)]; exact hp
  have g2 := cloneR_at h5
  obtain ⟨sa, sn, sc, sz, hd'⟩ : ∃ a n c z, d' = .sl a n c z := by
    rcases ownSl_cases h3 with ⟨n, c, y, _, rfl, _⟩ | ⟨a, c, y, _, _, rfl, _⟩ | ⟨b, g, o, n, c, y, rw, full, _, _, _, _, _, rfl, _⟩ <;> exact ⟨_, _, _, _, rfl⟩
  obtain ⟨ra, rn, rc, rz, hp'⟩ : ∃ a n c z, p' = .sl a n c z := by
    rcases ownSl_cases h4 with ⟨n, c, y, _, rfl, _⟩ | ⟨a, c, y, _, _, rfl, _⟩ | ⟨b, g, o, n, c, y, rw, full, _, _, _, _, _, rfl, _⟩ <;> exact ⟨_, _, _, _, rfl⟩
  subst hd' hp'
  clear h3 h4 h5 hr hl
  (refine Ok.body body71 pin71 ?_; simp only [c71,Tryz.f71,Option.getD_some,nslot71,List.append_nil,List.map,List.replicate,List.length_cons,List.length_nil,Nat.reduceAdd,Nat.reduceSub,List.cons_append,List.nil_append])
  (repeat' (first | (simp -implicitDefEqProofs (maxSteps := 1000000) (disch := first | assumption | omega | (simp only [ZDI]; omega)) only [*,List.append_assoc,G71,Za,Zb,Zc,Zd,Ze,Zf,Zg,Zh,Zi,Zj,Zk,Zl,Zm,Zn,Zo,Ja,Jb,Jc,J6,Jd,Je,J7,J8,Jf,Jg,Jh,Ji,Jj,Jk,J9,Jl,Jm,wr,Jn,JA,JB,Jo,Jp,Jq,Jr,Js,Jt,Ju,Jv,Jw,Jx,Jy,Jz,J0,J1,J2,J3,J4,J5,reduceCtorEq,JC,JD,JE,JF,JG,JH,JI,JJ]) | ((with_reducible (first | apply Ok.br | apply Ok.gd | apply Ok.ld)) <;> (intro g; (try simp only [ZGS] at g); try (exfalso; omega)))))
theorem new_at (h : Heap) : D X (.fn 41 []) [] h = some (.ptr (h.length + 1) 0 0, h ++ [.map true [] 0, .cells 0 true [.map h.length]]) := by
  refine Ok.eq ?_
  (refine Ok.body body41 pin41 ?_; simp only [c41,Tryz.f41,Option.getD_some,nslot41,List.append_nil,List.map,List.replicate,List.length_cons,List.length_nil,Nat.reduceAdd,Nat.reduceSub,List.cons_append,List.nil_append])
  (repeat' (first | (simp -implicitDefEqProofs (maxSteps := 1000000) (disch := first | assumption | omega | (simp only [ZDI]; omega)) only [*,exOp_makeMap,makeMapV,List.append_assoc,G41,Za,Zb,Zc,Zd,Ze,Zf,Zg,Zh,Zi,Zj,Zk,Zl,Zm,Zn,Zo,Ja,Jb,Jc,J6,Jd,Je,J7,J8,Jf,Jg,Jh,Ji,Jj,Jk,J9,Jl,Jm,wr,Jn,JA,JB,Jo,Jp,Jq,Jr,Js,Jt,Ju,Jv,Jw,Jx,Jy,Jz,J0,J1,J2,J3,J4,J5,reduceCtorEq,JC,JD,JE,JF,JG,JH,JI,JJ]) | ((with_reducible (first | apply Ok.br | apply Ok.gd | apply Ok.ld)) <;> (intro g; (try simp only [ZGS] at g); try (exfalso; omega)))))
theorem veq_ref (x y : RP) : veq X.ty 6 24 (elt x) (elt y) = some (decide (x = y)) := by
  obtain ⟨a, b⟩ := x
  obtain ⟨c, d⟩ := y
  have h : veq X.ty 6 24 (elt (a, b)) (elt (c, d)) = bnd (some (decide (a = c))) fun r => cnd r (bnd (some (decide (b = d))) fun r => cnd r (some true) (some false)) (some false) := by
    simp only [veq_eq,elt,ty24,veqM_struct,veqF_cons,veqF_nil,rd,ty3,TI.kind,bnd_s,cnd_f,List.getElem?_cons_zero,List.getElem?_cons_succ,partK_eq,veqM_int,grd_t]
  rw [h]
  by_cases h1 : a = c <;> by_cases h2 : b = d <;> simp [h1, h2, bnd, cnd]
theorem keyTD_ref : keyTD X.ty 3 24 = true := by kernel_rfl
theorem keyOk_ref (x : RP) {es : List ME} {ks : List RP} (h : keysM es = some ks) : keyOk X.ty 24 (elt x) es = true := by
  unfold keyOk
  rw [keyTD_ref, veq_ref]
  simp only [decide_true,Bool.and_true,Bool.and_eq_true,List.all_eq_true,decide_eq_true_eq]
  refine ⟨rfl, fun e he => ?_⟩
  obtain ⟨y, hy⟩ := keysM_get h e he
  rw [keyP_elt hy, veq_ref, vsame_elt]
end Go.Ev.Q
set_option maxRecDepth 100000
namespace Go.Ev.Q
open Go.Ev renaming exPure -> Ja, ofValue -> Jb, cellsV -> Jc, load -> Jd, store -> Je, binOp -> Jf, intOp -> Jg, rdV -> Jh, vsame -> Ji, vsames -> Jj, makeSliceV -> Jk, resV -> Jl, isCell -> Jm, nilCheckV -> Jn, allV -> Jo, builtinV -> Jp, lenV -> Jq, indexAddrV -> Jr, unOp -> Js, minmaxV -> Jt, minmax -> Ju, sliceV -> Jv, asInt -> Jw, appendV -> Jx, forkB -> Jy, roY -> Jz, rwB -> J0, copyV -> J1, clearV -> J2, convV -> J3, sliceCells -> J4, shift -> J5
open Bool renaming true -> BT, false -> BF
open Nat renaming reduceEqDiff -> J6, reduceLT -> J7, reduceAdd -> J8, reduceBEq -> J9, reduceSub -> JA, reduceMul -> JB, reduceLeDiff -> JJ
open Int renaming reduceLT -> JC, reduceLE -> JD, reduceAdd -> JE, reduceSub -> JF, reduceNeg -> JG, reduceToNat -> JH, reduceEq -> JI
open Go.Proofs
theorem clone_nil (h : Heap) : D X (.fn 104 []) [.nilp] h = some (.nilp, h) := by
  refine Ok.eq ?_
  (refine Ok.body body104 pin104 ?_; simp only [c104,Tryz.f104,Option.getD_some,nslot104,List.append_nil,List.map,List.replicate,List.length_cons,List.length_nil,Nat.reduceAdd,Nat.reduceSub,List.cons_append,List.nil_append])
  (repeat' (first | (simp -implicitDefEqProofs (maxSteps := 1000000) (disch := first | assumption | omega | (simp only [ZDI]; omega)) only [*,G104,Za,Zb,Zc,Zd,Ze,Zf,Zg,Zh,Zi,Zj,Zk,Zl,Zm,Zn,Zo,Ja,Jb,Jc,J6,Jd,Je,J7,J8,Jf,Jg,Jh,Ji,Jj,Jk,J9,Jl,Jm,wr,Jn,JA,JB,Jo,Jp,Jq,Jr,Js,Jt,Ju,Jv,Jw,Jx,Jy,Jz,J0,J1,J2,J3,J4,J5,reduceCtorEq,JC,JD,JE,JF,JG,JH,JI,JJ]) | ((with_reducible (first | apply Ok.br | apply Ok.gd | apply Ok.ld)) <;> (intro g; (try simp only [ZGS] at g); try (exfalso; omega)))))
set_option maxHeartbeats 4000000 in
theorem clonePin : @PinOk (goodOf X0) Tryz.prog 104 (.s cloneG) := by
  intro K w args h v h' hrun hm
  have hrun' : cloneG args h = some (v, h') := hrun
  clear hrun
  rcases cloneG_some hrun' with ⟨rfl, rfl, rfl⟩ | ⟨b, g, o, m, es, ec, bc, ks, rfl, hq, hks, hec, rfl, rfl⟩
  · exact fit0.specD _ _ _ _ _ (clone_nil _) K w hm
  · clear hrun'
    obtain ⟨rw0, cs, ex, c, hbc, hco, hmap⟩ := mapAtV_some hq
    dsimp only at hco hmap
    clear hq
    have hco' : o < cs.length := (List.getElem?_eq_some_iff.1 hco).1
    have hml := (List.getElem?_eq_some_iff.1 hmap).1
    have hbl := hcells_lt hbc
    have hb := body104
    simp only [c104,Tryz.f104,Option.getD_some] at hb
    refine mapFun_run (pre4 := [_, _, _, _]) (tail6 := [_, _, _, _, _, _]) (tm := 123) (km := 24) (em := 32) (nsl := 2) fit0 hb rfl rfl (by kernel_rfl) rfl rfl rfl rfl (by decide) rfl hm hmap ?_
    simp only [List.map,List.replicate,List.length_cons,List.length_nil,Nat.reduceAdd,Nat.reduceSub,List.cons_append,List.nil_append]
    have hmb : ¬ m = b := by
      rintro rfl
      unfold hcells at hbc
      rw [hmap] at hbc
      cases hbc
    have hm2 := Hid.mk hm
    have hm1 : ∀ x, (h ++ x)[m]? = some (.map ex es c) := fun x => by rw [List.getElem?_append_left hml]; exact hmap
    have hb1 : ∀ x, hcells (h ++ x) b g = some (rw0, cs) := fun x => by rw [hcells_app hbl]; exact hbc
    have hec2 := Hid.mk hec
    have hks2 := Hid.mk hks
    have hbc2 := Hid.mk hbc
    have hmap2 := Hid.mk hmap
    clear hb hm hec hbc hmap hbl hks
    have hnew := new_at h
    (repeat' (first | (simp -implicitDefEqProofs (maxSteps := 1000000) (disch := first | assumption | omega | (simp only [ZDI]; omega)) only [*,lenV,G104,Za,Zb,Zc,Zd,Ze,Zf,Zg,Zh,Zi,Zj,Zk,Zl,Zm,Zn,Zo,Ja,Jb,Jc,J6,Jd,Je,J7,J8,Jf,Jg,Jh,Ji,Jj,Jk,J9,Jl,Jm,wr,Jn,JA,JB,Jo,Jp,Jq,Jr,Js,Jt,Ju,Jv,Jw,Jx,Jy,Jz,J0,J1,J2,J3,J4,J5,reduceCtorEq,JC,JD,JE,JF,JG,JH,JI,JJ]) | ((with_reducible (first | apply Ok.br | apply Ok.gd | apply Ok.ld)) <;> (intro g; (try simp only [ZGS] at g); try (exfalso; omega)))))
    intro r es' c' s5 hs5 hp hex hkn hbn
    clear hnew hm1 hb1
    obtain ⟨ks', hks', hkp⟩ := keysM_perm hp hks2.out
    clear hkp
    have hks3 := Hid.mk hks'
    clear hks'
    have hex' := Hid.mk hex
    have hp' := Hid.mk hp
    have hkn' := Hid.mk hkn
    clear hex hp hkn hbn
    obtain ⟨h1, hh1⟩ : ∃ h1, h1 = h.set m (.map true es' c') := ⟨_, rfl⟩
    have hl1 : h1.length = h.length := by rw [hh1]; simp
    have hm1 : ∀ x, (h1 ++ x)[m]? = some (.map true es' c') := fun x => by rw [List.getElem?_append_left (by omega), hh1, List.getElem?_set_self hml]
    rw [<- hh1] at hs5
    obtain ⟨e5, l5, H5⟩ := s5
    simp only [St.mk.injEq] at hs5
    obtain ⟨he5, rfl, rfl⟩ := hs5
    have hh1' := Hid.mk hh1
    obtain ⟨N, hN⟩ : ∃ N, h.length = N := ⟨_, rfl⟩
    have hlN : h1.length = N := by omega
    have hN' := Hid.mk hN
    have hcell : ∀ b g p, hcells h b g = some p -> ∀ x, hcells (h1 ++ x) b g = some p := fun b g p hb x => by
      have hbl := hcells_lt hb
      rw [hcells_app (by omega), hh1]
      unfold hcells at hb ⊢
      have hne : m ≠ b := by
        rintro rfl
        rw [hmap2.out] at hb; cases hb
      rw [List.getElem?_set_ne hne]
      exact hb
    have hcell' := Hid.mk hcell
    clear hh1 hl1 hcell
    simp only [hN] at he5 ⊢
    refine ⟨fun dn s => ∃ (kd : List RP) (md mm : List ME) (bd : List Blk) (v0 v1 clk : Nat) (c0 c1 : List V), keysM dn = some kd /\ dn.Nodup /\ (∀ x ∈ dn, x ∈ es') /\ ownsG h (N + 2) dn = some (md, bd) /\ mm.map unborn = md.map unborn /\ OutW [BF, BF, BF, BF, BT, BT, BF, BF, BF, BF, BF, BF, BF, BF, BT, BT, BT, BT, BT, BT, BT, BT, BT, BT, BT, BT, BF] e5 s.e /\
        s.l = [(v0, c0), (v1, c1)] /\ s.h = h1 ++ .map true mm clk :: .cells 0 true [.map N] :: bd,
      fun s => ∃ (dn md mm : List ME) (bd : List Blk) (v0 v1 clk : Nat) (c0 c1 : List V), dn.Perm es' /\ ownsG h (N + 2) dn = some (md, bd) /\ mm.map unborn = md.map unborn /\ OutW [BF, BF, BF, BF, BT, BT, BF, BF, BF, BF, BF, BF, BF, BF, BT, BT, BT, BT, BT, BT, BT, BT, BT, BT, BT, BT, BF] e5 s.e /\
        s.l = [(v0, c0), (v1, c1)] /\ s.h = h1 ++ .map true mm clk :: .cells 0 true [.map N] :: bd, ?a1, ?a2, ?a3, ?a4, ?a5⟩
    case a1 => exact ⟨[], [], [], [], 0, 0, 0, [], [], rfl, List.nodup_nil, (fun x hx => nomatch hx), rfl, rfl, by rw [he5]; rfl, rfl, rfl⟩
    case a2 =>
      intro dn ⟨e, l, H⟩ ⟨kd, md, mm, bd, v0, v1, clk, c0, c1, _, _, _, _, _, hW, _, hH⟩
      dsimp only at hW hH
      subst H
      have hW2 := hW.spread
      rw [he5] at hW2
      rw [hW2]
      simp only [spread_t,spread_f,spread_n,Nat.zero_add,Nat.reduceAdd]
      exact ⟨rfl, hm1 _⟩
    case a3 =>
      intro dn ⟨e, l, H⟩ ⟨kd, md, mm, bd, v0, v1, clk, c0, c1, hkd, hnd, hsub, hod, hmm, hW, hl, hH⟩ hperm
      dsimp only at hW hH hl
      subst H l
      have hW2 := hW.spread
      rw [he5] at hW2
      rw [hW2]
      simp only [spread_t,spread_f,spread_n,Nat.zero_add,Nat.reduceAdd]
      have g1 := Hid.mk hod
      have g2 := Hid.mk hmm
      have g3 := Hid.mk hperm
      clear hod hmm hperm hsub hnd hkd hW hW2
      (repeat' (first | (simp -implicitDefEqProofs (maxSteps := 1000000) (disch := first | assumption | omega | (simp only [ZDI]; omega)) only [*,G104,Za,Zb,Zc,Zd,Ze,Zf,Zg,Zh,Zi,Zj,Zk,Zl,Zm,Zn,Zo,Ja,Jb,Jc,J6,Jd,Je,J7,J8,Jf,Jg,Jh,Ji,Jj,Jk,J9,Jl,Jm,wr,Jn,JA,JB,Jo,Jp,Jq,Jr,Js,Jt,Ju,Jv,Jw,Jx,Jy,Jz,J0,J1,J2,J3,J4,J5,reduceCtorEq,JC,JD,JE,JF,JG,JH,JI,JJ]) | ((with_reducible (first | apply Ok.br | apply Ok.gd | apply Ok.ld)) <;> (intro g; (try simp only [ZGS] at g); try (exfalso; omega)))))
      exact ⟨dn, md, mm, bd, v0, v1, clk, c0, c1, g3.out, g1.out, g2.out, rfl, rfl, rfl⟩
    case a4 =>
      intro dn ⟨e, l, H⟩ ⟨k0, vv, j0⟩ ⟨kd, md, mm, bd, v0, v1, clk, c0, c1, hkd, hnd, hsub, hod, hmm, hW, hl, hH⟩ he hne
      dsimp only at hW hH hl
      subst H l
      have hW2 := hW.spread
      rw [he5] at hW2
      rw [hW2]
      simp only [spread_t,spread_f,spread_n,Nat.zero_add,Nat.reduceAdd]
      obtain ⟨⟨x1, x2⟩, hkx⟩ := keysM_get hks3.out _ he
      have hsn := keysM_snoc hkx hkd
      obtain rfl := keyP_some hkx
      have hxk : (x1, x2) ∉ kd := fun hx => by
        obtain ⟨e2, he2, hk2⟩ := keysM_mem hkd hx
        have := nodup_map_inj hkn'.out e2 (hsub e2 he2) _ he hk2
        exact hne (this ▸ he2)
      have hmk : keysM mm = some kd := keysM_keys (unborn_keys hmm) (keysM_keys (ownsG_keys hod) hkd)
      have hput : putM (V.agg [.int .i64 x1, .int .i64 x2]) vv mm clk = (mm ++ [(V.agg [.int .i64 x1, .int .i64 x2], vv, clk)], clk + 1) := putM_new (x := (x1, x2)) hmk hxk
      have hput2 : ∀ v : V, putM (V.agg [.int .i64 x1, .int .i64 x2]) v mm clk = (mm ++ [(V.agg [.int .i64 x1, .int .i64 x2], v, clk)], clk + 1) := fun v => putM_new (x := (x1, x2)) hmk hxk
      have hkok : keyOk X.ty 24 (V.agg [.int .i64 x1, .int .i64 x2]) mm = true := keyOk_ref (x1, x2) hmk
      obtain ⟨nx', r', hr'⟩ := ownsG_get hec2.out (V.agg [.int .i64 x1, .int .i64 x2], vv) (hp'.out.mem_iff.1 (List.mem_map.2 ⟨_, he, rfl⟩))
      obtain ⟨v', ho, _⟩ := ownG_nx (v' := r'.1) (bl := r'.2) hr' (N + 2 + bd.length)
      obtain ⟨b1, hb1⟩ : ∃ b1, r'.2 = b1 := ⟨_, rfl⟩
      rw [hb1] at ho
      clear hput hr' hb1
      have hnd2 : (dn ++ [((V.agg [.int .i64 x1, .int .i64 x2], vv, j0) : ME)]).Nodup := List.nodup_append.2 ⟨hnd, by simp, fun a ha b hb => by rw [List.mem_singleton.1 hb]; rintro rfl; exact hne ha⟩
      have hsub2 : ∀ x ∈ dn ++ [((V.agg [.int .i64 x1, .int .i64 x2], vv, j0) : ME)], x ∈ es' := fun x hx => by
        rcases List.mem_append.1 hx with hx | hx
        · exact hsub x hx
        · rw [List.mem_singleton.1 hx]; exact he
      have hod2 : ownsG h (N + 2) (dn ++ [((V.agg [.int .i64 x1, .int .i64 x2], vv, j0) : ME)]) = some (md ++ [(V.agg [.int .i64 x1, .int .i64 x2], v', 0)], bd ++ b1) := ownsG_snoc hod ho
      have hmm2 : (mm ++ [((V.agg [.int .i64 x1, .int .i64 x2], v', clk) : ME)]).map unborn = (md ++ [((V.agg [.int .i64 x1, .int .i64 x2], v', 0) : ME)]).map unborn := by
        rw [List.map_append, List.map_append, hmm]; rfl
      have hHl : (h1 ++ Blk.map true mm clk :: .cells 0 true [.map N] :: bd).length = N + 2 + bd.length := by simp only [List.length_append,List.length_cons,hlN]; omega
      have ho2 : ownG (h1 ++ Blk.map true mm clk :: .cells 0 true [.map N] :: bd) (h1 ++ Blk.map true mm clk :: .cells 0 true [.map N] :: bd).length vv = some (v', b1) := by
        rw [hHl]
        exact ownG_ext ho fun b g p hb => hcell'.out b g p hb _
      obtain ⟨cc, _, _, _, _, _, _, rfl, h16, h17⟩ := ownG_cases ho2
      clear h17
      match cc, h16 with
      | [c0, c1, c2, c3, c4, c5, c6, c7, c8, c9, c10, c11, c12, c13, c14, c15], _ =>
      have hown := own_at ho2
      have hmN : ∀ y, (h1 ++ Blk.map true mm clk :: y)[N]? = some (.map true mm clk) := fun y => by rw [List.getElem?_append_right (by omega), hlN, Nat.sub_self]; rfl
      have hcN : ∀ x y, hcells (h1 ++ x :: Blk.cells 0 true [.map N] :: y) (N + 1) 0 = some (true, [.map N]) := fun x y => by
        rw [hcells_ge (by omega), hlN, Nat.add_sub_cancel_left]; rfl
      have hset : ∀ (x : Blk) (y : List Blk) (x' : Blk), (h1 ++ x :: y).set N x' = h1 ++ x' :: y := fun x y x' => by
        rw [heap_set_ge (by omega), hlN, Nat.sub_self]; rfl
      have g1 := Hid.mk hnd2
      have g2 := Hid.mk hsub2
      have g3 := Hid.mk hsn
      have g4 := Hid.mk hod2
      have g5 := Hid.mk hmm2
      clear hnd2 hsub2 hsn hod2 hmm2 hod hmm hkd hnd hsub hW hW2 he hne ho ho2 hxk hkx hmk hHl
      (repeat' (first | (simp -implicitDefEqProofs (maxSteps := 1000000) (disch := first | assumption | omega | (simp only [ZDI]; omega)) only [*,updateV,List.append_assoc,exOp_mapUpdate,G104,Za,Zb,Zc,Zd,Ze,Zf,Zg,Zh,Zi,Zj,Zk,Zl,Zm,Zn,Zo,Ja,Jb,Jc,J6,Jd,Je,J7,J8,Jf,Jg,Jh,Ji,Jj,Jk,J9,Jl,Jm,wr,Jn,JA,JB,Jo,Jp,Jq,Jr,Js,Jt,Ju,Jv,Jw,Jx,Jy,Jz,J0,J1,J2,J3,J4,J5,reduceCtorEq,JC,JD,JE,JF,JG,JH,JI,JJ]) | ((with_reducible (first | apply Ok.br | apply Ok.gd | apply Ok.ld)) <;> (intro g; (try simp only [ZGS] at g); try (exfalso; omega)))))
      exact ⟨kd ++ [(x1, x2)], md ++ [(V.agg [.int .i64 x1, .int .i64 x2], v', 0)], mm ++ [(V.agg [.int .i64 x1, .int .i64 x2], v', clk)], bd ++ b1, v0 + 1, v1 + 1, clk + 1, _, _, g3.out, g1.out, g2.out, g4.out, g5.out, rfl, rfl, rfl⟩
    case a5 =>
      intro ⟨e, l, H⟩ ⟨dn, md, mm, bd, v0, v1, clk, c0, c1, hperm, hod, hmm, hW, hl, hH⟩
      dsimp only at hW hH hl
      subst H l
      have hW2 := hW.spread
      rw [he5] at hW2
      rw [hW2]
      simp only [spread_t,spread_f,spread_n,Nat.zero_add,Nat.reduceAdd]
      clear hW hW2 he5
      letI := goodOf X0
      have htold := fun (e : List TV) (l : Locs) hr => clone_told (X := X) (rs := [.tmp 2]) (e := e) (l := l) (clk := clk) hm2.out hmap2.out hp'.out hex'.out hperm hkn'.out hec2.out (by rw [hN]; exact hod) hmm hr
      simp only [hN,<- hh1'.out] at htold
      have htold' := Hid.mk htold
      clear htold hperm hod hmm
      (repeat' (first | (simp -implicitDefEqProofs (maxSteps := 1000000) (disch := first | assumption | omega | (simp only [ZDI]; omega)) only [*,G104,Za,Zb,Zc,Zd,Ze,Zf,Zg,Zh,Zi,Zj,Zk,Zl,Zm,Zn,Zo,Ja,Jb,Jc,J6,Jd,Je,J7,J8,Jf,Jg,Jh,Ji,Jj,Jk,J9,Jl,Jm,wr,Jn,JA,JB,Jo,Jp,Jq,Jr,Js,Jt,Ju,Jv,Jw,Jx,Jy,Jz,J0,J1,J2,J3,J4,J5,reduceCtorEq,JC,JD,JE,JF,JG,JH,JI,JJ]) | ((with_reducible (first | apply Ok.br | apply Ok.gd | apply Ok.ld)) <;> (intro g; (try simp only [ZGS] at g); try (exfalso; omega)))))
      exact htold'.out _ _ rfl
end Go.Ev.Q
namespace Go.Ev
open Go.Proofs
def pin1 : FuncId -> Option Pin := fun f => if f = 91 then some (.s refsG) else if f = 104 then some (.s cloneG) else none
noncomputable def X1 : Env := X0.pins pin1
theorem fit1 : Fit Tryz.prog X1 := by
  refine fit0.pinsFit fun f p h => ?_
  unfold pin1 at h
  split at h
  · rename_i hf; subst hf; cases h; exact Q.refsPin
  · split at h
    · rename_i hf; subst hf; cases h; exact Q.clonePin
    · cases h
theorem livesRun : ((callN X1 60 (.fn 11 []) [] []).map fun r => match r.1 with | .bool b => some b | _ => none) = some (some true) := by decide +kernel
theorem livesBody : (bodyOf Tryz.prog 11).isSome = true := by decide +kernel
noncomputable def X : Env := X0.pins fun f => if f = 91 then some (.s refsG) else if f = 104 then some (.s cloneG) else if f = 11 then some (.b true) else none
theorem fit : Fit Tryz.prog X := by
  refine fit0.pinsFit fun f p h => ?_
  split at h
  · rename_i hf; subst hf; cases h; exact Q.refsPin
  · split at h
    · rename_i hf; subst hf; cases h; exact Q.clonePin
    · split at h
      · rename_i hf
        subst hf
        cases h
        have := @pinOk_bool (goodOf X1) _ fit1.funcsOk _ _ livesBody fun w => fit1.closed livesRun w
        rw [show goodOf X1 = goodOf X0 from goodOf_pins X0 pin1] at this
        exact this
      · cases h
end Go.Ev
