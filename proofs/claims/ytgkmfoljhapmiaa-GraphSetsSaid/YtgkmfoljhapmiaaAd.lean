/-
Texts of this claim, one behind the other.
-/
import Derived.Test.YtgkmfoljhapmiaaAc
set_option linter.unusedSimpArgs false
set_option linter.unusedVariables false
set_option linter.unusedSectionVars false
set_option maxRecDepth 100000
set_option maxRecDepth 100000
namespace Go.Ev
open Go.Ev renaming exPure -> Ja, ofValue -> Jb, cellsV -> Jc, load -> Jd, store -> Je, binOp -> Jf, intOp -> Jg, rdV -> Jh, vsame -> Ji, vsames -> Jj, makeSliceV -> Jk, resV -> Jl, isCell -> Jm, nilCheckV -> Jn, allV -> Jo, builtinV -> Jp, lenV -> Jq, indexAddrV -> Jr, unOp -> Js, minmaxV -> Jt, minmax -> Ju, sliceV -> Jv, asInt -> Jw, appendV -> Jx, forkB -> Jy, roY -> Jz, rwB -> J0, copyV -> J1, clearV -> J2, convV -> J3, sliceCells -> J4, shift -> J5
open Bool renaming true -> BT, false -> BF
open Nat renaming reduceEqDiff -> J6, reduceLT -> J7, reduceAdd -> J8, reduceBEq -> J9, reduceSub -> JA, reduceMul -> JB, reduceLeDiff -> JJ
open Int renaming reduceLT -> JC, reduceLE -> JD, reduceAdd -> JE, reduceSub -> JF, reduceNeg -> JG, reduceToNat -> JH, reduceEq -> JI
open Go.Proofs Go.Sort
variable {α : Type} [Inhabited α] {Si : SI α} {fv : V} {lt : α -> α -> Bool} {b n0 : Nat}
theorem siftDown_size (lt : α -> α -> Bool) (hi first : Nat) : ∀ (m root : Nat) (d : Array α), hi - root <= m -> (siftDown lt hi first root d).size = d.size := by
 intro m
 induction m with
 | zero => intro root d h; rw [siftDown, dif_pos (by omega)]
 | succ m ih =>
  intro root d h
  rw [siftDown]
  split
  ·rfl
  ·split
   ·split
    ·rfl
    ·split
     ·rw [ih _ _ (by omega), swpI_size]
     ·rfl
   ·split
    ·rfl
    ·rw [ih _ _ (by omega), swpI_size]
set_option maxHeartbeats 1000000 in
theorem sift_at (hc : Cmp Si fv lt b n0) {H : Heap} {g n cap z : Nat} {d : Array α} (hb : b < H.length) (hg : hc.good H) (hn : n <= d.size) (hl : d.size <= 1000000000) {lo hi first : Nat} (h1 : first + hi <= n) (h2 : lo <= hi) :
  D X (.fn (Si.f 62) []) [.sl (.at b g 0) n cap z, .int .i64 lo, .int .i64 hi, .int .i64 first, fv] (Si.hs H b g d) = some (.tup [], Si.hs H b g (siftDown lt hi first lo d)) := by
 refine Ok.eq ?_
 refine Ok.aim fun Q hQ => ?_
 have hQ' := Hid.mk hQ
 clear hQ
 unfold SI.hs at hQ' ⊢
 have hgA := fun x => hc.gset H b x hg (.inl rfl)
 (refine Ok.body ((Si.body 62 (by decide)).trans (congrArg _ body62)) (Si.pin 62 (by decide)) ?_; simp only [c62,Try.f62,Option.getD_some,rnC,rnP_eq,rnO_load,rnO_store,rnO_indexAddr,rnO_call,rnO_builtin,rnO_move,rnO_assign,rnO_pick,rnO_alloc,rnO_nilCheck,rnO_binOp,rnO_unOp,rnO_convert,rnO_extract,rnG_func,rnG_tmp,List.toList_toArray,List.map_cons,List.map_nil,List.map_toArray,Si.nsl 62 (by decide),nslot62,List.append_nil,List.map,List.replicate,List.length_cons,List.length_nil,Nat.reduceAdd,Nat.reduceSub,List.cons_append,List.nil_append])
 (repeat' (first | (simp -implicitDefEqProofs (maxSteps := 1000000) (disch := first | assumption | omega | exact hgA _ | (simp only [ZDI]; omega)) only [*,lenV,Si.slot 62 (by decide),Si.plan 62 (by decide),Si.tya,Si.tyb,rnT_a,rnT_b,rnT_o,Si.same 63 (by decide),Si.same 64 (by decide),Si.same 44 (by decide),G62,Za,Zb,Zc,Zd,Ze,Zf,Zg,Zh,Zi,Zj,Zk,Zl,Zm,Zn,Zo,Ja,Jb,Jc,J6,Jd,Je,rd_m,J7,J8,Jf,Jg,Jh,Ji,Jj,Jk,J9,Jl,Jm,wr_m,Jn,JA,JB,Jo,Jp,Jq,Jr,Js,Jt,Ju,Jv,Jw,Jx,Jy,Jz,J0,J1,J2,J3,J4,J5,reduceCtorEq,JC,JD,JE,JF,JG,JH,JI,JJ]) | ((with_reducible (first | apply Ok.br | apply Ok.gd | apply Ok.ld)) <;> (intro g; (try simp only [ZGS] at g); try (exfalso; omega)))))
 refine Ok.loop [BF, BF, BF, BF, BF, BF, BF, BF, BF, BF, BT, BT, BF, BT, BT, BT, BT, BT, BT, BT, BT, BT, BT, BT, BT, BT, BT, BT, BT, BT, BT, BT, BT, BT, BT, BT, BT, BT, BT, BT, BT, BT, BT, BT, BT, BT, BT, BT, BT, BT, BT, BT, BT, BT, BT, BT, BT, BT, BT, BT, BT, BT, BT, BT, BT, BT, BT, BT, BT, BT, BT, BT, BT, BT, BT, BT, BT, BT, BT, BT, BT, BT] (fun m s2 => ∃ (r : Nat) (e : Array α), m = hi - r /\ r <= hi /\ tv s2.e 10 = .v (.int .i64 r) /\ s2.l = [] /\ s2.h = H.set b (.cells g true (Si.fl e)) /\ e.size = d.size /\ siftDown lt hi first r e = siftDown lt hi first lo d)
  (fun x s2 => (x = .exit 0 \/ x = .ret) /\ s2.l = [] /\ s2.h = H.set b (.cells g true (Si.fl (siftDown lt hi first lo d)))) (hi - lo) ⟨lo, d, rfl, h2, rfl, rfl, rfl, rfl, rfl⟩ ?_ ?_
 ·intro m ⟨e', l', H'⟩ hW ⟨r, e, hm, hi', h8, h2', h3, hsz, hre⟩
  dsimp only at hW h8 h2' h3
  subst l' H'
  rw [hW.spread]
  simp only [spread_t,spread_f,spread_n,Nat.zero_add,Nat.reduceAdd,h8]
  have hre' := Hid.mk hre
  clear hre
  by_cases hge : hi <= 2 * r + 1
  ·have hge' : (hi : Int) <= 2 * (r : Int) + 1 := by omega
   (repeat' (first | (simp -implicitDefEqProofs (maxSteps := 1000000) (disch := first | assumption | omega | exact hgA _ | (simp only [ZDI]; omega)) only [*,lenV,Si.slot 62 (by decide),Si.plan 62 (by decide),Si.tya,Si.tyb,rnT_a,rnT_b,rnT_o,Si.same 63 (by decide),Si.same 64 (by decide),Si.same 44 (by decide),G62,Za,Zb,Zc,Zd,Ze,Zf,Zg,Zh,Zi,Zj,Zk,Zl,Zm,Zn,Zo,Ja,Jb,Jc,J6,Jd,Je,rd_m,J7,J8,Jf,Jg,Jh,Ji,Jj,Jk,J9,Jl,Jm,wr_m,Jn,JA,JB,Jo,Jp,Jq,Jr,Js,Jt,Ju,Jv,Jw,Jx,Jy,Jz,J0,J1,J2,J3,J4,J5,reduceCtorEq,JC,JD,JE,JF,JG,JH,JI,JJ]) | ((with_reducible (first | apply Ok.br | apply Ok.gd | apply Ok.ld)) <;> (intro g; (try simp only [ZGS] at g); try (exfalso; omega)))))
   refine Turn.exit ⟨rfl, .inl rfl, rfl, ?_⟩
   rw [<- hre'.out, siftDown, dif_pos hge]
  ·have hge' : ¬ (hi : Int) <= ((2 * r + 1 : Nat) : Int) := by omega
   have e1 : 2 * (r : Int) + 1 = ((2 * r + 1 : Nat) : Int) := by omega
   have e2 : (first : Int) + ((2 * r + 1 : Nat) : Int) = ((first + (2 * r + 1) : Nat) : Int) := by omega
   have e3 : ((first + (2 * r + 1) : Nat) : Int) + 1 = ((first + (2 * r + 1) + 1 : Nat) : Int) := by omega
   have e4 : ((2 * r + 1 : Nat) : Int) + 1 = ((2 * r + 2 : Nat) : Int) := by omega
   have e5 : (first : Int) + ((2 * r + 2 : Nat) : Int) = ((first + (2 * r + 2) : Nat) : Int) := by omega
   have e6 : (first : Int) + (r : Int) = ((first + r : Nat) : Int) := by omega
   have i1 : 0 <= ((first + (2 * r + 1) : Nat) : Int) /\ ((first + (2 * r + 1) : Nat) : Int) < (n : Int) := by omega
   have i2 : 0 <= ((first + r : Nat) : Int) /\ ((first + r : Nat) : Int) < (n : Int) := by omega
   have hng : ∀ x y, lt x y = decide (hc.c x y < 0) := hc.neg
   have hng' := Hid.mk hng
   clear hng
   by_cases hw : 2 * r + 2 < hi /\ hc.c e[first + (2 * r + 1)]! e[first + (2 * r + 1) + 1]! < 0
   ·obtain ⟨hw1, hw2⟩ := hw
    have hw1' : ((2 * r + 2 : Nat) : Int) < (hi : Int) := by omega
    have i3 : 0 <= ((first + (2 * r + 1) + 1 : Nat) : Int) /\ ((first + (2 * r + 1) + 1 : Nat) : Int) < (n : Int) := by omega
    have i4 : 0 <= ((first + (2 * r + 2) : Nat) : Int) /\ ((first + (2 * r + 2) : Nat) : Int) < (n : Int) := by omega
    have hcond : (decide (2 * r + 1 + 1 < hi) && lt e[first + (2 * r + 1)]! e[first + (2 * r + 1) + 1]!) = true := by rw [hng'.out, decide_eq_true hw2, decide_eq_true (by omega)]; rfl
    have hcond' := Hid.mk hcond
    clear hcond
    by_cases hq : hc.c e[first + r]! e[first + (2 * r + 2)]! < 0
    ·(repeat' (first | (simp -implicitDefEqProofs (maxSteps := 1000000) (disch := first | assumption | omega | exact hgA _ | (simp only [ZDI]; omega)) only [*,lenV,Si.fl_len,Si.fl_rd,Si.fl_wr,Si.fl_wr2,swpI_eq,hc.run,eq_self,Array.size_setIfInBounds,Si.slot 62 (by decide),Si.plan 62 (by decide),Si.tya,Si.tyb,rnT_a,rnT_b,rnT_o,Si.same 63 (by decide),Si.same 64 (by decide),Si.same 44 (by decide),G62,Za,Zb,Zc,Zd,Ze,Zf,Zg,Zh,Zi,Zj,Zk,Zl,Zm,Zn,Zo,Ja,Jb,Jc,J6,Jd,Je,rd_m,J7,J8,Jf,Jg,Jh,Ji,Jj,Jk,J9,Jl,Jm,wr_m,Jn,JA,JB,Jo,Jp,Jq,Jr,Js,Jt,Ju,Jv,Jw,Jx,Jy,Jz,J0,J1,J2,J3,J4,J5,reduceCtorEq,JC,JD,JE,JF,JG,JH,JI,JJ]) | ((with_reducible (first | apply Ok.br | apply Ok.gd | apply Ok.ld)) <;> (intro g; (try simp only [ZGS] at g); try (exfalso; omega)))))
     refine Turn.next (hi - (2 * r + 2)) (by omega) ⟨rfl, 2 * r + 2, swp e (first + r) (first + (2 * r + 2)), rfl, by omega, rfl, rfl, rfl, by rw [swpI_size]; exact hsz, ?_⟩
     rw [<- hre'.out]
     conv => rhs; rw [siftDown, dif_neg (by omega), if_pos hcond'.out, hng'.out, decide_eq_true hq, if_neg (by simp), dif_pos hw1]
    ·(repeat' (first | (simp -implicitDefEqProofs (maxSteps := 1000000) (disch := first | assumption | omega | exact hgA _ | (simp only [ZDI]; omega)) only [*,lenV,Si.fl_len,Si.fl_rd,Si.fl_wr,Si.fl_wr2,swpI_eq,hc.run,eq_self,Array.size_setIfInBounds,Si.slot 62 (by decide),Si.plan 62 (by decide),Si.tya,Si.tyb,rnT_a,rnT_b,rnT_o,Si.same 63 (by decide),Si.same 64 (by decide),Si.same 44 (by decide),G62,Za,Zb,Zc,Zd,Ze,Zf,Zg,Zh,Zi,Zj,Zk,Zl,Zm,Zn,Zo,Ja,Jb,Jc,J6,Jd,Je,rd_m,J7,J8,Jf,Jg,Jh,Ji,Jj,Jk,J9,Jl,Jm,wr_m,Jn,JA,JB,Jo,Jp,Jq,Jr,Js,Jt,Ju,Jv,Jw,Jx,Jy,Jz,J0,J1,J2,J3,J4,J5,reduceCtorEq,JC,JD,JE,JF,JG,JH,JI,JJ]) | ((with_reducible (first | apply Ok.br | apply Ok.gd | apply Ok.ld)) <;> (intro g; (try simp only [ZGS] at g); try (exfalso; omega)))))
     refine Turn.ret ⟨rfl, .inr rfl, rfl, ?_⟩
     rw [<- hre'.out, siftDown, dif_neg (by omega), if_pos hcond'.out, hng'.out, decide_eq_false hq, if_pos (show (!false) = true from rfl)]
   ·have hcond : ¬ (decide (2 * r + 1 + 1 < hi) && lt e[first + (2 * r + 1)]! e[first + (2 * r + 1) + 1]!) = true := by
     intro h
     rw [Bool.and_eq_true, decide_eq_true_eq, hng'.out, decide_eq_true_eq] at h
     exact hw ⟨by omega, h.2⟩
    have hcond' := Hid.mk hcond
    clear hcond
    by_cases hq : hc.c e[first + r]! e[first + (2 * r + 1)]! < 0
    ·by_cases hw1 : 2 * r + 2 < hi
     ·have hw2 : ¬ hc.c e[first + (2 * r + 1)]! e[first + (2 * r + 1) + 1]! < 0 := fun h => hw ⟨hw1, h⟩
      have hw1' : ((2 * r + 2 : Nat) : Int) < (hi : Int) := by omega
      have i3 : 0 <= ((first + (2 * r + 1) + 1 : Nat) : Int) /\ ((first + (2 * r + 1) + 1 : Nat) : Int) < (n : Int) := by omega
      clear hw
      (repeat' (first | (simp -implicitDefEqProofs (maxSteps := 1000000) (disch := first | assumption | omega | exact hgA _ | (simp only [ZDI]; omega)) only [*,lenV,Si.fl_len,Si.fl_rd,Si.fl_wr,Si.fl_wr2,swpI_eq,hc.run,eq_self,Array.size_setIfInBounds,Si.slot 62 (by decide),Si.plan 62 (by decide),Si.tya,Si.tyb,rnT_a,rnT_b,rnT_o,Si.same 63 (by decide),Si.same 64 (by decide),Si.same 44 (by decide),G62,Za,Zb,Zc,Zd,Ze,Zf,Zg,Zh,Zi,Zj,Zk,Zl,Zm,Zn,Zo,Ja,Jb,Jc,J6,Jd,Je,rd_m,J7,J8,Jf,Jg,Jh,Ji,Jj,Jk,J9,Jl,Jm,wr_m,Jn,JA,JB,Jo,Jp,Jq,Jr,Js,Jt,Ju,Jv,Jw,Jx,Jy,Jz,J0,J1,J2,J3,J4,J5,reduceCtorEq,JC,JD,JE,JF,JG,JH,JI,JJ]) | ((with_reducible (first | apply Ok.br | apply Ok.gd | apply Ok.ld)) <;> (intro g; (try simp only [ZGS] at g); try (exfalso; omega)))))
      refine Turn.next (hi - (2 * r + 1)) (by omega) ⟨rfl, 2 * r + 1, swp e (first + r) (first + (2 * r + 1)), rfl, by omega, rfl, rfl, rfl, by rw [swpI_size]; exact hsz, ?_⟩
      rw [<- hre'.out]
      conv => rhs; rw [siftDown, dif_neg (by omega), if_neg hcond'.out, hng'.out, decide_eq_true hq, if_neg (by simp)]
     ·have hw1' : ¬ ((2 * r + 2 : Nat) : Int) < (hi : Int) := by omega
      clear hw
      (repeat' (first | (simp -implicitDefEqProofs (maxSteps := 1000000) (disch := first | assumption | omega | exact hgA _ | (simp only [ZDI]; omega)) only [*,lenV,Si.fl_len,Si.fl_rd,Si.fl_wr,Si.fl_wr2,swpI_eq,hc.run,eq_self,Array.size_setIfInBounds,Si.slot 62 (by decide),Si.plan 62 (by decide),Si.tya,Si.tyb,rnT_a,rnT_b,rnT_o,Si.same 63 (by decide),Si.same 64 (by decide),Si.same 44 (by decide),G62,Za,Zb,Zc,Zd,Ze,Zf,Zg,Zh,Zi,Zj,Zk,Zl,Zm,Zn,Zo,Ja,Jb,Jc,J6,Jd,Je,rd_m,J7,J8,Jf,Jg,Jh,Ji,Jj,Jk,J9,Jl,Jm,wr_m,Jn,JA,JB,Jo,Jp,Jq,Jr,Js,Jt,Ju,Jv,Jw,Jx,Jy,Jz,J0,J1,J2,J3,J4,J5,reduceCtorEq,JC,JD,JE,JF,JG,JH,JI,JJ]) | ((with_reducible (first | apply Ok.br | apply Ok.gd | apply Ok.ld)) <;> (intro g; (try simp only [ZGS] at g); try (exfalso; omega)))))
      refine Turn.next (hi - (2 * r + 1)) (by omega) ⟨rfl, 2 * r + 1, swp e (first + r) (first + (2 * r + 1)), rfl, by omega, rfl, rfl, rfl, by rw [swpI_size]; exact hsz, ?_⟩
      rw [<- hre'.out]
      conv => rhs; rw [siftDown, dif_neg (by omega), if_neg hcond'.out, hng'.out, decide_eq_true hq, if_neg (by simp)]
    ·by_cases hw1 : 2 * r + 2 < hi
     ·have hw2 : ¬ hc.c e[first + (2 * r + 1)]! e[first + (2 * r + 1) + 1]! < 0 := fun h => hw ⟨hw1, h⟩
      have hw1' : ((2 * r + 2 : Nat) : Int) < (hi : Int) := by omega
      have i3 : 0 <= ((first + (2 * r + 1) + 1 : Nat) : Int) /\ ((first + (2 * r + 1) + 1 : Nat) : Int) < (n : Int) := by omega
      clear hw
      (repeat' (first | (simp -implicitDefEqProofs (maxSteps := 1000000) (disch := first | assumption | omega | exact hgA _ | (simp only [ZDI]; omega)) only [*,lenV,Si.fl_len,Si.fl_rd,Si.fl_wr,Si.fl_wr2,swpI_eq,hc.run,eq_self,Array.size_setIfInBounds,Si.slot 62 (by decide),Si.plan 62 (by decide),Si.tya,Si.tyb,rnT_a,rnT_b,rnT_o,Si.same 63 (by decide),Si.same 64 (by decide),Si.same 44 (by decide),G62,Za,Zb,Zc,Zd,Ze,Zf,Zg,Zh,Zi,Zj,Zk,Zl,Zm,Zn,Zo,Ja,Jb,Jc,J6,Jd,Je,rd_m,J7,J8,Jf,Jg,Jh,Ji,Jj,Jk,J9,Jl,Jm,wr_m,Jn,JA,JB,Jo,Jp,Jq,Jr,Js,Jt,Ju,Jv,Jw,Jx,Jy,Jz,J0,J1,J2,J3,J4,J5,reduceCtorEq,JC,JD,JE,JF,JG,JH,JI,JJ]) | ((with_reducible (first | apply Ok.br | apply Ok.gd | apply Ok.ld)) <;> (intro g; (try simp only [ZGS] at g); try (exfalso; omega)))))
      refine Turn.ret ⟨rfl, .inr rfl, rfl, ?_⟩
      rw [<- hre'.out, siftDown, dif_neg (by omega), if_neg hcond'.out, hng'.out, decide_eq_false hq, if_pos (show (!false) = true from rfl)]
     ·have hw1' : ¬ ((2 * r + 2 : Nat) : Int) < (hi : Int) := by omega
      clear hw
      (repeat' (first | (simp -implicitDefEqProofs (maxSteps := 1000000) (disch := first | assumption | omega | exact hgA _ | (simp only [ZDI]; omega)) only [*,lenV,Si.fl_len,Si.fl_rd,Si.fl_wr,Si.fl_wr2,swpI_eq,hc.run,eq_self,Array.size_setIfInBounds,Si.slot 62 (by decide),Si.plan 62 (by decide),Si.tya,Si.tyb,rnT_a,rnT_b,rnT_o,Si.same 63 (by decide),Si.same 64 (by decide),Si.same 44 (by decide),G62,Za,Zb,Zc,Zd,Ze,Zf,Zg,Zh,Zi,Zj,Zk,Zl,Zm,Zn,Zo,Ja,Jb,Jc,J6,Jd,Je,rd_m,J7,J8,Jf,Jg,Jh,Ji,Jj,Jk,J9,Jl,Jm,wr_m,Jn,JA,JB,Jo,Jp,Jq,Jr,Js,Jt,Ju,Jv,Jw,Jx,Jy,Jz,J0,J1,J2,J3,J4,J5,reduceCtorEq,JC,JD,JE,JF,JG,JH,JI,JJ]) | ((with_reducible (first | apply Ok.br | apply Ok.gd | apply Ok.ld)) <;> (intro g; (try simp only [ZGS] at g); try (exfalso; omega)))))
      refine Turn.ret ⟨rfl, .inr rfl, rfl, ?_⟩
      rw [<- hre'.out, siftDown, dif_neg (by omega), if_neg hcond'.out, hng'.out, decide_eq_false hq, if_pos (show (!false) = true from rfl)]
 ·intro x ⟨e', l', H'⟩ hW ⟨hx, h2', h3⟩
  dsimp only at hW h2' h3
  subst l' H'
  rw [hW.spread]
  clear hW
  simp only [spread_t,spread_f,spread_n,Nat.zero_add,Nat.reduceAdd]
  rcases hx with rfl | rfl
  ·(repeat' (first | (simp -implicitDefEqProofs (maxSteps := 1000000) (disch := first | assumption | omega | exact hgA _ | (simp only [ZDI]; omega)) only [*,Si.slot 62 (by decide),Si.plan 62 (by decide),Si.tya,Si.tyb,rnT_a,rnT_b,rnT_o,Si.same 63 (by decide),Si.same 64 (by decide),Si.same 44 (by decide),G62,Za,Zb,Zc,Zd,Ze,Zf,Zg,Zh,Zi,Zj,Zk,Zl,Zm,Zn,Zo,Ja,Jb,Jc,J6,Jd,Je,rd_m,J7,J8,Jf,Jg,Jh,Ji,Jj,Jk,J9,Jl,Jm,wr_m,Jn,JA,JB,Jo,Jp,Jq,Jr,Js,Jt,Ju,Jv,Jw,Jx,Jy,Jz,J0,J1,J2,J3,J4,J5,reduceCtorEq,JC,JD,JE,JF,JG,JH,JI,JJ]) | ((with_reducible (first | apply Ok.br | apply Ok.gd | apply Ok.ld)) <;> (intro g; (try simp only [ZGS] at g); try (exfalso; omega)))))
   exact hQ'.out _ rfl
  ·(repeat' (first | (simp -implicitDefEqProofs (maxSteps := 1000000) (disch := first | assumption | omega | exact hgA _ | (simp only [ZDI]; omega)) only [*,Si.slot 62 (by decide),Si.plan 62 (by decide),Si.tya,Si.tyb,rnT_a,rnT_b,rnT_o,Si.same 63 (by decide),Si.same 64 (by decide),Si.same 44 (by decide),G62,Za,Zb,Zc,Zd,Ze,Zf,Zg,Zh,Zi,Zj,Zk,Zl,Zm,Zn,Zo,Ja,Jb,Jc,J6,Jd,Je,rd_m,J7,J8,Jf,Jg,Jh,Ji,Jj,Jk,J9,Jl,Jm,wr_m,Jn,JA,JB,Jo,Jp,Jq,Jr,Js,Jt,Ju,Jv,Jw,Jx,Jy,Jz,J0,J1,J2,J3,J4,J5,reduceCtorEq,JC,JD,JE,JF,JG,JH,JI,JJ]) | ((with_reducible (first | apply Ok.br | apply Ok.gd | apply Ok.ld)) <;> (intro g; (try simp only [ZGS] at g); try (exfalso; omega)))))
   exact hQ'.out _ rfl
theorem heapBuild_size (lt : α -> α -> Bool) (hi first : Nat) : ∀ (k : Nat) (d : Array α), (heapBuild lt hi first k d).size = d.size
 | 0, d => rfl
 | k + 1, d => by rw [heapBuild, heapBuild_size lt hi first k, siftDown_size lt hi first _ _ _ (Nat.le_refl _)]
set_option maxHeartbeats 1000000 in
theorem heap_at (hc : Cmp Si fv lt b n0) {H : Heap} {g n cap z : Nat} {d : Array α} (hb : b < H.length) (hg : hc.good H) (hn : n <= d.size) (hl : d.size <= 1000000000) {i0 j0 : Nat} (h1 : i0 < j0) (h2 : j0 <= n) :
  D X (.fn (Si.f 49) []) [.sl (.at b g 0) n cap z, .int .i64 i0, .int .i64 j0, fv] (Si.hs H b g d) = some (.tup [], Si.hs H b g (heapSort lt d i0 j0)) := by
 refine Ok.eq ?_
 refine Ok.aim fun Q hQ => ?_
 have hQ' := Hid.mk hQ
 clear hQ
 unfold SI.hs at hQ' ⊢
 have hgA := fun x => hc.gset H b x hg (.inl rfl)
 have e1 : (j0 : Int) - (i0 : Int) = ((j0 - i0 : Nat) : Int) := by omega
 have e2 : (((j0 - i0 : Nat) : Int) - 1).tdiv 2 = (((j0 - i0 - 1) / 2 + 1 : Nat) : Int) - 1 := by rw [Int.tdiv_eq_ediv_of_nonneg (by omega)]; omega
 (refine Ok.body ((Si.body 49 (by decide)).trans (congrArg _ body49)) (Si.pin 49 (by decide)) ?_; simp only [c49,Try.f49,Option.getD_some,rnC,rnP_eq,rnO_load,rnO_store,rnO_indexAddr,rnO_call,rnO_builtin,rnO_move,rnO_assign,rnO_pick,rnO_alloc,rnO_nilCheck,rnO_binOp,rnO_unOp,rnO_convert,rnO_extract,rnG_func,rnG_tmp,List.toList_toArray,List.map_cons,List.map_nil,List.map_toArray,Si.nsl 49 (by decide),nslot49,List.append_nil,List.map,List.replicate,List.length_cons,List.length_nil,Nat.reduceAdd,Nat.reduceSub,List.cons_append,List.nil_append])
 (repeat' (first | (simp -implicitDefEqProofs (maxSteps := 1000000) (disch := first | assumption | omega | exact hgA _ | (simp only [ZDI]; omega)) only [*,lenV,Si.slot 49 (by decide),Si.plan 49 (by decide),Si.tya,Si.tyb,rnT_a,rnT_b,rnT_o,Si.same 63 (by decide),Si.same 64 (by decide),Si.same 44 (by decide),G49,Za,Zb,Zc,Zd,Ze,Zf,Zg,Zh,Zi,Zj,Zk,Zl,Zm,Zn,Zo,Ja,Jb,Jc,J6,Jd,Je,rd_m,J7,J8,Jf,Jg,Jh,Ji,Jj,Jk,J9,Jl,Jm,wr_m,Jn,JA,JB,Jo,Jp,Jq,Jr,Js,Jt,Ju,Jv,Jw,Jx,Jy,Jz,J0,J1,J2,J3,J4,J5,reduceCtorEq,JC,JD,JE,JF,JG,JH,JI,JJ]) | ((with_reducible (first | apply Ok.br | apply Ok.gd | apply Ok.ld)) <;> (intro g; (try simp only [ZGS] at g); try (exfalso; omega)))))
 refine Ok.loop [BF, BF, BF, BF, BF, BF, BF, BF, BF, BF, BF, BT, BF, BF, BF, BF, BF, BF, BF, BF, BT, BT, BT, BT, BT, BT, BT, BT, BT, BT, BF, BF, BF, BF, BF, BF, BF, BF, BF, BF, BF, BF, BF, BF, BF, BF, BF, BF, BF, BF, BF, BF, BF, BF, BF, BF, BF, BF, BF, BF] (fun m s2 => ∃ (k : Nat) (e : Array α), m = k /\ k <= (j0 - i0 - 1) / 2 + 1 /\ tv s2.e 11 = .v (.int .i64 ((k : Int) - 1)) /\ s2.l = [] /\ s2.h = H.set b (.cells g true (Si.fl e)) /\ e.size = d.size /\ heapBuild lt (j0 - i0) i0 k e = heapBuild lt (j0 - i0) i0 ((j0 - i0 - 1) / 2 + 1) d)
  (fun x s2 => x = .exit 0 /\ s2.l = [] /\ s2.h = H.set b (.cells g true (Si.fl (heapBuild lt (j0 - i0) i0 ((j0 - i0 - 1) / 2 + 1) d)))) ((j0 - i0 - 1) / 2 + 1) ⟨_, d, rfl, Nat.le_refl _, rfl, rfl, rfl, rfl, rfl⟩ ?_ ?_
 ·intro m ⟨e', l', H'⟩ hW ⟨k, e, hm, hk, h8, h2', h3, hsz, hre⟩
  dsimp only at hW h8 h2' h3
  subst l' H'
  rw [hW.spread]
  simp only [spread_t,spread_f,spread_n,Nat.zero_add,Nat.reduceAdd,h8]
  have hre' := Hid.mk hre
  clear hre e2
  cases k with
  | zero =>
   have e3 : ((0 : Nat) : Int) - 1 = -1 := by omega
   have e4 : ¬ (0 : Int) <= -1 := by omega
   (repeat' (first | (simp -implicitDefEqProofs (maxSteps := 1000000) (disch := first | assumption | omega | exact hgA _ | (simp only [ZDI]; omega)) only [*,lenV,Si.slot 49 (by decide),Si.plan 49 (by decide),Si.tya,Si.tyb,rnT_a,rnT_b,rnT_o,Si.same 63 (by decide),Si.same 64 (by decide),Si.same 44 (by decide),G49,Za,Zb,Zc,Zd,Ze,Zf,Zg,Zh,Zi,Zj,Zk,Zl,Zm,Zn,Zo,Ja,Jb,Jc,J6,Jd,Je,rd_m,J7,J8,Jf,Jg,Jh,Ji,Jj,Jk,J9,Jl,Jm,wr_m,Jn,JA,JB,Jo,Jp,Jq,Jr,Js,Jt,Ju,Jv,Jw,Jx,Jy,Jz,J0,J1,J2,J3,J4,J5,reduceCtorEq,JC,JD,JE,JF,JG,JH,JI,JJ]) | ((with_reducible (first | apply Ok.br | apply Ok.gd | apply Ok.ld)) <;> (intro g; (try simp only [ZGS] at g); try (exfalso; omega)))))
   exact Turn.exit ⟨rfl, rfl, rfl, by rw [<- hre'.out]; rfl⟩
  | succ k =>
   have e3 : ((k + 1 : Nat) : Int) - 1 = (k : Int) := by omega
   have e4 : (0 : Int) <= (k : Int) := by omega
   have hsf := sift_at hc (g := g) (cap := cap) (z := z) (n := n) (d := e) hb hg (by omega) (by omega) (lo := k) (hi := j0 - i0) (first := i0) (by omega) (by omega)
   unfold SI.hs at hsf
   (repeat' (first | (simp -implicitDefEqProofs (maxSteps := 1000000) (disch := first | assumption | omega | exact hgA _ | (simp only [ZDI]; omega)) only [*,lenV,Si.slot 49 (by decide),Si.plan 49 (by decide),Si.tya,Si.tyb,rnT_a,rnT_b,rnT_o,Si.same 63 (by decide),Si.same 64 (by decide),Si.same 44 (by decide),G49,Za,Zb,Zc,Zd,Ze,Zf,Zg,Zh,Zi,Zj,Zk,Zl,Zm,Zn,Zo,Ja,Jb,Jc,J6,Jd,Je,rd_m,J7,J8,Jf,Jg,Jh,Ji,Jj,Jk,J9,Jl,Jm,wr_m,Jn,JA,JB,Jo,Jp,Jq,Jr,Js,Jt,Ju,Jv,Jw,Jx,Jy,Jz,J0,J1,J2,J3,J4,J5,reduceCtorEq,JC,JD,JE,JF,JG,JH,JI,JJ]) | ((with_reducible (first | apply Ok.br | apply Ok.gd | apply Ok.ld)) <;> (intro g; (try simp only [ZGS] at g); try (exfalso; omega)))))
   refine Turn.next k (by omega) ⟨rfl, k, siftDown lt (j0 - i0) i0 k e, rfl, by omega, rfl, rfl, rfl, ?_, ?_⟩
   ·rw [siftDown_size _ _ _ _ _ _ (Nat.le_refl _)]; exact hsz
   ·rw [<- hre'.out]; rfl
 ·intro x ⟨e', l', H'⟩ hW ⟨hx, h2', h3⟩
  dsimp only at hW h2' h3
  subst l' hx H'
  rw [hW.spread]
  clear hW e2
  simp only [spread_t,spread_f,spread_n,Nat.zero_add,Nat.reduceAdd]
  have hbs := heapBuild_size lt (j0 - i0) i0 ((j0 - i0 - 1) / 2 + 1) d
  have hfin : heapSort lt d i0 j0 = heapPop lt i0 (j0 - i0) (heapBuild lt (j0 - i0) i0 ((j0 - i0 - 1) / 2 + 1) d) := rfl
  have hfin' := Hid.mk hfin
  clear hfin
  generalize heapBuild lt (j0 - i0) i0 ((j0 - i0 - 1) / 2 + 1) d = d1 at hbs hfin'
  (repeat' (first | (simp -implicitDefEqProofs (maxSteps := 1000000) (disch := first | assumption | omega | exact hgA _ | (simp only [ZDI]; omega)) only [*,Si.slot 49 (by decide),Si.plan 49 (by decide),Si.tya,Si.tyb,rnT_a,rnT_b,rnT_o,Si.same 63 (by decide),Si.same 64 (by decide),Si.same 44 (by decide),G49,Za,Zb,Zc,Zd,Ze,Zf,Zg,Zh,Zi,Zj,Zk,Zl,Zm,Zn,Zo,Ja,Jb,Jc,J6,Jd,Je,rd_m,J7,J8,Jf,Jg,Jh,Ji,Jj,Jk,J9,Jl,Jm,wr_m,Jn,JA,JB,Jo,Jp,Jq,Jr,Js,Jt,Ju,Jv,Jw,Jx,Jy,Jz,J0,J1,J2,J3,J4,J5,reduceCtorEq,JC,JD,JE,JF,JG,JH,JI,JJ]) | ((with_reducible (first | apply Ok.br | apply Ok.gd | apply Ok.ld)) <;> (intro g; (try simp only [ZGS] at g); try (exfalso; omega)))))
  refine Ok.loop [BF, BF, BF, BF, BF, BF, BF, BF, BF, BF, BF, BF, BT, BF, BF, BF, BF, BF, BF, BF, BF, BF, BF, BF, BF, BF, BF, BF, BF, BF, BF, BF, BT, BT, BT, BT, BT, BT, BT, BT, BT, BT, BT, BT, BT, BT, BT, BT, BT, BT, BT, BT, BT, BT, BT, BT, BT, BT, BT, BT] (fun m s2 => ∃ (k : Nat) (e : Array α), m = k /\ k <= j0 - i0 /\ tv s2.e 12 = .v (.int .i64 ((k : Int) - 1)) /\ s2.l = [] /\ s2.h = H.set b (.cells g true (Si.fl e)) /\ e.size = d.size /\ heapPop lt i0 k e = heapPop lt i0 (j0 - i0) d1)
   (fun x s2 => x = .exit 2 /\ s2.l = [] /\ s2.h = H.set b (.cells g true (Si.fl (heapPop lt i0 (j0 - i0) d1)))) (j0 - i0) ⟨_, d1, rfl, Nat.le_refl _, rfl, rfl, rfl, hbs, rfl⟩ ?_ ?_
  ·intro m ⟨e', l', H'⟩ hW ⟨k, e, hm, hk, h8, h2', h3, hsz, hre⟩
   dsimp only at hW h8 h2' h3
   subst l' H'
   rw [hW.spread]
   simp only [spread_t,spread_f,spread_n,Nat.zero_add,Nat.reduceAdd,h8]
   have hre' := Hid.mk hre
   clear hre hbs
   cases k with
   | zero =>
    have e3 : ((0 : Nat) : Int) - 1 = -1 := by omega
    have e4 : ¬ (0 : Int) <= -1 := by omega
    (repeat' (first | (simp -implicitDefEqProofs (maxSteps := 1000000) (disch := first | assumption | omega | exact hgA _ | (simp only [ZDI]; omega)) only [*,lenV,Si.slot 49 (by decide),Si.plan 49 (by decide),Si.tya,Si.tyb,rnT_a,rnT_b,rnT_o,Si.same 63 (by decide),Si.same 64 (by decide),Si.same 44 (by decide),G49,Za,Zb,Zc,Zd,Ze,Zf,Zg,Zh,Zi,Zj,Zk,Zl,Zm,Zn,Zo,Ja,Jb,Jc,J6,Jd,Je,rd_m,J7,J8,Jf,Jg,Jh,Ji,Jj,Jk,J9,Jl,Jm,wr_m,Jn,JA,JB,Jo,Jp,Jq,Jr,Js,Jt,Ju,Jv,Jw,Jx,Jy,Jz,J0,J1,J2,J3,J4,J5,reduceCtorEq,JC,JD,JE,JF,JG,JH,JI,JJ]) | ((with_reducible (first | apply Ok.br | apply Ok.gd | apply Ok.ld)) <;> (intro g; (try simp only [ZGS] at g); try (exfalso; omega)))))
    exact Turn.exit ⟨rfl, rfl, rfl, by rw [<- hre'.out]; rfl⟩
   | succ k =>
    have e3 : ((k + 1 : Nat) : Int) - 1 = (k : Int) := by omega
    have e4 : (0 : Int) <= (k : Int) := by omega
    have e5 : (i0 : Int) + (k : Int) = ((i0 + k : Nat) : Int) := by omega
    have i1 : 0 <= ((i0 + k : Nat) : Int) /\ ((i0 + k : Nat) : Int) < (n : Int) := by omega
    have i2 : 0 <= (i0 : Int) /\ (i0 : Int) < (n : Int) := by omega
    have hsf := sift_at hc (g := g) (cap := cap) (z := z) (n := n) (d := swp e i0 (i0 + k)) hb hg (by rw [swpI_size]; omega) (by rw [swpI_size]; omega) (lo := 0) (hi := k) (first := i0) (by omega) (by omega)
    unfold SI.hs at hsf
    rw [Int.natCast_zero] at hsf
    (repeat' (first | (simp -implicitDefEqProofs (maxSteps := 1000000) (disch := first | assumption | omega | exact hgA _ | (simp only [ZDI]; omega)) only [*,lenV,Si.fl_len,Si.fl_rd,Si.fl_wr,Si.fl_wr2,swpI_eq,hc.run,eq_self,Array.size_setIfInBounds,Si.slot 49 (by decide),Si.plan 49 (by decide),Si.tya,Si.tyb,rnT_a,rnT_b,rnT_o,Si.same 63 (by decide),Si.same 64 (by decide),Si.same 44 (by decide),G49,Za,Zb,Zc,Zd,Ze,Zf,Zg,Zh,Zi,Zj,Zk,Zl,Zm,Zn,Zo,Ja,Jb,Jc,J6,Jd,Je,rd_m,J7,J8,Jf,Jg,Jh,Ji,Jj,Jk,J9,Jl,Jm,wr_m,Jn,JA,JB,Jo,Jp,Jq,Jr,Js,Jt,Ju,Jv,Jw,Jx,Jy,Jz,J0,J1,J2,J3,J4,J5,reduceCtorEq,JC,JD,JE,JF,JG,JH,JI,JJ]) | ((with_reducible (first | apply Ok.br | apply Ok.gd | apply Ok.ld)) <;> (intro g; (try simp only [ZGS] at g); try (exfalso; omega)))))
    refine Turn.next k (by omega) ⟨rfl, k, siftDown lt k i0 0 (swp e i0 (i0 + k)), rfl, by omega, rfl, rfl, rfl, ?_, ?_⟩
    ·rw [siftDown_size _ _ _ _ _ _ (Nat.le_refl _), swpI_size]; exact hsz
    ·rw [<- hre'.out]; rfl
  ·intro x ⟨e', l', H'⟩ hW ⟨hx, h2', h3⟩
   dsimp only at hW h2' h3
   subst l' hx H'
   rw [hW.spread]
   clear hW
   simp only [spread_t,spread_f,spread_n,Nat.zero_add,Nat.reduceAdd]
   (repeat' (first | (simp -implicitDefEqProofs (maxSteps := 1000000) (disch := first | assumption | omega | exact hgA _ | (simp only [ZDI]; omega)) only [*,Si.slot 49 (by decide),Si.plan 49 (by decide),Si.tya,Si.tyb,rnT_a,rnT_b,rnT_o,Si.same 63 (by decide),Si.same 64 (by decide),Si.same 44 (by decide),G49,Za,Zb,Zc,Zd,Ze,Zf,Zg,Zh,Zi,Zj,Zk,Zl,Zm,Zn,Zo,Ja,Jb,Jc,J6,Jd,Je,rd_m,J7,J8,Jf,Jg,Jh,Ji,Jj,Jk,J9,Jl,Jm,wr_m,Jn,JA,JB,Jo,Jp,Jq,Jr,Js,Jt,Ju,Jv,Jw,Jx,Jy,Jz,J0,J1,J2,J3,J4,J5,reduceCtorEq,JC,JD,JE,JF,JG,JH,JI,JJ]) | ((with_reducible (first | apply Ok.br | apply Ok.gd | apply Ok.ld)) <;> (intro g; (try simp only [ZGS] at g); try (exfalso; omega)))))
   exact hQ'.out _ (by rw [<- hfin'.out])
end Go.Ev
set_option maxRecDepth 100000
namespace Go.Ev
open Go.Ev renaming exPure -> Ja, ofValue -> Jb, cellsV -> Jc, load -> Jd, store -> Je, binOp -> Jf, intOp -> Jg, rdV -> Jh, vsame -> Ji, vsames -> Jj, makeSliceV -> Jk, resV -> Jl, isCell -> Jm, nilCheckV -> Jn, allV -> Jo, builtinV -> Jp, lenV -> Jq, indexAddrV -> Jr, unOp -> Js, minmaxV -> Jt, minmax -> Ju, sliceV -> Jv, asInt -> Jw, appendV -> Jx, forkB -> Jy, roY -> Jz, rwB -> J0, copyV -> J1, clearV -> J2, convV -> J3, sliceCells -> J4, shift -> J5
open Bool renaming true -> BT, false -> BF
open Nat renaming reduceEqDiff -> J6, reduceLT -> J7, reduceAdd -> J8, reduceBEq -> J9, reduceSub -> JA, reduceMul -> JB, reduceLeDiff -> JJ
open Int renaming reduceLT -> JC, reduceLE -> JD, reduceAdd -> JE, reduceSub -> JF, reduceNeg -> JG, reduceToNat -> JH, reduceEq -> JI
open Go.Proofs Go.Sort
variable {α : Type} [Inhabited α] {Si : SI α} {fv : V} {lt : α -> α -> Bool} {b n0 : Nat}
theorem scanUp_next {p : α -> Bool} {d : Array α} {j i : Nat} (h : i <= j) (hp : p d[i]! = true) : scanUp p d j i = scanUp p d j (i + 1) := by
 conv => lhs; rw [scanUp]
 rw [if_pos (by simp [h, hp])]
theorem scanUp_stop {p : α -> Bool} {d : Array α} {j i : Nat} (h : ¬ i <= j \/ p d[i]! = false) : scanUp p d j i = i := by
 rw [scanUp, if_neg]
 rcases h with h | h <;> simp [h]
theorem scanDown_next {p : α -> Bool} {d : Array α} {j i : Nat} (h : i <= j + 1) (hp : p d[j + 1]! = true) : scanDown p d i (j + 1) = scanDown p d i j := by
 rw [scanDown, if_pos (by simp [h, hp])]
theorem scanDown_stop {p : α -> Bool} {d : Array α} {j i : Nat} (h : ¬ i <= j + 1 \/ p d[j + 1]! = false) : scanDown p d i (j + 1) = j + 1 := by
 rw [scanDown, if_neg]
 rcases h with h | h <;> simp [h]
theorem scanDown_stop0 {p : α -> Bool} {d : Array α} {j i : Nat} (h : ¬ i <= j) : scanDown p d i j = j := by
 cases j with
 | zero => rfl
 | succ j => exact scanDown_stop (.inl h)
set_option maxHeartbeats 2000000 in
theorem partEq_at (hc : Cmp Si fv lt b n0) {H : Heap} {g n cap z : Nat} {d : Array α} (hb : b < H.length) (hg : hc.good H) (hn : n <= d.size) (hl : d.size <= 1000000000) {i0 j0 pv : Nat} (h1 : i0 <= pv) (h2 : pv < j0) (h3 : j0 <= n) :
  D X (.fn (Si.f 54) []) [.sl (.at b g 0) n cap z, .int .i64 i0, .int .i64 j0, .int .i64 pv, fv] (Si.hs H b g d) = some (.int .i64 (partitionEqual lt d i0 j0 pv).1, Si.hs H b g (partitionEqual lt d i0 j0 pv).2) := by
 refine Ok.eq ?_
 refine Ok.aim fun Q hQ => ?_
 have hQ' := Hid.mk hQ
 clear hQ
 unfold SI.hs at hQ' ⊢
 have hgA := fun x => hc.gset H b x hg (.inl rfl)
 unfold partitionEqual at hQ'
 have e1 : (j0 : Int) - 1 = ((j0 - 1 : Nat) : Int) := by omega
 have g1 : 0 <= (i0 : Int) /\ (i0 : Int) < (n : Int) := by omega
 have g2 : 0 <= (pv : Int) /\ (pv : Int) < (n : Int) := by omega
 have g3 : i0 < d.size := by omega
 have g4 : pv < d.size := by omega
 (refine Ok.body ((Si.body 54 (by decide)).trans (congrArg _ body54)) (Si.pin 54 (by decide)) ?_; simp only [c54,Try.f54,Option.getD_some,rnC,rnP_eq,rnO_load,rnO_store,rnO_indexAddr,rnO_call,rnO_builtin,rnO_move,rnO_assign,rnO_pick,rnO_alloc,rnO_nilCheck,rnO_binOp,rnO_unOp,rnO_convert,rnO_extract,rnG_func,rnG_tmp,List.toList_toArray,List.map_cons,List.map_nil,List.map_toArray,Si.nsl 54 (by decide),nslot54,List.append_nil,List.map,List.replicate,List.length_cons,List.length_nil,Nat.reduceAdd,Nat.reduceSub,List.cons_append,List.nil_append])
 (repeat' (first | (simp -implicitDefEqProofs (maxSteps := 1000000) (disch := first | assumption | omega | exact hgA _ | (simp only [ZDI]; omega)) only [*,lenV,Si.fl_len,Si.fl_rd,Si.fl_wr,Si.fl_wr2,swpI_eq,hc.run,eq_self,Array.size_setIfInBounds,Si.slot 54 (by decide),Si.plan 54 (by decide),Si.tya,Si.tyb,rnT_a,rnT_b,rnT_o,Si.same 63 (by decide),Si.same 64 (by decide),Si.same 44 (by decide),G54,Za,Zb,Zc,Zd,Ze,Zf,Zg,Zh,Zi,Zj,Zk,Zl,Zm,Zn,Zo,Ja,Jb,Jc,J6,Jd,Je,rd_m,J7,J8,Jf,Jg,Jh,Ji,Jj,Jk,J9,Jl,Jm,wr_m,Jn,JA,JB,Jo,Jp,Jq,Jr,Js,Jt,Ju,Jv,Jw,Jx,Jy,Jz,J0,J1,J2,J3,J4,J5,reduceCtorEq,JC,JD,JE,JF,JG,JH,JI,JJ]) | ((with_reducible (first | apply Ok.br | apply Ok.gd | apply Ok.ld)) <;> (intro g; (try simp only [ZGS] at g); try (exfalso; omega)))))
 have hs1 : (swp d i0 pv).size = d.size := swpI_size d i0 pv
 generalize swp d i0 pv = d1 at hs1 hQ'
 refine Ok.loop [BF, BF, BF, BF, BF, BF, BF, BF, BF, BF, BF, BT, BT, BF, BF, BF, BF, BF, BF, BF, BF, BF, BF, BF, BF, BF, BF, BF, BF, BF, BF, BT, BT, BT, BT, BT, BT, BT, BT, BT, BT, BT, BT, BT, BT, BT, BT, BT, BT, BT, BT, BT, BT, BT, BT, BT, BT, BT, BT, BT, BT, BT, BT, BT, BT, BT, BT, BT, BT, BT, BT, BT, BT, BT, BT, BT, BT, BT, BT, BT, BT, BT, BT, BT, BT, BT, BT, BT, BT, BF] (fun m s2 => ∃ (i j : Nat) (e : Array α), m = j + 1 - i /\ i0 < i /\ j < j0 /\ tv s2.e 11 = .v (.int .i64 i) /\ tv s2.e 12 = .v (.int .i64 j) /\ s2.l = [] /\ s2.h = H.set b (.cells g true (Si.fl e)) /\ e.size = d.size /\ partEqLoop lt i0 i j e = partEqLoop lt i0 (i0 + 1) (j0 - 1) d1)
  (fun x s2 => x = .exit 0 /\ tv s2.e 11 = .v (.int .i64 ((partEqLoop lt i0 (i0 + 1) (j0 - 1) d1).1 : Nat)) /\ s2.l = [] /\ s2.h = H.set b (.cells g true (Si.fl (partEqLoop lt i0 (i0 + 1) (j0 - 1) d1).2))) (j0 - 1 + 1 - (i0 + 1)) ⟨i0 + 1, j0 - 1, d1, rfl, by omega, by omega, rfl, rfl, rfl, rfl, hs1, rfl⟩ ?_ ?_
 ·intro m ⟨e', l', H'⟩ hW ⟨i, j, e, hm, hi, hj, h11, h12, k2, k3, hsz, hre⟩
  dsimp only at hW h11 h12 k2 k3
  subst l' H'
  rw [hW.spread]
  simp only [spread_t,spread_f,spread_n,Nat.zero_add,Nat.reduceAdd,h11,h12]
  clear hW
  have hre' := Hid.mk hre
  have hng' : Hid (∀ x y, lt x y = decide (hc.c x y < 0)) := ⟨hc.neg⟩
  have g5 : i0 < e.size := by omega
  clear hre e1 g2 g3 g4 hQ'
  (repeat' (first | (simp -implicitDefEqProofs (maxSteps := 1000000) (disch := first | assumption | omega | exact hgA _ | (simp only [ZDI]; omega)) only [*,lenV,Si.slot 54 (by decide),Si.plan 54 (by decide),Si.tya,Si.tyb,rnT_a,rnT_b,rnT_o,Si.same 63 (by decide),Si.same 64 (by decide),Si.same 44 (by decide),G54,Za,Zb,Zc,Zd,Ze,Zf,Zg,Zh,Zi,Zj,Zk,Zl,Zm,Zn,Zo,Ja,Jb,Jc,J6,Jd,Je,rd_m,J7,J8,Jf,Jg,Jh,Ji,Jj,Jk,J9,Jl,Jm,wr_m,Jn,JA,JB,Jo,Jp,Jq,Jr,Js,Jt,Ju,Jv,Jw,Jx,Jy,Jz,J0,J1,J2,J3,J4,J5,reduceCtorEq,JC,JD,JE,JF,JG,JH,JI,JJ]) | ((with_reducible (first | apply Ok.br | apply Ok.gd | apply Ok.ld)) <;> (intro g; (try simp only [ZGS] at g); try (exfalso; omega)))))
  refine Ok.loop [BF, BF, BF, BF, BF, BF, BF, BF, BF, BF, BF, BT, BF, BF, BF, BF, BF, BF, BF, BF, BF, BF, BF, BF, BF, BF, BF, BF, BF, BF, BF, BT, BT, BT, BT, BT, BT, BT, BT, BT, BT, BT, BT, BT, BT, BT, BT, BT, BT, BT, BF, BF, BF, BF, BF, BF, BF, BF, BF, BF, BF, BF, BF, BF, BF, BF, BF, BF, BF, BF, BF, BF, BF, BF, BF, BF, BF, BF, BF, BF, BF, BF, BF, BF, BF, BF, BF, BF, BF, BF] (fun m s2 => ∃ i2 : Nat, m = j + 1 - i2 /\ i <= i2 /\ tv s2.e 11 = .v (.int .i64 i2) /\ s2.l = [] /\ s2.h = H.set b (.cells g true (Si.fl e)) /\ scanUp (fun x => !lt e[i0]! x) e j i2 = scanUp (fun x => !lt e[i0]! x) e j i)
   (fun x s2 => x = .exit 2 /\ tv s2.e 11 = .v (.int .i64 (scanUp (fun x => !lt e[i0]! x) e j i : Nat)) /\ s2.l = [] /\ s2.h = H.set b (.cells g true (Si.fl e))) (j + 1 - i) ⟨i, rfl, Nat.le_refl _, rfl, rfl, rfl, rfl⟩ ?_ ?_
  ·intro m2 ⟨e3, l3, H3⟩ hW2 ⟨i2, hm2, hi2, h9, q2, q3, hsc⟩
   dsimp only at hW2 h9 q2 q3
   subst l3 H3
   rw [hW2.spread]
   simp only [spread_t,spread_f,spread_n,Nat.zero_add,Nat.reduceAdd,h9]
   clear hW2
   have hsc' := Hid.mk hsc
   clear hsc
   by_cases hle : i2 <= j
   ·have hle' : (i2 : Int) <= (j : Int) := by omega
    have g1 : 0 <= (i2 : Int) /\ (i2 : Int) < (n : Int) := by omega
    have g2 : i2 < e.size := by omega
    by_cases hp : hc.c e[i0]! e[i2]! < 0
    ·(repeat' (first | (simp -implicitDefEqProofs (maxSteps := 1000000) (disch := first | assumption | omega | exact hgA _ | (simp only [ZDI]; omega)) only [*,lenV,Si.fl_len,Si.fl_rd,Si.fl_wr,Si.fl_wr2,swpI_eq,hc.run,eq_self,Array.size_setIfInBounds,Si.slot 54 (by decide),Si.plan 54 (by decide),Si.tya,Si.tyb,rnT_a,rnT_b,rnT_o,Si.same 63 (by decide),Si.same 64 (by decide),Si.same 44 (by decide),G54,Za,Zb,Zc,Zd,Ze,Zf,Zg,Zh,Zi,Zj,Zk,Zl,Zm,Zn,Zo,Ja,Jb,Jc,J6,Jd,Je,rd_m,J7,J8,Jf,Jg,Jh,Ji,Jj,Jk,J9,Jl,Jm,wr_m,Jn,JA,JB,Jo,Jp,Jq,Jr,Js,Jt,Ju,Jv,Jw,Jx,Jy,Jz,J0,J1,J2,J3,J4,J5,reduceCtorEq,JC,JD,JE,JF,JG,JH,JI,JJ]) | ((with_reducible (first | apply Ok.br | apply Ok.gd | apply Ok.ld)) <;> (intro g; (try simp only [ZGS] at g); try (exfalso; omega)))))
     exact Turn.exit ⟨rfl, rfl, by rw [<- hsc'.out, scanUp_stop (p := fun x => !lt e[i0]! x) (.inr (by rw [hng'.out]; simp only [decide_eq_true hp,Bool.not_true]))] <;> rfl, rfl, rfl⟩
    ·(repeat' (first | (simp -implicitDefEqProofs (maxSteps := 1000000) (disch := first | assumption | omega | exact hgA _ | (simp only [ZDI]; omega)) only [*,lenV,Si.fl_len,Si.fl_rd,Si.fl_wr,Si.fl_wr2,swpI_eq,hc.run,eq_self,Array.size_setIfInBounds,Si.slot 54 (by decide),Si.plan 54 (by decide),Si.tya,Si.tyb,rnT_a,rnT_b,rnT_o,Si.same 63 (by decide),Si.same 64 (by decide),Si.same 44 (by decide),G54,Za,Zb,Zc,Zd,Ze,Zf,Zg,Zh,Zi,Zj,Zk,Zl,Zm,Zn,Zo,Ja,Jb,Jc,J6,Jd,Je,rd_m,J7,J8,Jf,Jg,Jh,Ji,Jj,Jk,J9,Jl,Jm,wr_m,Jn,JA,JB,Jo,Jp,Jq,Jr,Js,Jt,Ju,Jv,Jw,Jx,Jy,Jz,J0,J1,J2,J3,J4,J5,reduceCtorEq,JC,JD,JE,JF,JG,JH,JI,JJ]) | ((with_reducible (first | apply Ok.br | apply Ok.gd | apply Ok.ld)) <;> (intro g; (try simp only [ZGS] at g); try (exfalso; omega)))))
     exact Turn.next (j + 1 - (i2 + 1)) (by omega) ⟨rfl, i2 + 1, rfl, by omega, rfl, rfl, rfl, by rw [<- hsc'.out, scanUp_next (p := fun x => !lt e[i0]! x) hle (by rw [hng'.out]; simp only [decide_eq_false hp,Bool.not_false])]⟩
   ·have hle' : ¬ (i2 : Int) <= (j : Int) := by omega
    (repeat' (first | (simp -implicitDefEqProofs (maxSteps := 1000000) (disch := first | assumption | omega | exact hgA _ | (simp only [ZDI]; omega)) only [*,lenV,Si.slot 54 (by decide),Si.plan 54 (by decide),Si.tya,Si.tyb,rnT_a,rnT_b,rnT_o,Si.same 63 (by decide),Si.same 64 (by decide),Si.same 44 (by decide),G54,Za,Zb,Zc,Zd,Ze,Zf,Zg,Zh,Zi,Zj,Zk,Zl,Zm,Zn,Zo,Ja,Jb,Jc,J6,Jd,Je,rd_m,J7,J8,Jf,Jg,Jh,Ji,Jj,Jk,J9,Jl,Jm,wr_m,Jn,JA,JB,Jo,Jp,Jq,Jr,Js,Jt,Ju,Jv,Jw,Jx,Jy,Jz,J0,J1,J2,J3,J4,J5,reduceCtorEq,JC,JD,JE,JF,JG,JH,JI,JJ]) | ((with_reducible (first | apply Ok.br | apply Ok.gd | apply Ok.ld)) <;> (intro g; (try simp only [ZGS] at g); try (exfalso; omega)))))
    exact Turn.exit ⟨rfl, rfl, by rw [<- hsc'.out, scanUp_stop (p := fun x => !lt e[i0]! x) (.inl hle)] <;> rfl, rfl, rfl⟩
  ·intro x ⟨e3, l3, H3⟩ hW2 ⟨hx, h9, q2, q3⟩
   dsimp only at hW2 h9 q2 q3
   subst l3 hx H3
   rw [hW2.spread]
   simp only [spread_t,spread_f,spread_n,Nat.zero_add,Nat.reduceAdd,h9]
   clear hW2
   have hge := scanUp_ge (fun x => !lt e[i0]! x) e j i
   generalize hI : scanUp (fun x => !lt e[i0]! x) e j i = I at hge h9
   have hI' := Hid.mk hI
   clear hI
   (repeat' (first | (simp -implicitDefEqProofs (maxSteps := 1000000) (disch := first | assumption | omega | exact hgA _ | (simp only [ZDI]; omega)) only [*,lenV,Si.slot 54 (by decide),Si.plan 54 (by decide),Si.tya,Si.tyb,rnT_a,rnT_b,rnT_o,Si.same 63 (by decide),Si.same 64 (by decide),Si.same 44 (by decide),G54,Za,Zb,Zc,Zd,Ze,Zf,Zg,Zh,Zi,Zj,Zk,Zl,Zm,Zn,Zo,Ja,Jb,Jc,J6,Jd,Je,rd_m,J7,J8,Jf,Jg,Jh,Ji,Jj,Jk,J9,Jl,Jm,wr_m,Jn,JA,JB,Jo,Jp,Jq,Jr,Js,Jt,Ju,Jv,Jw,Jx,Jy,Jz,J0,J1,J2,J3,J4,J5,reduceCtorEq,JC,JD,JE,JF,JG,JH,JI,JJ]) | ((with_reducible (first | apply Ok.br | apply Ok.gd | apply Ok.ld)) <;> (intro g; (try simp only [ZGS] at g); try (exfalso; omega)))))
   refine Ok.loop [BF, BF, BF, BF, BF, BF, BF, BF, BF, BF, BF, BF, BT, BF, BF, BF, BF, BF, BF, BF, BF, BF, BF, BF, BF, BF, BF, BF, BF, BF, BF, BF, BF, BF, BF, BF, BF, BF, BF, BF, BF, BF, BF, BF, BF, BF, BF, BF, BF, BF, BT, BT, BT, BT, BT, BT, BT, BT, BT, BT, BT, BT, BT, BT, BT, BT, BT, BT, BF, BF, BF, BF, BF, BF, BF, BF, BF, BF, BF, BF, BF, BF, BF, BF, BF, BF, BF, BF, BF, BF] (fun m s2 => ∃ j2 : Nat, m = j2 /\ j2 <= j /\ tv s2.e 12 = .v (.int .i64 j2) /\ s2.l = [] /\ s2.h = H.set b (.cells g true (Si.fl e)) /\ scanDown (fun x => lt e[i0]! x) e I j2 = scanDown (fun x => lt e[i0]! x) e I j)
    (fun x s2 => x = .exit 4 /\ tv s2.e 12 = .v (.int .i64 (scanDown (fun x => lt e[i0]! x) e I j : Nat)) /\ s2.l = [] /\ s2.h = H.set b (.cells g true (Si.fl e))) j ⟨j, rfl, Nat.le_refl _, rfl, rfl, rfl, rfl⟩ ?_ ?_
   ·intro m2 ⟨e3, l3, H3⟩ hW2 ⟨j2, hm2, hj2, h9, q2, q3, hsc⟩
    dsimp only at hW2 h9 q2 q3
    subst l3 H3
    rw [hW2.spread]
    simp only [spread_t,spread_f,spread_n,Nat.zero_add,Nat.reduceAdd,h9]
    clear hW2
    have hsc' := Hid.mk hsc
    clear hsc
    by_cases hle : I <= j2
    ·obtain ⟨j2, rfl⟩ : ∃ j', j2 = j' + 1 := ⟨j2 - 1, by omega⟩
     have hle' : (I : Int) <= ((j2 + 1 : Nat) : Int) := by omega
     have e1 : ((j2 + 1 : Nat) : Int) - 1 = (j2 : Int) := by omega
     have g1 : 0 <= ((j2 + 1 : Nat) : Int) /\ ((j2 + 1 : Nat) : Int) < (n : Int) := by omega
     have g2 : j2 + 1 < e.size := by omega
     by_cases hp : hc.c e[i0]! e[j2 + 1]! < 0
     ·(repeat' (first | (simp -implicitDefEqProofs (maxSteps := 1000000) (disch := first | assumption | omega | exact hgA _ | (simp only [ZDI]; omega)) only [*,lenV,Si.fl_len,Si.fl_rd,Si.fl_wr,Si.fl_wr2,swpI_eq,hc.run,eq_self,Array.size_setIfInBounds,Si.slot 54 (by decide),Si.plan 54 (by decide),Si.tya,Si.tyb,rnT_a,rnT_b,rnT_o,Si.same 63 (by decide),Si.same 64 (by decide),Si.same 44 (by decide),G54,Za,Zb,Zc,Zd,Ze,Zf,Zg,Zh,Zi,Zj,Zk,Zl,Zm,Zn,Zo,Ja,Jb,Jc,J6,Jd,Je,rd_m,J7,J8,Jf,Jg,Jh,Ji,Jj,Jk,J9,Jl,Jm,wr_m,Jn,JA,JB,Jo,Jp,Jq,Jr,Js,Jt,Ju,Jv,Jw,Jx,Jy,Jz,J0,J1,J2,J3,J4,J5,reduceCtorEq,JC,JD,JE,JF,JG,JH,JI,JJ]) | ((with_reducible (first | apply Ok.br | apply Ok.gd | apply Ok.ld)) <;> (intro g; (try simp only [ZGS] at g); try (exfalso; omega)))))
      exact Turn.next j2 (by omega) ⟨rfl, j2, rfl, by omega, rfl, rfl, rfl, by rw [<- hsc'.out, scanDown_next (p := fun x => lt e[i0]! x) hle (by rw [hng'.out]; exact decide_eq_true hp)]⟩
     ·(repeat' (first | (simp -implicitDefEqProofs (maxSteps := 1000000) (disch := first | assumption | omega | exact hgA _ | (simp only [ZDI]; omega)) only [*,lenV,Si.fl_len,Si.fl_rd,Si.fl_wr,Si.fl_wr2,swpI_eq,hc.run,eq_self,Array.size_setIfInBounds,Si.slot 54 (by decide),Si.plan 54 (by decide),Si.tya,Si.tyb,rnT_a,rnT_b,rnT_o,Si.same 63 (by decide),Si.same 64 (by decide),Si.same 44 (by decide),G54,Za,Zb,Zc,Zd,Ze,Zf,Zg,Zh,Zi,Zj,Zk,Zl,Zm,Zn,Zo,Ja,Jb,Jc,J6,Jd,Je,rd_m,J7,J8,Jf,Jg,Jh,Ji,Jj,Jk,J9,Jl,Jm,wr_m,Jn,JA,JB,Jo,Jp,Jq,Jr,Js,Jt,Ju,Jv,Jw,Jx,Jy,Jz,J0,J1,J2,J3,J4,J5,reduceCtorEq,JC,JD,JE,JF,JG,JH,JI,JJ]) | ((with_reducible (first | apply Ok.br | apply Ok.gd | apply Ok.ld)) <;> (intro g; (try simp only [ZGS] at g); try (exfalso; omega)))))
      exact Turn.exit ⟨rfl, rfl, by rw [<- hsc'.out, scanDown_stop (p := fun x => lt e[i0]! x) (.inr (by rw [hng'.out]; exact decide_eq_false hp))] <;> rfl, rfl, rfl⟩
    ·have hle' : ¬ (I : Int) <= (j2 : Int) := by omega
     (repeat' (first | (simp -implicitDefEqProofs (maxSteps := 1000000) (disch := first | assumption | omega | exact hgA _ | (simp only [ZDI]; omega)) only [*,lenV,Si.slot 54 (by decide),Si.plan 54 (by decide),Si.tya,Si.tyb,rnT_a,rnT_b,rnT_o,Si.same 63 (by decide),Si.same 64 (by decide),Si.same 44 (by decide),G54,Za,Zb,Zc,Zd,Ze,Zf,Zg,Zh,Zi,Zj,Zk,Zl,Zm,Zn,Zo,Ja,Jb,Jc,J6,Jd,Je,rd_m,J7,J8,Jf,Jg,Jh,Ji,Jj,Jk,J9,Jl,Jm,wr_m,Jn,JA,JB,Jo,Jp,Jq,Jr,Js,Jt,Ju,Jv,Jw,Jx,Jy,Jz,J0,J1,J2,J3,J4,J5,reduceCtorEq,JC,JD,JE,JF,JG,JH,JI,JJ]) | ((with_reducible (first | apply Ok.br | apply Ok.gd | apply Ok.ld)) <;> (intro g; (try simp only [ZGS] at g); try (exfalso; omega)))))
     exact Turn.exit ⟨rfl, rfl, by rw [<- hsc'.out, scanDown_stop0 (p := fun x => lt e[i0]! x) hle] <;> rfl, rfl, rfl⟩
   ·intro x ⟨e3, l3, H3⟩ hW2 ⟨hx, h9, q2, q3⟩
    dsimp only at hW2 h9 q2 q3
    subst l3 hx H3
    rw [hW2.spread]
    simp only [spread_t,spread_f,spread_n,Nat.zero_add,Nat.reduceAdd,h9]
    clear hW2
    have hle := scanDown_le (fun x => lt e[i0]! x) e I j
    generalize hJ : scanDown (fun x => lt e[i0]! x) e I j = J at hle h9
    have hJ' := Hid.mk hJ
    clear hJ
    by_cases hgt : J < I
    ·have hgt' : (J : Int) < (I : Int) := by omega
     (repeat' (first | (simp -implicitDefEqProofs (maxSteps := 1000000) (disch := first | assumption | omega | exact hgA _ | (simp only [ZDI]; omega)) only [*,lenV,Si.slot 54 (by decide),Si.plan 54 (by decide),Si.tya,Si.tyb,rnT_a,rnT_b,rnT_o,Si.same 63 (by decide),Si.same 64 (by decide),Si.same 44 (by decide),G54,Za,Zb,Zc,Zd,Ze,Zf,Zg,Zh,Zi,Zj,Zk,Zl,Zm,Zn,Zo,Ja,Jb,Jc,J6,Jd,Je,rd_m,J7,J8,Jf,Jg,Jh,Ji,Jj,Jk,J9,Jl,Jm,wr_m,Jn,JA,JB,Jo,Jp,Jq,Jr,Js,Jt,Ju,Jv,Jw,Jx,Jy,Jz,J0,J1,J2,J3,J4,J5,reduceCtorEq,JC,JD,JE,JF,JG,JH,JI,JJ]) | ((with_reducible (first | apply Ok.br | apply Ok.gd | apply Ok.ld)) <;> (intro g; (try simp only [ZGS] at g); try (exfalso; omega)))))
     refine Turn.exit ⟨rfl, rfl, ?_, rfl, ?_⟩
     ·rw [<- hre'.out, partEqLoop_eq, hI'.out, hJ'.out, if_pos hgt] <;> rfl
     ·rw [<- hre'.out, partEqLoop_eq, hI'.out, hJ'.out, if_pos hgt] <;> rfl
    ·have hgt' : ¬ (J : Int) < (I : Int) := by omega
     have e5 : (J : Int) - 1 = ((J - 1 : Nat) : Int) := by omega
     have g3 : 0 <= (I : Int) /\ (I : Int) < (n : Int) := by omega
     have g4 : 0 <= (J : Int) /\ (J : Int) < (n : Int) := by omega
     have g5 : I < e.size := by omega
     have g6 : J < e.size := by omega
     (repeat' (first | (simp -implicitDefEqProofs (maxSteps := 1000000) (disch := first | assumption | omega | exact hgA _ | (simp only [ZDI]; omega)) only [*,lenV,Si.fl_len,Si.fl_rd,Si.fl_wr,Si.fl_wr2,swpI_eq,hc.run,eq_self,Array.size_setIfInBounds,Si.slot 54 (by decide),Si.plan 54 (by decide),Si.tya,Si.tyb,rnT_a,rnT_b,rnT_o,Si.same 63 (by decide),Si.same 64 (by decide),Si.same 44 (by decide),G54,Za,Zb,Zc,Zd,Ze,Zf,Zg,Zh,Zi,Zj,Zk,Zl,Zm,Zn,Zo,Ja,Jb,Jc,J6,Jd,Je,rd_m,J7,J8,Jf,Jg,Jh,Ji,Jj,Jk,J9,Jl,Jm,wr_m,Jn,JA,JB,Jo,Jp,Jq,Jr,Js,Jt,Ju,Jv,Jw,Jx,Jy,Jz,J0,J1,J2,J3,J4,J5,reduceCtorEq,JC,JD,JE,JF,JG,JH,JI,JJ]) | ((with_reducible (first | apply Ok.br | apply Ok.gd | apply Ok.ld)) <;> (intro g; (try simp only [ZGS] at g); try (exfalso; omega)))))
     refine Turn.next (J - 1 + 1 - (I + 1)) (by omega) ⟨rfl, I + 1, J - 1, swp e I J, rfl, by omega, by omega, rfl, rfl, rfl, rfl, by rw [swpI_size]; exact hsz, ?_⟩
     rw [<- hre'.out]
     conv => rhs; rw [partEqLoop_eq, hI'.out, hJ'.out, if_neg (show ¬ I > J from hgt)]
 ·intro x ⟨e', l', H'⟩ hW ⟨hx, h11, k2, k3⟩
  dsimp only at hW h11 k2 k3
  subst l' hx H'
  rw [hW.spread]
  clear hW
  simp only [spread_t,spread_f,spread_n,Nat.zero_add,Nat.reduceAdd,h11]
  (repeat' (first | (simp -implicitDefEqProofs (maxSteps := 1000000) (disch := first | assumption | omega | exact hgA _ | (simp only [ZDI]; omega)) only [*,Si.slot 54 (by decide),Si.plan 54 (by decide),Si.tya,Si.tyb,rnT_a,rnT_b,rnT_o,Si.same 63 (by decide),Si.same 64 (by decide),Si.same 44 (by decide),G54,Za,Zb,Zc,Zd,Ze,Zf,Zg,Zh,Zi,Zj,Zk,Zl,Zm,Zn,Zo,Ja,Jb,Jc,J6,Jd,Je,rd_m,J7,J8,Jf,Jg,Jh,Ji,Jj,Jk,J9,Jl,Jm,wr_m,Jn,JA,JB,Jo,Jp,Jq,Jr,Js,Jt,Ju,Jv,Jw,Jx,Jy,Jz,J0,J1,J2,J3,J4,J5,reduceCtorEq,JC,JD,JE,JF,JG,JH,JI,JJ]) | ((with_reducible (first | apply Ok.br | apply Ok.gd | apply Ok.ld)) <;> (intro g; (try simp only [ZGS] at g); try (exfalso; omega)))))
  exact hQ'.out _ rfl
end Go.Ev
set_option maxRecDepth 100000
namespace Go.Ev
open Go.Ev renaming exPure -> Ja, ofValue -> Jb, cellsV -> Jc, load -> Jd, store -> Je, binOp -> Jf, intOp -> Jg, rdV -> Jh, vsame -> Ji, vsames -> Jj, makeSliceV -> Jk, resV -> Jl, isCell -> Jm, nilCheckV -> Jn, allV -> Jo, builtinV -> Jp, lenV -> Jq, indexAddrV -> Jr, unOp -> Js, minmaxV -> Jt, minmax -> Ju, sliceV -> Jv, asInt -> Jw, appendV -> Jx, forkB -> Jy, roY -> Jz, rwB -> J0, copyV -> J1, clearV -> J2, convV -> J3, sliceCells -> J4, shift -> J5
open Bool renaming true -> BT, false -> BF
open Nat renaming reduceEqDiff -> J6, reduceLT -> J7, reduceAdd -> J8, reduceBEq -> J9, reduceSub -> JA, reduceMul -> JB, reduceLeDiff -> JJ
open Int renaming reduceLT -> JC, reduceLE -> JD, reduceAdd -> JE, reduceSub -> JF, reduceNeg -> JG, reduceToNat -> JH, reduceEq -> JI
open Go.Proofs Go.Sort
variable {α : Type} [Inhabited α] {Si : SI α} {fv : V} {lt : α -> α -> Bool} {b n0 : Nat}
set_option maxHeartbeats 4000000 in
theorem part_at (hc : Cmp Si fv lt b n0) {H : Heap} {g n cap z : Nat} {d : Array α} (hb : b < H.length) (hg : hc.good H) (hn : n <= d.size) (hl : d.size <= 1000000000) {i0 j0 pv : Nat} (h1 : i0 <= pv) (h2 : pv < j0) (h3 : j0 <= n) :
  D X (.fn (Si.f 55) []) [.sl (.at b g 0) n cap z, .int .i64 i0, .int .i64 j0, .int .i64 pv, fv] (Si.hs H b g d) = some (.tup [.int .i64 (partition lt d i0 j0 pv).1, .bool (partition lt d i0 j0 pv).2.1], Si.hs H b g (partition lt d i0 j0 pv).2.2) := by
 refine Ok.eq ?_
 refine Ok.aim fun Q hQ => ?_
 have hQ' := Hid.mk hQ
 clear hQ
 unfold SI.hs at hQ' ⊢
 have hgA := fun x => hc.gset H b x hg (.inl rfl)
 have e1 : (j0 : Int) - 1 = ((j0 - 1 : Nat) : Int) := by omega
 have g1 : 0 <= (i0 : Int) /\ (i0 : Int) < (n : Int) := by omega
 have g2 : 0 <= (pv : Int) /\ (pv : Int) < (n : Int) := by omega
 have g3 : i0 < d.size := by omega
 have g4 : pv < d.size := by omega
 have hng' : Hid (∀ x y, lt x y = decide (hc.c x y < 0)) := ⟨hc.neg⟩
 (refine Ok.body ((Si.body 55 (by decide)).trans (congrArg _ body55)) (Si.pin 55 (by decide)) ?_; simp only [c55,Try.f55,Option.getD_some,rnC,rnP_eq,rnO_load,rnO_store,rnO_indexAddr,rnO_call,rnO_builtin,rnO_move,rnO_assign,rnO_pick,rnO_alloc,rnO_nilCheck,rnO_binOp,rnO_unOp,rnO_convert,rnO_extract,rnG_func,rnG_tmp,List.toList_toArray,List.map_cons,List.map_nil,List.map_toArray,Si.nsl 55 (by decide),nslot55,List.append_nil,List.map,List.replicate,List.length_cons,List.length_nil,Nat.reduceAdd,Nat.reduceSub,List.cons_append,List.nil_append])
 (repeat' (first | (simp -implicitDefEqProofs (maxSteps := 1000000) (disch := first | assumption | omega | exact hgA _ | (simp only [ZDI]; omega)) only [*,lenV,Si.fl_len,Si.fl_rd,Si.fl_wr,Si.fl_wr2,swpI_eq,hc.run,eq_self,Array.size_setIfInBounds,Si.slot 55 (by decide),Si.plan 55 (by decide),Si.tya,Si.tyb,rnT_a,rnT_b,rnT_o,Si.same 63 (by decide),Si.same 64 (by decide),Si.same 44 (by decide),G55,Za,Zb,Zc,Zd,Ze,Zf,Zg,Zh,Zi,Zj,Zk,Zl,Zm,Zn,Zo,Ja,Jb,Jc,J6,Jd,Je,rd_m,J7,J8,Jf,Jg,Jh,Ji,Jj,Jk,J9,Jl,Jm,wr_m,Jn,JA,JB,Jo,Jp,Jq,Jr,Js,Jt,Ju,Jv,Jw,Jx,Jy,Jz,J0,J1,J2,J3,J4,J5,reduceCtorEq,JC,JD,JE,JF,JG,JH,JI,JJ]) | ((with_reducible (first | apply Ok.br | apply Ok.gd | apply Ok.ld)) <;> (intro g; (try simp only [ZGS] at g); try (exfalso; omega)))))
 have hsz : (swp d i0 pv).size = d.size := swpI_size d i0 pv
 generalize he : swp d i0 pv = e at hsz
 have he' := Hid.mk he
 clear he g2 g3 g4
 have g5 : i0 < e.size := by omega
 obtain ⟨i, hi⟩ : ∃ i, i = i0 + 1 := ⟨_, rfl⟩
 have hi' : (i0 : Int) + 1 = (i : Int) := by omega
 obtain ⟨j, hj⟩ : ∃ j, j = j0 - 1 := ⟨_, rfl⟩
 rw [<- hj]
 simp only [hi']
 have hij : i0 < i /\ j < j0 := by omega
 have hi2 := Hid.mk hi
 have hj2 := Hid.mk hj
 clear hi' e1 hi hj
 refine Ok.loop [BF, BF, BF, BF, BF, BF, BF, BF, BF, BF, BF, BF, BT, BF, BF, BF, BF, BF, BF, BF, BF, BF, BF, BF, BF, BF, BF, BF, BF, BF, BF, BF, BT, BT, BT, BT, BT, BT, BT, BT, BT, BT, BT, BT, BT, BT, BT, BT, BT, BT, BF, BF, BF, BF, BF, BF, BF, BF, BF, BF, BF, BF, BF, BF, BF, BF, BF, BF, BF, BF, BF, BF, BF, BF, BF, BF, BF, BF, BF, BF, BF, BF, BF, BF, BF, BF, BF, BF, BF, BF, BF, BF, BF, BF, BF, BF, BF, BF, BF, BF, BF, BF, BF, BF, BF, BF, BF, BF, BF, BF, BF, BF, BF, BF, BF, BF, BF, BF, BF, BF, BF, BF, BF, BF, BF, BF, BF, BF, BF, BF, BF, BF, BF, BF, BF, BF, BF, BF, BF, BF, BF, BF, BF, BF, BF, BF, BF, BF, BF, BF, BF, BF, BF, BF, BF, BF, BF, BF, BF, BF, BF, BF, BF, BF, BF, BF, BF, BF, BF, BF, BF, BF, BF, BF, BF, BF, BF, BF] (fun m s2 => ∃ i2 : Nat, m = j + 1 - i2 /\ i <= i2 /\ tv s2.e 12 = .v (.int .i64 i2) /\ s2.l = [] /\ s2.h = H.set b (.cells g true (Si.fl e)) /\ scanUp (fun x => lt x e[i0]!) e j i2 = scanUp (fun x => lt x e[i0]!) e j i)
  (fun x s2 => x = .exit 0 /\ tv s2.e 12 = .v (.int .i64 (scanUp (fun x => lt x e[i0]!) e j i : Nat)) /\ s2.l = [] /\ s2.h = H.set b (.cells g true (Si.fl e))) (j + 1 - i) ⟨i, rfl, Nat.le_refl _, rfl, rfl, rfl, rfl⟩ ?_ ?_
 ·intro m2 ⟨e3, l3, H3⟩ hW2 ⟨i2, hm2, hi2, h9, q2, q3, hsc⟩
  dsimp only at hW2 h9 q2 q3
  subst l3 H3
  rw [hW2.spread]
  simp only [spread_t,spread_f,spread_n,Nat.zero_add,Nat.reduceAdd,h9]
  clear hW2
  have hsc' := Hid.mk hsc
  clear hsc
  by_cases hle : i2 <= j
  ·have hle' : (i2 : Int) <= (j : Int) := by omega
   have g1 : 0 <= (i2 : Int) /\ (i2 : Int) < (n : Int) := by omega
   have g2 : i2 < e.size := by omega
   by_cases hp : hc.c e[i2]! e[i0]! < 0
   ·(repeat' (first | (simp -implicitDefEqProofs (maxSteps := 1000000) (disch := first | assumption | omega | exact hgA _ | (simp only [ZDI]; omega)) only [*,lenV,Si.fl_len,Si.fl_rd,Si.fl_wr,Si.fl_wr2,swpI_eq,hc.run,eq_self,Array.size_setIfInBounds,Si.slot 55 (by decide),Si.plan 55 (by decide),Si.tya,Si.tyb,rnT_a,rnT_b,rnT_o,Si.same 63 (by decide),Si.same 64 (by decide),Si.same 44 (by decide),G55,Za,Zb,Zc,Zd,Ze,Zf,Zg,Zh,Zi,Zj,Zk,Zl,Zm,Zn,Zo,Ja,Jb,Jc,J6,Jd,Je,rd_m,J7,J8,Jf,Jg,Jh,Ji,Jj,Jk,J9,Jl,Jm,wr_m,Jn,JA,JB,Jo,Jp,Jq,Jr,Js,Jt,Ju,Jv,Jw,Jx,Jy,Jz,J0,J1,J2,J3,J4,J5,reduceCtorEq,JC,JD,JE,JF,JG,JH,JI,JJ]) | ((with_reducible (first | apply Ok.br | apply Ok.gd | apply Ok.ld)) <;> (intro g; (try simp only [ZGS] at g); try (exfalso; omega)))))
    exact Turn.next (j + 1 - (i2 + 1)) (by omega) ⟨rfl, i2 + 1, rfl, by omega, rfl, rfl, rfl, by rw [<- hsc'.out, scanUp_next (p := fun x => lt x e[i0]!) hle (by rw [hng'.out]; exact decide_eq_true hp)]⟩
   ·(repeat' (first | (simp -implicitDefEqProofs (maxSteps := 1000000) (disch := first | assumption | omega | exact hgA _ | (simp only [ZDI]; omega)) only [*,lenV,Si.fl_len,Si.fl_rd,Si.fl_wr,Si.fl_wr2,swpI_eq,hc.run,eq_self,Array.size_setIfInBounds,Si.slot 55 (by decide),Si.plan 55 (by decide),Si.tya,Si.tyb,rnT_a,rnT_b,rnT_o,Si.same 63 (by decide),Si.same 64 (by decide),Si.same 44 (by decide),G55,Za,Zb,Zc,Zd,Ze,Zf,Zg,Zh,Zi,Zj,Zk,Zl,Zm,Zn,Zo,Ja,Jb,Jc,J6,Jd,Je,rd_m,J7,J8,Jf,Jg,Jh,Ji,Jj,Jk,J9,Jl,Jm,wr_m,Jn,JA,JB,Jo,Jp,Jq,Jr,Js,Jt,Ju,Jv,Jw,Jx,Jy,Jz,J0,J1,J2,J3,J4,J5,reduceCtorEq,JC,JD,JE,JF,JG,JH,JI,JJ]) | ((with_reducible (first | apply Ok.br | apply Ok.gd | apply Ok.ld)) <;> (intro g; (try simp only [ZGS] at g); try (exfalso; omega)))))
    exact Turn.exit ⟨rfl, rfl, by rw [<- hsc'.out, scanUp_stop (p := fun x => lt x e[i0]!) (.inr (by rw [hng'.out]; exact decide_eq_false hp))] <;> rfl, rfl, rfl⟩
  ·have hle' : ¬ (i2 : Int) <= (j : Int) := by omega
   (repeat' (first | (simp -implicitDefEqProofs (maxSteps := 1000000) (disch := first | assumption | omega | exact hgA _ | (simp only [ZDI]; omega)) only [*,lenV,Si.slot 55 (by decide),Si.plan 55 (by decide),Si.tya,Si.tyb,rnT_a,rnT_b,rnT_o,Si.same 63 (by decide),Si.same 64 (by decide),Si.same 44 (by decide),G55,Za,Zb,Zc,Zd,Ze,Zf,Zg,Zh,Zi,Zj,Zk,Zl,Zm,Zn,Zo,Ja,Jb,Jc,J6,Jd,Je,rd_m,J7,J8,Jf,Jg,Jh,Ji,Jj,Jk,J9,Jl,Jm,wr_m,Jn,JA,JB,Jo,Jp,Jq,Jr,Js,Jt,Ju,Jv,Jw,Jx,Jy,Jz,J0,J1,J2,J3,J4,J5,reduceCtorEq,JC,JD,JE,JF,JG,JH,JI,JJ]) | ((with_reducible (first | apply Ok.br | apply Ok.gd | apply Ok.ld)) <;> (intro g; (try simp only [ZGS] at g); try (exfalso; omega)))))
   exact Turn.exit ⟨rfl, rfl, by rw [<- hsc'.out, scanUp_stop (p := fun x => lt x e[i0]!) (.inl hle)] <;> rfl, rfl, rfl⟩
 ·intro x ⟨e3, l3, H3⟩ hW2 ⟨hx, h9, q2, q3⟩
  dsimp only at hW2 h9 q2 q3
  subst l3 hx H3
  rw [hW2.spread]
  simp only [spread_t,spread_f,spread_n,Nat.zero_add,Nat.reduceAdd,h9]
  clear hW2
  have hge := scanUp_ge (fun x => lt x e[i0]!) e j i
  generalize hI : scanUp (fun x => lt x e[i0]!) e j i = I at hge h9
  have hI' := Hid.mk hI
  clear hI
  (repeat' (first | (simp -implicitDefEqProofs (maxSteps := 1000000) (disch := first | assumption | omega | exact hgA _ | (simp only [ZDI]; omega)) only [*,lenV,Si.slot 55 (by decide),Si.plan 55 (by decide),Si.tya,Si.tyb,rnT_a,rnT_b,rnT_o,Si.same 63 (by decide),Si.same 64 (by decide),Si.same 44 (by decide),G55,Za,Zb,Zc,Zd,Ze,Zf,Zg,Zh,Zi,Zj,Zk,Zl,Zm,Zn,Zo,Ja,Jb,Jc,J6,Jd,Je,rd_m,J7,J8,Jf,Jg,Jh,Ji,Jj,Jk,J9,Jl,Jm,wr_m,Jn,JA,JB,Jo,Jp,Jq,Jr,Js,Jt,Ju,Jv,Jw,Jx,Jy,Jz,J0,J1,J2,J3,J4,J5,reduceCtorEq,JC,JD,JE,JF,JG,JH,JI,JJ]) | ((with_reducible (first | apply Ok.br | apply Ok.gd | apply Ok.ld)) <;> (intro g; (try simp only [ZGS] at g); try (exfalso; omega)))))
  refine Ok.loop [BF, BF, BF, BF, BF, BF, BF, BF, BF, BF, BF, BF, BF, BT, BF, BF, BF, BF, BF, BF, BF, BF, BF, BF, BF, BF, BF, BF, BF, BF, BF, BF, BF, BF, BF, BF, BF, BF, BF, BF, BF, BF, BF, BF, BF, BF, BF, BF, BF, BF, BT, BT, BT, BT, BT, BT, BT, BT, BT, BT, BT, BT, BT, BT, BT, BT, BT, BT, BT, BF, BF, BF, BF, BF, BF, BF, BF, BF, BF, BF, BF, BF, BF, BF, BF, BF, BF, BF, BF, BF, BF, BF, BF, BF, BF, BF, BF, BF, BF, BF, BF, BF, BF, BF, BF, BF, BF, BF, BF, BF, BF, BF, BF, BF, BF, BF, BF, BF, BF, BF, BF, BF, BF, BF, BF, BF, BF, BF, BF, BF, BF, BF, BF, BF, BF, BF, BF, BF, BF, BF, BF, BF, BF, BF, BF, BF, BF, BF, BF, BF, BF, BF, BF, BF, BF, BF, BF, BF, BF, BF, BF, BF, BF, BF, BF, BF, BF, BF, BF, BF, BF, BF, BF, BF, BF, BF, BF, BF] (fun m s2 => ∃ j2 : Nat, m = j2 /\ j2 <= j /\ tv s2.e 13 = .v (.int .i64 j2) /\ s2.l = [] /\ s2.h = H.set b (.cells g true (Si.fl e)) /\ scanDown (fun x => !lt x e[i0]!) e I j2 = scanDown (fun x => !lt x e[i0]!) e I j)
   (fun x s2 => x = .exit 2 /\ tv s2.e 13 = .v (.int .i64 (scanDown (fun x => !lt x e[i0]!) e I j : Nat)) /\ s2.l = [] /\ s2.h = H.set b (.cells g true (Si.fl e))) j ⟨j, rfl, Nat.le_refl _, rfl, rfl, rfl, rfl⟩ ?_ ?_
  ·intro m2 ⟨e3, l3, H3⟩ hW2 ⟨j2, hm2, hj2, h9, q2, q3, hsc⟩
   dsimp only at hW2 h9 q2 q3
   subst l3 H3
   rw [hW2.spread]
   simp only [spread_t,spread_f,spread_n,Nat.zero_add,Nat.reduceAdd,h9]
   clear hW2
   have hsc' := Hid.mk hsc
   clear hsc
   by_cases hle : I <= j2
   ·obtain ⟨j2, rfl⟩ : ∃ j', j2 = j' + 1 := ⟨j2 - 1, by omega⟩
    have hle' : (I : Int) <= ((j2 + 1 : Nat) : Int) := by omega
    have e1 : ((j2 + 1 : Nat) : Int) - 1 = (j2 : Int) := by omega
    have g1 : 0 <= ((j2 + 1 : Nat) : Int) /\ ((j2 + 1 : Nat) : Int) < (n : Int) := by omega
    have g2 : j2 + 1 < e.size := by omega
    by_cases hp : hc.c e[j2 + 1]! e[i0]! < 0
    ·(repeat' (first | (simp -implicitDefEqProofs (maxSteps := 1000000) (disch := first | assumption | omega | exact hgA _ | (simp only [ZDI]; omega)) only [*,lenV,Si.fl_len,Si.fl_rd,Si.fl_wr,Si.fl_wr2,swpI_eq,hc.run,eq_self,Array.size_setIfInBounds,Si.slot 55 (by decide),Si.plan 55 (by decide),Si.tya,Si.tyb,rnT_a,rnT_b,rnT_o,Si.same 63 (by decide),Si.same 64 (by decide),Si.same 44 (by decide),G55,Za,Zb,Zc,Zd,Ze,Zf,Zg,Zh,Zi,Zj,Zk,Zl,Zm,Zn,Zo,Ja,Jb,Jc,J6,Jd,Je,rd_m,J7,J8,Jf,Jg,Jh,Ji,Jj,Jk,J9,Jl,Jm,wr_m,Jn,JA,JB,Jo,Jp,Jq,Jr,Js,Jt,Ju,Jv,Jw,Jx,Jy,Jz,J0,J1,J2,J3,J4,J5,reduceCtorEq,JC,JD,JE,JF,JG,JH,JI,JJ]) | ((with_reducible (first | apply Ok.br | apply Ok.gd | apply Ok.ld)) <;> (intro g; (try simp only [ZGS] at g); try (exfalso; omega)))))
     exact Turn.exit ⟨rfl, rfl, by rw [<- hsc'.out, scanDown_stop (p := fun x => !lt x e[i0]!) (.inr (by rw [hng'.out]; simp only [decide_eq_true hp,Bool.not_true]))] <;> rfl, rfl, rfl⟩
    ·(repeat' (first | (simp -implicitDefEqProofs (maxSteps := 1000000) (disch := first | assumption | omega | exact hgA _ | (simp only [ZDI]; omega)) only [*,lenV,Si.fl_len,Si.fl_rd,Si.fl_wr,Si.fl_wr2,swpI_eq,hc.run,eq_self,Array.size_setIfInBounds,Si.slot 55 (by decide),Si.plan 55 (by decide),Si.tya,Si.tyb,rnT_a,rnT_b,rnT_o,Si.same 63 (by decide),Si.same 64 (by decide),Si.same 44 (by decide),G55,Za,Zb,Zc,Zd,Ze,Zf,Zg,Zh,Zi,Zj,Zk,Zl,Zm,Zn,Zo,Ja,Jb,Jc,J6,Jd,Je,rd_m,J7,J8,Jf,Jg,Jh,Ji,Jj,Jk,J9,Jl,Jm,wr_m,Jn,JA,JB,Jo,Jp,Jq,Jr,Js,Jt,Ju,Jv,Jw,Jx,Jy,Jz,J0,J1,J2,J3,J4,J5,reduceCtorEq,JC,JD,JE,JF,JG,JH,JI,JJ]) | ((with_reducible (first | apply Ok.br | apply Ok.gd | apply Ok.ld)) <;> (intro g; (try simp only [ZGS] at g); try (exfalso; omega)))))
     exact Turn.next j2 (by omega) ⟨rfl, j2, rfl, by omega, rfl, rfl, rfl, by rw [<- hsc'.out, scanDown_next (p := fun x => !lt x e[i0]!) hle (by rw [hng'.out]; simp only [decide_eq_false hp,Bool.not_false])]⟩
   ·have hle' : ¬ (I : Int) <= (j2 : Int) := by omega
    (repeat' (first | (simp -implicitDefEqProofs (maxSteps := 1000000) (disch := first | assumption | omega | exact hgA _ | (simp only [ZDI]; omega)) only [*,lenV,Si.slot 55 (by decide),Si.plan 55 (by decide),Si.tya,Si.tyb,rnT_a,rnT_b,rnT_o,Si.same 63 (by decide),Si.same 64 (by decide),Si.same 44 (by decide),G55,Za,Zb,Zc,Zd,Ze,Zf,Zg,Zh,Zi,Zj,Zk,Zl,Zm,Zn,Zo,Ja,Jb,Jc,J6,Jd,Je,rd_m,J7,J8,Jf,Jg,Jh,Ji,Jj,Jk,J9,Jl,Jm,wr_m,Jn,JA,JB,Jo,Jp,Jq,Jr,Js,Jt,Ju,Jv,Jw,Jx,Jy,Jz,J0,J1,J2,J3,J4,J5,reduceCtorEq,JC,JD,JE,JF,JG,JH,JI,JJ]) | ((with_reducible (first | apply Ok.br | apply Ok.gd | apply Ok.ld)) <;> (intro g; (try simp only [ZGS] at g); try (exfalso; omega)))))
    exact Turn.exit ⟨rfl, rfl, by rw [<- hsc'.out, scanDown_stop0 (p := fun x => !lt x e[i0]!) hle] <;> rfl, rfl, rfl⟩
  ·intro x ⟨e3, l3, H3⟩ hW2 ⟨hx, h9, q2, q3⟩
   dsimp only at hW2 h9 q2 q3
   subst l3 hx H3
   rw [hW2.spread]
   simp only [spread_t,spread_f,spread_n,Nat.zero_add,Nat.reduceAdd,h9]
   clear hW2
   have hle := scanDown_le (fun x => !lt x e[i0]!) e I j
   generalize hJ : scanDown (fun x => !lt x e[i0]!) e I j = J at hle h9
   have hJ' := Hid.mk hJ
   clear hJ
   have hpt : partition lt d i0 j0 pv = if I > J then (J, true, swp e J i0) else ((partLoop lt i0 (I + 1) (J - 1) (swp e I J)).1, false, swp (partLoop lt i0 (I + 1) (J - 1) (swp e I J)).2 (partLoop lt i0 (I + 1) (J - 1) (swp e I J)).1 i0) := by
    unfold partition
    rw [he'.out]
    simp only [<- hi2.out,<- hj2.out,hI'.out,hJ'.out]
   have hpt' := Hid.mk hpt
   clear hpt
   by_cases hgt : J < I
   ·have hgt' : (J : Int) < (I : Int) := by omega
    have g3 : 0 <= (J : Int) /\ (J : Int) < (n : Int) := by omega
    have g6 : J < e.size := by omega
    (repeat' (first | (simp -implicitDefEqProofs (maxSteps := 1000000) (disch := first | assumption | omega | exact hgA _ | (simp only [ZDI]; omega)) only [*,lenV,Si.fl_len,Si.fl_rd,Si.fl_wr,Si.fl_wr2,swpI_eq,hc.run,eq_self,Array.size_setIfInBounds,Si.slot 55 (by decide),Si.plan 55 (by decide),Si.tya,Si.tyb,rnT_a,rnT_b,rnT_o,Si.same 63 (by decide),Si.same 64 (by decide),Si.same 44 (by decide),G55,Za,Zb,Zc,Zd,Ze,Zf,Zg,Zh,Zi,Zj,Zk,Zl,Zm,Zn,Zo,Ja,Jb,Jc,J6,Jd,Je,rd_m,J7,J8,Jf,Jg,Jh,Ji,Jj,Jk,J9,Jl,Jm,wr_m,Jn,JA,JB,Jo,Jp,Jq,Jr,Js,Jt,Ju,Jv,Jw,Jx,Jy,Jz,J0,J1,J2,J3,J4,J5,reduceCtorEq,JC,JD,JE,JF,JG,JH,JI,JJ]) | ((with_reducible (first | apply Ok.br | apply Ok.gd | apply Ok.ld)) <;> (intro g; (try simp only [ZGS] at g); try (exfalso; omega)))))
    refine hQ'.out _ ?_
    rw [hpt'.out, if_pos (show I > J from hgt)]
   ·have hgt' : ¬ (J : Int) < (I : Int) := by omega
    have e5 : (J : Int) - 1 = ((J - 1 : Nat) : Int) := by omega
    have g3 : 0 <= (I : Int) /\ (I : Int) < (n : Int) := by omega
    have g4 : 0 <= (J : Int) /\ (J : Int) < (n : Int) := by omega
    have g6 : I < e.size := by omega
    have g7 : J < e.size := by omega
    (repeat' (first | (simp -implicitDefEqProofs (maxSteps := 1000000) (disch := first | assumption | omega | exact hgA _ | (simp only [ZDI]; omega)) only [*,lenV,Si.fl_len,Si.fl_rd,Si.fl_wr,Si.fl_wr2,swpI_eq,hc.run,eq_self,Array.size_setIfInBounds,Si.slot 55 (by decide),Si.plan 55 (by decide),Si.tya,Si.tyb,rnT_a,rnT_b,rnT_o,Si.same 63 (by decide),Si.same 64 (by decide),Si.same 44 (by decide),G55,Za,Zb,Zc,Zd,Ze,Zf,Zg,Zh,Zi,Zj,Zk,Zl,Zm,Zn,Zo,Ja,Jb,Jc,J6,Jd,Je,rd_m,J7,J8,Jf,Jg,Jh,Ji,Jj,Jk,J9,Jl,Jm,wr_m,Jn,JA,JB,Jo,Jp,Jq,Jr,Js,Jt,Ju,Jv,Jw,Jx,Jy,Jz,J0,J1,J2,J3,J4,J5,reduceCtorEq,JC,JD,JE,JF,JG,JH,JI,JJ]) | ((with_reducible (first | apply Ok.br | apply Ok.gd | apply Ok.ld)) <;> (intro g; (try simp only [ZGS] at g); try (exfalso; omega)))))
    rw [if_neg (show ¬ I > J from hgt)] at hpt'
    have hs2 : (swp e I J).size = d.size := by rw [swpI_size]; exact hsz
    generalize swp e I J = d2 at hs2 hpt'
    generalize hi1 : I + 1 = i1 at hpt'
    generalize hj1 : J - 1 = j1 at hpt'
    have hi1' : ((I : Int) + 1) = (i1 : Int) := by omega
    have hb1 : i0 < i1 /\ j1 < j0 := by omega
    clear e5 g3 g4 g6 g7 hgt hgt' hge hle hI' hJ' he' hj1
    simp only [hi1'] at *
    clear hi1 hi1'
    clear hsz g5
    refine Ok.loop [BF, BF, BF, BF, BF, BF, BF, BF, BF, BF, BF, BF, BT, BT, BF, BF, BF, BF, BF, BF, BF, BF, BF, BF, BF, BF, BF, BF, BF, BF, BF, BF, BF, BF, BF, BF, BF, BF, BF, BF, BF, BF, BF, BF, BF, BF, BF, BF, BF, BF, BF, BF, BF, BF, BF, BF, BF, BF, BF, BF, BF, BF, BF, BF, BF, BF, BF, BF, BF, BF, BF, BF, BF, BF, BF, BF, BF, BF, BF, BF, BF, BF, BF, BF, BF, BF, BF, BF, BF, BF, BF, BF, BF, BF, BF, BF, BF, BF, BF, BF, BF, BF, BF, BF, BF, BT, BT, BT, BT, BT, BT, BT, BT, BT, BT, BT, BT, BT, BT, BT, BT, BT, BT, BT, BT, BT, BT, BT, BT, BT, BT, BT, BT, BT, BT, BT, BT, BT, BT, BT, BT, BT, BT, BT, BT, BT, BT, BT, BT, BT, BT, BT, BT, BT, BT, BT, BT, BT, BT, BT, BT, BT, BT, BF, BF, BF, BF, BF, BF, BF, BF, BF, BF, BF, BF, BF, BF, BF] (fun m s2 => ∃ (i j : Nat) (e : Array α), m = j + 1 - i /\ i0 < i /\ j < j0 /\ tv s2.e 12 = .v (.int .i64 i) /\ tv s2.e 13 = .v (.int .i64 j) /\ s2.l = [] /\ s2.h = H.set b (.cells g true (Si.fl e)) /\ e.size = d.size /\ partLoop lt i0 i j e = partLoop lt i0 i1 j1 d2)
     (fun x s2 => x = .exit 4 /\ tv s2.e 13 = .v (.int .i64 ((partLoop lt i0 i1 j1 d2).1 : Nat)) /\ s2.l = [] /\ s2.h = H.set b (.cells g true (Si.fl (partLoop lt i0 i1 j1 d2).2)) /\ (partLoop lt i0 i1 j1 d2).1 < n /\ (partLoop lt i0 i1 j1 d2).2.size = d.size) (j1 + 1 - i1) ⟨i1, j1, d2, rfl, by omega, by omega, rfl, rfl, rfl, rfl, hs2, rfl⟩ ?_ ?_
    ·intro m ⟨e', l', H'⟩ hW ⟨i, j, e, hm, hi, hj, h11, h12, k2, k3, hsz, hre⟩
     dsimp only at hW h11 h12 k2 k3
     subst l' H'
     rw [hW.spread]
     simp only [spread_t,spread_f,spread_n,Nat.zero_add,Nat.reduceAdd,h11,h12]
     clear hW
     have hre' := Hid.mk hre
     have g5 : i0 < e.size := by omega
     clear hre hQ' hpt' hs2
     (repeat' (first | (simp -implicitDefEqProofs (maxSteps := 1000000) (disch := first | assumption | omega | exact hgA _ | (simp only [ZDI]; omega)) only [*,lenV,Si.slot 55 (by decide),Si.plan 55 (by decide),Si.tya,Si.tyb,rnT_a,rnT_b,rnT_o,Si.same 63 (by decide),Si.same 64 (by decide),Si.same 44 (by decide),G55,Za,Zb,Zc,Zd,Ze,Zf,Zg,Zh,Zi,Zj,Zk,Zl,Zm,Zn,Zo,Ja,Jb,Jc,J6,Jd,Je,rd_m,J7,J8,Jf,Jg,Jh,Ji,Jj,Jk,J9,Jl,Jm,wr_m,Jn,JA,JB,Jo,Jp,Jq,Jr,Js,Jt,Ju,Jv,Jw,Jx,Jy,Jz,J0,J1,J2,J3,J4,J5,reduceCtorEq,JC,JD,JE,JF,JG,JH,JI,JJ]) | ((with_reducible (first | apply Ok.br | apply Ok.gd | apply Ok.ld)) <;> (intro g; (try simp only [ZGS] at g); try (exfalso; omega)))))
     refine Ok.loop [BF, BF, BF, BF, BF, BF, BF, BF, BF, BF, BF, BF, BT, BF, BF, BF, BF, BF, BF, BF, BF, BF, BF, BF, BF, BF, BF, BF, BF, BF, BF, BF, BF, BF, BF, BF, BF, BF, BF, BF, BF, BF, BF, BF, BF, BF, BF, BF, BF, BF, BF, BF, BF, BF, BF, BF, BF, BF, BF, BF, BF, BF, BF, BF, BF, BF, BF, BF, BF, BF, BF, BF, BF, BF, BF, BF, BF, BF, BF, BF, BF, BF, BF, BF, BF, BF, BF, BF, BF, BF, BF, BF, BF, BF, BF, BF, BF, BF, BF, BF, BF, BF, BF, BF, BF, BT, BT, BT, BT, BT, BT, BT, BT, BT, BT, BT, BT, BT, BT, BT, BT, BT, BT, BF, BF, BF, BF, BF, BF, BF, BF, BF, BF, BF, BF, BF, BF, BF, BF, BF, BF, BF, BF, BF, BF, BF, BF, BF, BF, BF, BF, BF, BF, BF, BF, BF, BF, BF, BF, BF, BF, BF, BF, BF, BF, BF, BF, BF, BF, BF, BF, BF, BF, BF, BF, BF, BF, BF] (fun m s2 => ∃ i2 : Nat, m = j + 1 - i2 /\ i <= i2 /\ tv s2.e 12 = .v (.int .i64 i2) /\ s2.l = [] /\ s2.h = H.set b (.cells g true (Si.fl e)) /\ scanUp (fun x => lt x e[i0]!) e j i2 = scanUp (fun x => lt x e[i0]!) e j i)
      (fun x s2 => x = .exit 6 /\ tv s2.e 12 = .v (.int .i64 (scanUp (fun x => lt x e[i0]!) e j i : Nat)) /\ s2.l = [] /\ s2.h = H.set b (.cells g true (Si.fl e))) (j + 1 - i) ⟨i, rfl, Nat.le_refl _, rfl, rfl, rfl, rfl⟩ ?_ ?_
     ·intro m2 ⟨e3, l3, H3⟩ hW2 ⟨i2, hm2, hi2, h9, q2, q3, hsc⟩
      dsimp only at hW2 h9 q2 q3
      subst l3 H3
      rw [hW2.spread]
      simp only [spread_t,spread_f,spread_n,Nat.zero_add,Nat.reduceAdd,h9]
      clear hW2
      have hsc' := Hid.mk hsc
      clear hsc
      by_cases hle : i2 <= j
      ·have hle' : (i2 : Int) <= (j : Int) := by omega
       have g1 : 0 <= (i2 : Int) /\ (i2 : Int) < (n : Int) := by omega
       have g2 : i2 < e.size := by omega
       by_cases hp : hc.c e[i2]! e[i0]! < 0
       ·(repeat' (first | (simp -implicitDefEqProofs (maxSteps := 1000000) (disch := first | assumption | omega | exact hgA _ | (simp only [ZDI]; omega)) only [*,lenV,Si.fl_len,Si.fl_rd,Si.fl_wr,Si.fl_wr2,swpI_eq,hc.run,eq_self,Array.size_setIfInBounds,Si.slot 55 (by decide),Si.plan 55 (by decide),Si.tya,Si.tyb,rnT_a,rnT_b,rnT_o,Si.same 63 (by decide),Si.same 64 (by decide),Si.same 44 (by decide),G55,Za,Zb,Zc,Zd,Ze,Zf,Zg,Zh,Zi,Zj,Zk,Zl,Zm,Zn,Zo,Ja,Jb,Jc,J6,Jd,Je,rd_m,J7,J8,Jf,Jg,Jh,Ji,Jj,Jk,J9,Jl,Jm,wr_m,Jn,JA,JB,Jo,Jp,Jq,Jr,Js,Jt,Ju,Jv,Jw,Jx,Jy,Jz,J0,J1,J2,J3,J4,J5,reduceCtorEq,JC,JD,JE,JF,JG,JH,JI,JJ]) | ((with_reducible (first | apply Ok.br | apply Ok.gd | apply Ok.ld)) <;> (intro g; (try simp only [ZGS] at g); try (exfalso; omega)))))
        exact Turn.next (j + 1 - (i2 + 1)) (by omega) ⟨rfl, i2 + 1, rfl, by omega, rfl, rfl, rfl, by rw [<- hsc'.out, scanUp_next (p := fun x => lt x e[i0]!) hle (by rw [hng'.out]; exact decide_eq_true hp)]⟩
       ·(repeat' (first | (simp -implicitDefEqProofs (maxSteps := 1000000) (disch := first | assumption | omega | exact hgA _ | (simp only [ZDI]; omega)) only [*,lenV,Si.fl_len,Si.fl_rd,Si.fl_wr,Si.fl_wr2,swpI_eq,hc.run,eq_self,Array.size_setIfInBounds,Si.slot 55 (by decide),Si.plan 55 (by decide),Si.tya,Si.tyb,rnT_a,rnT_b,rnT_o,Si.same 63 (by decide),Si.same 64 (by decide),Si.same 44 (by decide),G55,Za,Zb,Zc,Zd,Ze,Zf,Zg,Zh,Zi,Zj,Zk,Zl,Zm,Zn,Zo,Ja,Jb,Jc,J6,Jd,Je,rd_m,J7,J8,Jf,Jg,Jh,Ji,Jj,Jk,J9,Jl,Jm,wr_m,Jn,JA,JB,Jo,Jp,Jq,Jr,Js,Jt,Ju,Jv,Jw,Jx,Jy,Jz,J0,J1,J2,J3,J4,J5,reduceCtorEq,JC,JD,JE,JF,JG,JH,JI,JJ]) | ((with_reducible (first | apply Ok.br | apply Ok.gd | apply Ok.ld)) <;> (intro g; (try simp only [ZGS] at g); try (exfalso; omega)))))
        exact Turn.exit ⟨rfl, rfl, by rw [<- hsc'.out, scanUp_stop (p := fun x => lt x e[i0]!) (.inr (by rw [hng'.out]; exact decide_eq_false hp))] <;> rfl, rfl, rfl⟩
      ·have hle' : ¬ (i2 : Int) <= (j : Int) := by omega
       (repeat' (first | (simp -implicitDefEqProofs (maxSteps := 1000000) (disch := first | assumption | omega | exact hgA _ | (simp only [ZDI]; omega)) only [*,lenV,Si.slot 55 (by decide),Si.plan 55 (by decide),Si.tya,Si.tyb,rnT_a,rnT_b,rnT_o,Si.same 63 (by decide),Si.same 64 (by decide),Si.same 44 (by decide),G55,Za,Zb,Zc,Zd,Ze,Zf,Zg,Zh,Zi,Zj,Zk,Zl,Zm,Zn,Zo,Ja,Jb,Jc,J6,Jd,Je,rd_m,J7,J8,Jf,Jg,Jh,Ji,Jj,Jk,J9,Jl,Jm,wr_m,Jn,JA,JB,Jo,Jp,Jq,Jr,Js,Jt,Ju,Jv,Jw,Jx,Jy,Jz,J0,J1,J2,J3,J4,J5,reduceCtorEq,JC,JD,JE,JF,JG,JH,JI,JJ]) | ((with_reducible (first | apply Ok.br | apply Ok.gd | apply Ok.ld)) <;> (intro g; (try simp only [ZGS] at g); try (exfalso; omega)))))
       exact Turn.exit ⟨rfl, rfl, by rw [<- hsc'.out, scanUp_stop (p := fun x => lt x e[i0]!) (.inl hle)] <;> rfl, rfl, rfl⟩
     ·intro x ⟨e3, l3, H3⟩ hW2 ⟨hx, h9, q2, q3⟩
      dsimp only at hW2 h9 q2 q3
      subst l3 hx H3
      rw [hW2.spread]
      simp only [spread_t,spread_f,spread_n,Nat.zero_add,Nat.reduceAdd,h9]
      clear hW2
      have hge := scanUp_ge (fun x => lt x e[i0]!) e j i
      generalize hI : scanUp (fun x => lt x e[i0]!) e j i = I at hge h9
      have hI' := Hid.mk hI
      clear hI
      (repeat' (first | (simp -implicitDefEqProofs (maxSteps := 1000000) (disch := first | assumption | omega | exact hgA _ | (simp only [ZDI]; omega)) only [*,lenV,Si.slot 55 (by decide),Si.plan 55 (by decide),Si.tya,Si.tyb,rnT_a,rnT_b,rnT_o,Si.same 63 (by decide),Si.same 64 (by decide),Si.same 44 (by decide),G55,Za,Zb,Zc,Zd,Ze,Zf,Zg,Zh,Zi,Zj,Zk,Zl,Zm,Zn,Zo,Ja,Jb,Jc,J6,Jd,Je,rd_m,J7,J8,Jf,Jg,Jh,Ji,Jj,Jk,J9,Jl,Jm,wr_m,Jn,JA,JB,Jo,Jp,Jq,Jr,Js,Jt,Ju,Jv,Jw,Jx,Jy,Jz,J0,J1,J2,J3,J4,J5,reduceCtorEq,JC,JD,JE,JF,JG,JH,JI,JJ]) | ((with_reducible (first | apply Ok.br | apply Ok.gd | apply Ok.ld)) <;> (intro g; (try simp only [ZGS] at g); try (exfalso; omega)))))
      refine Ok.loop [BF, BF, BF, BF, BF, BF, BF, BF, BF, BF, BF, BF, BF, BT, BF, BF, BF, BF, BF, BF, BF, BF, BF, BF, BF, BF, BF, BF, BF, BF, BF, BF, BF, BF, BF, BF, BF, BF, BF, BF, BF, BF, BF, BF, BF, BF, BF, BF, BF, BF, BF, BF, BF, BF, BF, BF, BF, BF, BF, BF, BF, BF, BF, BF, BF, BF, BF, BF, BF, BF, BF, BF, BF, BF, BF, BF, BF, BF, BF, BF, BF, BF, BF, BF, BF, BF, BF, BF, BF, BF, BF, BF, BF, BF, BF, BF, BF, BF, BF, BF, BF, BF, BF, BF, BF, BF, BF, BF, BF, BF, BF, BF, BF, BF, BF, BF, BF, BF, BF, BF, BF, BF, BF, BT, BT, BT, BT, BT, BT, BT, BT, BT, BT, BT, BT, BT, BT, BT, BT, BT, BT, BT, BF, BF, BF, BF, BF, BF, BF, BF, BF, BF, BF, BF, BF, BF, BF, BF, BF, BF, BF, BF, BF, BF, BF, BF, BF, BF, BF, BF, BF, BF, BF, BF, BF, BF, BF, BF] (fun m s2 => ∃ j2 : Nat, m = j2 /\ j2 <= j /\ tv s2.e 13 = .v (.int .i64 j2) /\ s2.l = [] /\ s2.h = H.set b (.cells g true (Si.fl e)) /\ scanDown (fun x => !lt x e[i0]!) e I j2 = scanDown (fun x => !lt x e[i0]!) e I j)
       (fun x s2 => x = .exit 8 /\ tv s2.e 13 = .v (.int .i64 (scanDown (fun x => !lt x e[i0]!) e I j : Nat)) /\ s2.l = [] /\ s2.h = H.set b (.cells g true (Si.fl e))) j ⟨j, rfl, Nat.le_refl _, rfl, rfl, rfl, rfl⟩ ?_ ?_
      ·intro m2 ⟨e3, l3, H3⟩ hW2 ⟨j2, hm2, hj2, h9, q2, q3, hsc⟩
       dsimp only at hW2 h9 q2 q3
       subst l3 H3
       rw [hW2.spread]
       simp only [spread_t,spread_f,spread_n,Nat.zero_add,Nat.reduceAdd,h9]
       clear hW2
       have hsc' := Hid.mk hsc
       clear hsc
       by_cases hle : I <= j2
       ·obtain ⟨j2, rfl⟩ : ∃ j', j2 = j' + 1 := ⟨j2 - 1, by omega⟩
        have hle' : (I : Int) <= ((j2 + 1 : Nat) : Int) := by omega
        have e1 : ((j2 + 1 : Nat) : Int) - 1 = (j2 : Int) := by omega
        have g1 : 0 <= ((j2 + 1 : Nat) : Int) /\ ((j2 + 1 : Nat) : Int) < (n : Int) := by omega
        have g2 : j2 + 1 < e.size := by omega
        by_cases hp : hc.c e[j2 + 1]! e[i0]! < 0
        ·(repeat' (first | (simp -implicitDefEqProofs (maxSteps := 1000000) (disch := first | assumption | omega | exact hgA _ | (simp only [ZDI]; omega)) only [*,lenV,Si.fl_len,Si.fl_rd,Si.fl_wr,Si.fl_wr2,swpI_eq,hc.run,eq_self,Array.size_setIfInBounds,Si.slot 55 (by decide),Si.plan 55 (by decide),Si.tya,Si.tyb,rnT_a,rnT_b,rnT_o,Si.same 63 (by decide),Si.same 64 (by decide),Si.same 44 (by decide),G55,Za,Zb,Zc,Zd,Ze,Zf,Zg,Zh,Zi,Zj,Zk,Zl,Zm,Zn,Zo,Ja,Jb,Jc,J6,Jd,Je,rd_m,J7,J8,Jf,Jg,Jh,Ji,Jj,Jk,J9,Jl,Jm,wr_m,Jn,JA,JB,Jo,Jp,Jq,Jr,Js,Jt,Ju,Jv,Jw,Jx,Jy,Jz,J0,J1,J2,J3,J4,J5,reduceCtorEq,JC,JD,JE,JF,JG,JH,JI,JJ]) | ((with_reducible (first | apply Ok.br | apply Ok.gd | apply Ok.ld)) <;> (intro g; (try simp only [ZGS] at g); try (exfalso; omega)))))
         exact Turn.exit ⟨rfl, rfl, by rw [<- hsc'.out, scanDown_stop (p := fun x => !lt x e[i0]!) (.inr (by rw [hng'.out]; simp only [decide_eq_true hp,Bool.not_true]))] <;> rfl, rfl, rfl⟩
        ·(repeat' (first | (simp -implicitDefEqProofs (maxSteps := 1000000) (disch := first | assumption | omega | exact hgA _ | (simp only [ZDI]; omega)) only [*,lenV,Si.fl_len,Si.fl_rd,Si.fl_wr,Si.fl_wr2,swpI_eq,hc.run,eq_self,Array.size_setIfInBounds,Si.slot 55 (by decide),Si.plan 55 (by decide),Si.tya,Si.tyb,rnT_a,rnT_b,rnT_o,Si.same 63 (by decide),Si.same 64 (by decide),Si.same 44 (by decide),G55,Za,Zb,Zc,Zd,Ze,Zf,Zg,Zh,Zi,Zj,Zk,Zl,Zm,Zn,Zo,Ja,Jb,Jc,J6,Jd,Je,rd_m,J7,J8,Jf,Jg,Jh,Ji,Jj,Jk,J9,Jl,Jm,wr_m,Jn,JA,JB,Jo,Jp,Jq,Jr,Js,Jt,Ju,Jv,Jw,Jx,Jy,Jz,J0,J1,J2,J3,J4,J5,reduceCtorEq,JC,JD,JE,JF,JG,JH,JI,JJ]) | ((with_reducible (first | apply Ok.br | apply Ok.gd | apply Ok.ld)) <;> (intro g; (try simp only [ZGS] at g); try (exfalso; omega)))))
         exact Turn.next j2 (by omega) ⟨rfl, j2, rfl, by omega, rfl, rfl, rfl, by rw [<- hsc'.out, scanDown_next (p := fun x => !lt x e[i0]!) hle (by rw [hng'.out]; simp only [decide_eq_false hp,Bool.not_false])]⟩
       ·have hle' : ¬ (I : Int) <= (j2 : Int) := by omega
        (repeat' (first | (simp -implicitDefEqProofs (maxSteps := 1000000) (disch := first | assumption | omega | exact hgA _ | (simp only [ZDI]; omega)) only [*,lenV,Si.slot 55 (by decide),Si.plan 55 (by decide),Si.tya,Si.tyb,rnT_a,rnT_b,rnT_o,Si.same 63 (by decide),Si.same 64 (by decide),Si.same 44 (by decide),G55,Za,Zb,Zc,Zd,Ze,Zf,Zg,Zh,Zi,Zj,Zk,Zl,Zm,Zn,Zo,Ja,Jb,Jc,J6,Jd,Je,rd_m,J7,J8,Jf,Jg,Jh,Ji,Jj,Jk,J9,Jl,Jm,wr_m,Jn,JA,JB,Jo,Jp,Jq,Jr,Js,Jt,Ju,Jv,Jw,Jx,Jy,Jz,J0,J1,J2,J3,J4,J5,reduceCtorEq,JC,JD,JE,JF,JG,JH,JI,JJ]) | ((with_reducible (first | apply Ok.br | apply Ok.gd | apply Ok.ld)) <;> (intro g; (try simp only [ZGS] at g); try (exfalso; omega)))))
        exact Turn.exit ⟨rfl, rfl, by rw [<- hsc'.out, scanDown_stop0 (p := fun x => !lt x e[i0]!) hle] <;> rfl, rfl, rfl⟩
      ·intro x ⟨e3, l3, H3⟩ hW2 ⟨hx, h9, q2, q3⟩
       dsimp only at hW2 h9 q2 q3
       subst l3 hx H3
       rw [hW2.spread]
       simp only [spread_t,spread_f,spread_n,Nat.zero_add,Nat.reduceAdd,h9]
       clear hW2
       have hle := scanDown_le (fun x => !lt x e[i0]!) e I j
       generalize hJ : scanDown (fun x => !lt x e[i0]!) e I j = J at hle h9
       have hJ' := Hid.mk hJ
       clear hJ
       by_cases hgt : J < I
       ·have hgt' : (J : Int) < (I : Int) := by omega
        (repeat' (first | (simp -implicitDefEqProofs (maxSteps := 1000000) (disch := first | assumption | omega | exact hgA _ | (simp only [ZDI]; omega)) only [*,lenV,Si.slot 55 (by decide),Si.plan 55 (by decide),Si.tya,Si.tyb,rnT_a,rnT_b,rnT_o,Si.same 63 (by decide),Si.same 64 (by decide),Si.same 44 (by decide),G55,Za,Zb,Zc,Zd,Ze,Zf,Zg,Zh,Zi,Zj,Zk,Zl,Zm,Zn,Zo,Ja,Jb,Jc,J6,Jd,Je,rd_m,J7,J8,Jf,Jg,Jh,Ji,Jj,Jk,J9,Jl,Jm,wr_m,Jn,JA,JB,Jo,Jp,Jq,Jr,Js,Jt,Ju,Jv,Jw,Jx,Jy,Jz,J0,J1,J2,J3,J4,J5,reduceCtorEq,JC,JD,JE,JF,JG,JH,JI,JJ]) | ((with_reducible (first | apply Ok.br | apply Ok.gd | apply Ok.ld)) <;> (intro g; (try simp only [ZGS] at g); try (exfalso; omega)))))
        refine Turn.exit ⟨rfl, rfl, ?_, rfl, ?_, ?_, ?_⟩
        ·rw [<- hre'.out, partLoop_eq, hI'.out, hJ'.out, if_pos hgt] <;> rfl
        ·rw [<- hre'.out, partLoop_eq, hI'.out, hJ'.out, if_pos hgt] <;> rfl
        ·rw [<- hre'.out, partLoop_eq, hI'.out, hJ'.out, if_pos hgt]; show J < n; omega
        ·rw [<- hre'.out, partLoop_eq, hI'.out, hJ'.out, if_pos hgt]; exact hsz
       ·have hgt' : ¬ (J : Int) < (I : Int) := by omega
        have e5 : (J : Int) - 1 = ((J - 1 : Nat) : Int) := by omega
        have g3 : 0 <= (I : Int) /\ (I : Int) < (n : Int) := by omega
        have g4 : 0 <= (J : Int) /\ (J : Int) < (n : Int) := by omega
        have g5 : I < e.size := by omega
        have g6 : J < e.size := by omega
        (repeat' (first | (simp -implicitDefEqProofs (maxSteps := 1000000) (disch := first | assumption | omega | exact hgA _ | (simp only [ZDI]; omega)) only [*,lenV,Si.fl_len,Si.fl_rd,Si.fl_wr,Si.fl_wr2,swpI_eq,hc.run,eq_self,Array.size_setIfInBounds,Si.slot 55 (by decide),Si.plan 55 (by decide),Si.tya,Si.tyb,rnT_a,rnT_b,rnT_o,Si.same 63 (by decide),Si.same 64 (by decide),Si.same 44 (by decide),G55,Za,Zb,Zc,Zd,Ze,Zf,Zg,Zh,Zi,Zj,Zk,Zl,Zm,Zn,Zo,Ja,Jb,Jc,J6,Jd,Je,rd_m,J7,J8,Jf,Jg,Jh,Ji,Jj,Jk,J9,Jl,Jm,wr_m,Jn,JA,JB,Jo,Jp,Jq,Jr,Js,Jt,Ju,Jv,Jw,Jx,Jy,Jz,J0,J1,J2,J3,J4,J5,reduceCtorEq,JC,JD,JE,JF,JG,JH,JI,JJ]) | ((with_reducible (first | apply Ok.br | apply Ok.gd | apply Ok.ld)) <;> (intro g; (try simp only [ZGS] at g); try (exfalso; omega)))))
        refine Turn.next (J - 1 + 1 - (I + 1)) (by omega) ⟨rfl, I + 1, J - 1, swp e I J, rfl, by omega, by omega, rfl, rfl, rfl, rfl, by rw [swpI_size]; exact hsz, ?_⟩
        rw [<- hre'.out]
        conv => rhs; rw [partLoop_eq, hI'.out, hJ'.out, if_neg (show ¬ I > J from hgt)]
    ·intro x ⟨e', l', H'⟩ hW ⟨hx, h11, k2, k3, k4, k5⟩
     dsimp only at hW h11 k2 k3
     subst l' hx H'
     rw [hW.spread]
     clear hW
     simp only [spread_t,spread_f,spread_n,Nat.zero_add,Nat.reduceAdd,h11]
     clear hs2
     generalize partLoop lt i0 i1 j1 d2 = R at *
     obtain ⟨rj, re⟩ := R
     dsimp only at h11 k4 k5 hpt' ⊢
     have g3 : 0 <= (rj : Int) /\ (rj : Int) < (n : Int) := by omega
     have g6 : rj < re.size := by omega
     have g7 : i0 < re.size := by omega
     (repeat' (first | (simp -implicitDefEqProofs (maxSteps := 1000000) (disch := first | assumption | omega | exact hgA _ | (simp only [ZDI]; omega)) only [*,lenV,Si.fl_len,Si.fl_rd,Si.fl_wr,Si.fl_wr2,swpI_eq,hc.run,eq_self,Array.size_setIfInBounds,Si.slot 55 (by decide),Si.plan 55 (by decide),Si.tya,Si.tyb,rnT_a,rnT_b,rnT_o,Si.same 63 (by decide),Si.same 64 (by decide),Si.same 44 (by decide),G55,Za,Zb,Zc,Zd,Ze,Zf,Zg,Zh,Zi,Zj,Zk,Zl,Zm,Zn,Zo,Ja,Jb,Jc,J6,Jd,Je,rd_m,J7,J8,Jf,Jg,Jh,Ji,Jj,Jk,J9,Jl,Jm,wr_m,Jn,JA,JB,Jo,Jp,Jq,Jr,Js,Jt,Ju,Jv,Jw,Jx,Jy,Jz,J0,J1,J2,J3,J4,J5,reduceCtorEq,JC,JD,JE,JF,JG,JH,JI,JJ]) | ((with_reducible (first | apply Ok.br | apply Ok.gd | apply Ok.ld)) <;> (intro g; (try simp only [ZGS] at g); try (exfalso; omega)))))
     refine hQ'.out _ ?_
     rw [hpt'.out]
end Go.Ev
set_option maxRecDepth 100000
namespace Go.Ev
open Go.Ev renaming exPure -> Ja, ofValue -> Jb, cellsV -> Jc, load -> Jd, store -> Je, binOp -> Jf, intOp -> Jg, rdV -> Jh, vsame -> Ji, vsames -> Jj, makeSliceV -> Jk, resV -> Jl, isCell -> Jm, nilCheckV -> Jn, allV -> Jo, builtinV -> Jp, lenV -> Jq, indexAddrV -> Jr, unOp -> Js, minmaxV -> Jt, minmax -> Ju, sliceV -> Jv, asInt -> Jw, appendV -> Jx, forkB -> Jy, roY -> Jz, rwB -> J0, copyV -> J1, clearV -> J2, convV -> J3, sliceCells -> J4, shift -> J5
open Bool renaming true -> BT, false -> BF
open Nat renaming reduceEqDiff -> J6, reduceLT -> J7, reduceAdd -> J8, reduceBEq -> J9, reduceSub -> JA, reduceMul -> JB, reduceLeDiff -> JJ
open Int renaming reduceLT -> JC, reduceLE -> JD, reduceAdd -> JE, reduceSub -> JF, reduceNeg -> JG, reduceToNat -> JH, reduceEq -> JI
open Go.Proofs Go.Sort
variable {α : Type} [Inhabited α] {Si : SI α} {fv : V} {lt : α -> α -> Bool} {b n0 : Nat}
theorem set_same {G : Heap} {q : Nat} {c : List V} (h : hcells G q 0 = some (true, c)) : G.set q (.cells 0 true c) = G := by
 unfold hcells at h
 cases hx : G[q]? with
 | none => rw [hx] at h; cases h
 | some x =>
  rw [hx] at h
  cases x with
  | cells g' k c' =>
   obtain ⟨rfl, h⟩ := grd_some' h
   cases h
   obtain ⟨h1, h2⟩ := List.getElem?_eq_some_iff.1 hx
   rw [<- h2]; exact List.set_getElem_self h1
  | map ex es c => cases h
  | loop r => cases h
theorem order2_lt {d : Array α} {i j s n : Nat} (hi : i < n) (hj : j < n) : (order2 lt d i j s).1 < n /\ (order2 lt d i j s).2.1 < n /\ (order2 lt d i j s).2.2 <= s + 1 := by
 unfold order2; split
 ·exact ⟨hj, hi, Nat.le_refl _⟩
 ·exact ⟨hi, hj, Nat.le_succ _⟩
theorem order2_at (hc : Cmp Si fv lt b n0) {G : Heap} {g n cap z : Nat} {d : Array α} (hG : hcells G b g = some (true, Si.fl d)) (hg : hc.good G) (hn : n <= d.size) {q s : Nat} (hq : hcells G q 0 = some (true, [.int .i64 s])) (hs : s <= 1000) {i j : Nat} (hi : i < n) (hj : j < n) :
  D X (.fn (Si.f 68) []) [.sl (.at b g 0) n cap z, .int .i64 i, .int .i64 j, .ptr q 0 0, fv] G =
   some (.tup [.int .i64 (order2 lt d i j s).1, .int .i64 (order2 lt d i j s).2.1], G.set q (.cells 0 true [.int .i64 (order2 lt d i j s).2.2])) := by
 refine Ok.eq ?_
 have g1 : 0 <= (i : Int) /\ (i : Int) < (n : Int) := by omega
 have g2 : 0 <= (j : Int) /\ (j : Int) < (n : Int) := by omega
 have g3 : i < d.size := by omega
 have g4 : j < d.size := by omega
 have hqs := set_same hq
 have hng : lt d[j]! d[i]! = decide (hc.c d[j]! d[i]! < 0) := hc.neg _ _
 have hng' := Hid.mk hng
 clear hng
 have hqs' := Hid.mk hqs
 clear hqs
 by_cases hp : hc.c d[j]! d[i]! < 0
 ·have ho : order2 lt d i j s = (j, i, s + 1) := by unfold order2; rw [hng'.out, decide_eq_true hp, if_pos rfl]
  rw [ho]
  have ho' := Hid.mk ho
  clear ho
  have e1 : (s : Int) + 1 = ((s + 1 : Nat) : Int) := by omega
  (refine Ok.body ((Si.body 68 (by decide)).trans (congrArg _ body68)) (Si.pin 68 (by decide)) ?_; simp only [c68,Try.f68,Option.getD_some,rnC,rnP_eq,rnO_load,rnO_store,rnO_indexAddr,rnO_call,rnO_builtin,rnO_move,rnO_assign,rnO_pick,rnO_alloc,rnO_nilCheck,rnO_binOp,rnO_unOp,rnO_convert,rnO_extract,rnG_func,rnG_tmp,List.toList_toArray,List.map_cons,List.map_nil,List.map_toArray,Si.nsl 68 (by decide),nslot68,List.append_nil,List.map,List.replicate,List.length_cons,List.length_nil,Nat.reduceAdd,Nat.reduceSub,List.cons_append,List.nil_append])
  (repeat' (first | (simp -implicitDefEqProofs (maxSteps := 1000000) (disch := first | assumption | omega | exact hgA _ | (simp only [ZDI]; omega)) only [*,lenV,Si.fl_len,Si.fl_rd,Si.fl_wr,Si.fl_wr2,swpI_eq,hc.run,eq_self,Array.size_setIfInBounds,Si.slot 68 (by decide),Si.plan 68 (by decide),Si.tya,Si.tyb,rnT_a,rnT_b,rnT_o,Si.same 63 (by decide),Si.same 64 (by decide),Si.same 44 (by decide),G68,Za,Zb,Zc,Zd,Ze,Zf,Zg,Zh,Zi,Zj,Zk,Zl,Zm,Zn,Zo,Ja,Jb,Jc,J6,Jd,Je,rd_m,J7,J8,Jf,Jg,Jh,Ji,Jj,Jk,J9,Jl,Jm,wr_m,Jn,JA,JB,Jo,Jp,Jq,Jr,Js,Jt,Ju,Jv,Jw,Jx,Jy,Jz,J0,J1,J2,J3,J4,J5,reduceCtorEq,JC,JD,JE,JF,JG,JH,JI,JJ]) | ((with_reducible (first | apply Ok.br | apply Ok.gd | apply Ok.ld)) <;> (intro g; (try simp only [ZGS] at g); try (exfalso; omega)))))
 ·have ho : order2 lt d i j s = (i, j, s) := by unfold order2; rw [hng'.out, decide_eq_false hp, if_neg (by simp)]
  rw [ho, hqs'.out]
  have ho' := Hid.mk ho
  clear ho
  (refine Ok.body ((Si.body 68 (by decide)).trans (congrArg _ body68)) (Si.pin 68 (by decide)) ?_; simp only [c68,Try.f68,Option.getD_some,rnC,rnP_eq,rnO_load,rnO_store,rnO_indexAddr,rnO_call,rnO_builtin,rnO_move,rnO_assign,rnO_pick,rnO_alloc,rnO_nilCheck,rnO_binOp,rnO_unOp,rnO_convert,rnO_extract,rnG_func,rnG_tmp,List.toList_toArray,List.map_cons,List.map_nil,List.map_toArray,Si.nsl 68 (by decide),nslot68,List.append_nil,List.map,List.replicate,List.length_cons,List.length_nil,Nat.reduceAdd,Nat.reduceSub,List.cons_append,List.nil_append])
  (repeat' (first | (simp -implicitDefEqProofs (maxSteps := 1000000) (disch := first | assumption | omega | exact hgA _ | (simp only [ZDI]; omega)) only [*,lenV,Si.fl_len,Si.fl_rd,Si.fl_wr,Si.fl_wr2,swpI_eq,hc.run,eq_self,Array.size_setIfInBounds,Si.slot 68 (by decide),Si.plan 68 (by decide),Si.tya,Si.tyb,rnT_a,rnT_b,rnT_o,Si.same 63 (by decide),Si.same 64 (by decide),Si.same 44 (by decide),G68,Za,Zb,Zc,Zd,Ze,Zf,Zg,Zh,Zi,Zj,Zk,Zl,Zm,Zn,Zo,Ja,Jb,Jc,J6,Jd,Je,rd_m,J7,J8,Jf,Jg,Jh,Ji,Jj,Jk,J9,Jl,Jm,wr_m,Jn,JA,JB,Jo,Jp,Jq,Jr,Js,Jt,Ju,Jv,Jw,Jx,Jy,Jz,J0,J1,J2,J3,J4,J5,reduceCtorEq,JC,JD,JE,JF,JG,JH,JI,JJ]) | ((with_reducible (first | apply Ok.br | apply Ok.gd | apply Ok.ld)) <;> (intro g; (try simp only [ZGS] at g); try (exfalso; omega)))))
theorem median_lt {d : Array α} {i j k s n : Nat} (hi : i < n) (hj : j < n) (hk : k < n) : (median lt d i j k s).1 < n /\ (median lt d i j k s).2 <= s + 3 := by
 unfold median
 have h1 := order2_lt (lt := lt) (d := d) (s := s) hi hj
 have h2 := order2_lt (lt := lt) (d := d) (s := (order2 lt d i j s).2.2) h1.2.1 hk
 have h3 := order2_lt (lt := lt) (d := d) (s := (order2 lt d (order2 lt d i j s).2.1 k (order2 lt d i j s).2.2).2.2) h1.1 h2.1
 dsimp only
 exact ⟨h3.2.1, by omega⟩
theorem median_at (hc : Cmp Si fv lt b n0) {G : Heap} {g n cap z : Nat} {d : Array α} (hG : hcells G b g = some (true, Si.fl d)) (hg : hc.good G) (hn : n <= d.size) {q s : Nat} (hq : hcells G q 0 = some (true, [.int .i64 s])) (hs : s <= 900) (hqb : q ≠ b) (hqn : n0 <= q) {i j k : Nat} (hi : i < n) (hj : j < n) (hk : k < n) :
  D X (.fn (Si.f 66) []) [.sl (.at b g 0) n cap z, .int .i64 i, .int .i64 j, .int .i64 k, .ptr q 0 0, fv] G =
   some (.int .i64 (median lt d i j k s).1, G.set q (.cells 0 true [.int .i64 (median lt d i j k s).2])) := by
 refine Ok.eq ?_
 unfold median
 dsimp only
 have hql := hcells_lt hq
 have hgm : ∀ t : Nat, hc.good (G.set q (.cells 0 true [.int .i64 t])) := fun t => hc.gset _ _ _ hg (.inr hqn)
 have h1 := order2_lt (lt := lt) (d := d) (s := s) hi hj
 have c1 := order2_at hc (cap := cap) (z := z) hG hg hn hq (by omega) hi hj
 have hm : ∀ t : Nat, hcells (G.set q (.cells 0 true [.int .i64 t])) b g = some (true, Si.fl d) := fun t => by rw [hcells_set_ne (Ne.symm hqb)]; exact hG
 have hm2 : ∀ t : Nat, hcells (G.set q (.cells 0 true [.int .i64 t])) q 0 = some (true, [.int .i64 t]) := fun t => hcells_set_eq hql
 generalize order2 lt d i j s = r1 at h1 c1 ⊢
 have h2 := order2_lt (lt := lt) (d := d) (s := r1.2.2) h1.2.1 hk
 have c2 := order2_at hc (cap := cap) (z := z) (hm r1.2.2) (hgm _) hn (hm2 _) (by omega) h1.2.1 hk
 generalize order2 lt d r1.2.1 k r1.2.2 = r2 at h2 c2 ⊢
 rw [List.set_set] at c2
 have c3 := order2_at hc (cap := cap) (z := z) (hm r2.2.2) (hgm _) hn (hm2 _) (by omega) h1.1 h2.1
 generalize order2 lt d r1.1 r2.1 r2.2.2 = r3 at c3 ⊢
 rw [List.set_set] at c3
 clear hG hq hm hm2 hgm h1 h2 hi hj hk hql hqb hs hn
 (refine Ok.body ((Si.body 66 (by decide)).trans (congrArg _ body66)) (Si.pin 66 (by decide)) ?_; simp only [c66,Try.f66,Option.getD_some,rnC,rnP_eq,rnO_load,rnO_store,rnO_indexAddr,rnO_call,rnO_builtin,rnO_move,rnO_assign,rnO_pick,rnO_alloc,rnO_nilCheck,rnO_binOp,rnO_unOp,rnO_convert,rnO_extract,rnG_func,rnG_tmp,List.toList_toArray,List.map_cons,List.map_nil,List.map_toArray,Si.nsl 66 (by decide),nslot66,List.append_nil,List.map,List.replicate,List.length_cons,List.length_nil,Nat.reduceAdd,Nat.reduceSub,List.cons_append,List.nil_append])
 (repeat' (first | (simp -implicitDefEqProofs (maxSteps := 1000000) (disch := first | assumption | omega | exact hgA _ | (simp only [ZDI]; omega)) only [*,lenV,Si.slot 66 (by decide),Si.plan 66 (by decide),Si.tya,Si.tyb,rnT_a,rnT_b,rnT_o,Si.same 63 (by decide),Si.same 64 (by decide),Si.same 44 (by decide),G66,Za,Zb,Zc,Zd,Ze,Zf,Zg,Zh,Zi,Zj,Zk,Zl,Zm,Zn,Zo,Ja,Jb,Jc,J6,Jd,Je,rd_m,J7,J8,Jf,Jg,Jh,Ji,Jj,Jk,J9,Jl,Jm,wr_m,Jn,JA,JB,Jo,Jp,Jq,Jr,Js,Jt,Ju,Jv,Jw,Jx,Jy,Jz,J0,J1,J2,J3,J4,J5,reduceCtorEq,JC,JD,JE,JF,JG,JH,JI,JJ]) | ((with_reducible (first | apply Ok.br | apply Ok.gd | apply Ok.ld)) <;> (intro g; (try simp only [ZGS] at g); try (exfalso; omega)))))
theorem medAdj_at (hc : Cmp Si fv lt b n0) {G : Heap} {g n cap z : Nat} {d : Array α} (hG : hcells G b g = some (true, Si.fl d)) (hg : hc.good G) (hn : n <= d.size) {q s : Nat} (hq : hcells G q 0 = some (true, [.int .i64 s])) (hs : s <= 900) (hqb : q ≠ b) (hqn : n0 <= q) (hl : d.size <= 1000000000) {i : Nat} (h0 : 0 < i) (hi : i + 1 < n) :
  D X (.fn (Si.f 65) []) [.sl (.at b g 0) n cap z, .int .i64 i, .ptr q 0 0, fv] G =
   some (.int .i64 (medianAdjacent lt d i s).1, G.set q (.cells 0 true [.int .i64 (medianAdjacent lt d i s).2])) := by
 refine Ok.eq ?_
 unfold medianAdjacent
 have c := median_at hc (cap := cap) (z := z) hG hg hn hq hs hqb hqn (i := i - 1) (j := i) (k := i + 1) (by omega) (by omega) hi
 generalize median lt d (i - 1) i (i + 1) s = r at c ⊢
 have e1 : ((i - 1 : Nat) : Int) = (i : Int) - 1 := by omega
 have e2 : ((i + 1 : Nat) : Int) = (i : Int) + 1 := by omega
 rw [e1, e2] at c
 clear hG hq e1 e2
 (refine Ok.body ((Si.body 65 (by decide)).trans (congrArg _ body65)) (Si.pin 65 (by decide)) ?_; simp only [c65,Try.f65,Option.getD_some,rnC,rnP_eq,rnO_load,rnO_store,rnO_indexAddr,rnO_call,rnO_builtin,rnO_move,rnO_assign,rnO_pick,rnO_alloc,rnO_nilCheck,rnO_binOp,rnO_unOp,rnO_convert,rnO_extract,rnG_func,rnG_tmp,List.toList_toArray,List.map_cons,List.map_nil,List.map_toArray,Si.nsl 65 (by decide),nslot65,List.append_nil,List.map,List.replicate,List.length_cons,List.length_nil,Nat.reduceAdd,Nat.reduceSub,List.cons_append,List.nil_append])
 (repeat' (first | (simp -implicitDefEqProofs (maxSteps := 1000000) (disch := first | assumption | omega | exact hgA _ | (simp only [ZDI]; omega)) only [*,lenV,Si.slot 65 (by decide),Si.plan 65 (by decide),Si.tya,Si.tyb,rnT_a,rnT_b,rnT_o,Si.same 63 (by decide),Si.same 64 (by decide),Si.same 44 (by decide),G65,Za,Zb,Zc,Zd,Ze,Zf,Zg,Zh,Zi,Zj,Zk,Zl,Zm,Zn,Zo,Ja,Jb,Jc,J6,Jd,Je,rd_m,J7,J8,Jf,Jg,Jh,Ji,Jj,Jk,J9,Jl,Jm,wr_m,Jn,JA,JB,Jo,Jp,Jq,Jr,Js,Jt,Ju,Jv,Jw,Jx,Jy,Jz,J0,J1,J2,J3,J4,J5,reduceCtorEq,JC,JD,JE,JF,JG,JH,JI,JJ]) | ((with_reducible (first | apply Ok.br | apply Ok.gd | apply Ok.ld)) <;> (intro g; (try simp only [ZGS] at g); try (exfalso; omega)))))
def hintI : Hint -> Int
 | .unknown => 0
 | .increasing => 1
 | .decreasing => 2
set_option maxHeartbeats 2000000 in
theorem pivot_at (hc : Cmp Si fv lt b n0) {H : Heap} {g n cap z : Nat} {d : Array α} (hb : b < H.length) (hg : hc.good H) (hn : n <= d.size) (hl : d.size <= 1000000000) {i0 j0 : Nat} (h1 : i0 < j0) (h2 : j0 <= n) :
  Ev.Ok (D X (.fn (Si.f 51) []) [.sl (.at b g 0) n cap z, .int .i64 i0, .int .i64 j0, fv] (Si.hs H b g d)) fun y => ∃ t : Nat, y = (.tup [.int .i64 (choosePivot lt d i0 j0).1, .int .i64 (hintI (choosePivot lt d i0 j0).2)], Si.hs (H ++ [Blk.cells 0 true [.int .i64 t]]) b g d) := by
 refine Ok.aim fun Q hQ => ?_
 have hQ' := Hid.mk hQ
 clear hQ
 unfold SI.hs at hQ' ⊢
 have hgA := fun x => hc.gset H b x hg (.inl rfl)
 have hset : ∀ t : Nat, (H ++ [Blk.cells 0 true [.int .i64 (t : Int)]]).set b (.cells g true (Si.fl d)) = H.set b (.cells g true (Si.fl d)) ++ [Blk.cells 0 true [.int .i64 (t : Int)]] := fun t => heap_set_lt hb
 simp only [hset] at hQ'
 clear hset
 have hm : ∀ t : Nat, hcells (H.set b (.cells g true (Si.fl d)) ++ [Blk.cells 0 true [.int .i64 (t : Int)]]) b g = some (true, Si.fl d) := fun t => by rw [hcells_app (by simpa using hb), hcells_set_eq hb]
 have hm2 : ∀ t : Nat, hcells (H.set b (.cells g true (Si.fl d)) ++ [Blk.cells 0 true [.int .i64 (t : Int)]]) H.length 0 = some (true, [.int .i64 (t : Int)]) := fun t => by rw [hcells_ge (by simp)]; simp only [List.length_set,Nat.sub_self]; exact grd_t rfl _
 have hst : ∀ t u : Nat, (H.set b (.cells g true (Si.fl d)) ++ [Blk.cells 0 true [.int .i64 (t : Int)]]).set H.length (.cells 0 true [.int .i64 (u : Int)]) = H.set b (.cells g true (Si.fl d)) ++ [Blk.cells 0 true [.int .i64 (u : Int)]] := fun t u => by
  rw [heap_set_ge (by simp)]; simp only [List.length_set,Nat.sub_self,List.set_cons_zero]
 have hqb : H.length ≠ b := by omega
 have hqn := hc.glen H hg
 have hgm : ∀ t : Nat, hc.good (H.set b (.cells g true (Si.fl d)) ++ [Blk.cells 0 true [.int .i64 (t : Int)]]) := fun t => hc.gapp _ _ (hc.gset _ _ _ hg (.inl rfl))
 obtain ⟨l, hll⟩ : ∃ l, j0 - i0 = l := ⟨_, rfl⟩
 have e1 : (j0 : Int) - (i0 : Int) = (l : Int) := by omega
 have e2 : (l : Int).tdiv 4 = ((l / 4 : Nat) : Int) := by rw [Int.tdiv_eq_ediv_of_nonneg (by omega)]; omega
 obtain ⟨i, hi⟩ : ∃ i, i0 + l / 4 * 1 = i := ⟨_, rfl⟩
 obtain ⟨j, hj⟩ : ∃ i, i0 + l / 4 * 2 = i := ⟨_, rfl⟩
 obtain ⟨k, hk⟩ : ∃ i, i0 + l / 4 * 3 = i := ⟨_, rfl⟩
 have e3 : (i0 : Int) + ((l / 4 : Nat) : Int) * 1 = (i : Int) := by omega
 have e4 : (i0 : Int) + ((l / 4 : Nat) : Int) * 2 = (j : Int) := by omega
 have e5 : (i0 : Int) + ((l / 4 : Nat) : Int) * 3 = (k : Int) := by omega
 have hcp : choosePivot lt d i0 j0 = (let r : Nat × Nat := if l ≥ 8 then (if l ≥ 50 then (let ri := medianAdjacent lt d i 0; let rj := medianAdjacent lt d j ri.2; let rk := medianAdjacent lt d k rj.2; median lt d ri.1 rj.1 rk.1 rk.2) else median lt d i j k 0) else (j, 0); (r.1, if r.2 = 0 then .increasing else if r.2 = 12 then .decreasing else .unknown)) := by
  unfold choosePivot
  simp only [hll,hi,hj,hk]
 have hi1 : i < n /\ j < n /\ k < n := by omega
 have e6 : (0 : Nat) <= l / 4 := by omega
 have hfin : ∀ (r : Nat × Nat), choosePivot lt d i0 j0 = (r.1, if r.2 = 0 then .increasing else if r.2 = 12 then .decreasing else .unknown) -> r.2 <= 12 ->
   Q (.tup [.int .i64 r.1, .int .i64 (if r.2 = 0 then 1 else if r.2 = 12 then 2 else 0)], H.set b (.cells g true (Si.fl d)) ++ [Blk.cells 0 true [.int .i64 (r.2 : Int)]]) := by
  intro r hr hr2
  refine hQ'.out _ ⟨r.2, ?_⟩
  rw [hr]
  congr 3
  split
  ·rfl
  ·split <;> rfl
 have hfin' := Hid.mk hfin
 have hcp' := Hid.mk hcp
 have hst' := Hid.mk hst
 have hq0 : ((0 : Nat) : Int) = 0 := rfl
 clear hfin hcp hQ'
 by_cases h8 : 8 <= l
 ·have h8' : (8 : Int) <= (l : Int) := by omega
  by_cases h50 : 50 <= l
  ·have h50' : (50 : Int) <= (l : Int) := by omega
   have c1 := medAdj_at hc (cap := cap) (z := z) (hm 0) (hgm _) hn (hm2 0) (by omega) hqb hqn hl (i := i) (by omega) (by omega)
   have b1 := median_lt (lt := lt) (d := d) (i := i - 1) (j := i) (k := i + 1) (s := 0) (n := n) (by omega) (by omega) (by omega)
   have d1 : medianAdjacent lt d i 0 = median lt d (i - 1) i (i + 1) 0 := rfl
   rw [<- d1] at b1
   clear d1
   rw [hst] at c1
   have hr := hcp'.out
   simp only [if_pos (show l ≥ 8 from h8),if_pos (show l ≥ 50 from h50)] at hr
   generalize medianAdjacent lt d i 0 = r1 at c1 b1 hr
   have c2 := medAdj_at hc (cap := cap) (z := z) (hm r1.2) (hgm _) hn (hm2 _) (by omega) hqb hqn hl (i := j) (by omega) (by omega)
   have b2 := median_lt (lt := lt) (d := d) (i := j - 1) (j := j) (k := j + 1) (s := r1.2) (n := n) (by omega) (by omega) (by omega)
   have d1 : medianAdjacent lt d j r1.2 = median lt d (j - 1) j (j + 1) r1.2 := rfl
   rw [<- d1] at b2
   clear d1
   rw [hst] at c2
   generalize medianAdjacent lt d j r1.2 = r2 at c2 b2 hr
   have c3 := medAdj_at hc (cap := cap) (z := z) (hm r2.2) (hgm _) hn (hm2 _) (by omega) hqb hqn hl (i := k) (by omega) (by omega)
   have b3 := median_lt (lt := lt) (d := d) (i := k - 1) (j := k) (k := k + 1) (s := r2.2) (n := n) (by omega) (by omega) (by omega)
   have d1 : medianAdjacent lt d k r2.2 = median lt d (k - 1) k (k + 1) r2.2 := rfl
   rw [<- d1] at b3
   clear d1
   rw [hst] at c3
   generalize medianAdjacent lt d k r2.2 = r3 at c3 b3 hr
   have c4 := median_at hc (cap := cap) (z := z) (hm r3.2) (hgm _) hn (hm2 _) (by omega) hqb hqn (i := r1.1) (j := r2.1) (k := r3.1) b1.1 b2.1 b3.1
   have b4 := median_lt (lt := lt) (d := d) (s := r3.2) b1.1 b2.1 b3.1
   rw [hst] at c4
   generalize median lt d r1.1 r2.1 r3.1 r3.2 = r4 at c4 b4 hr
   have hr' := Hid.mk hr
   have b4' : r4.2 <= 12 := by omega
   clear hr hm hm2 hgm hst hi1 b1 b2 b3 b4 hll hi hj hk
   rw [hq0] at c1
   by_cases z0 : r4.2 = 0
   ·have z0' : (r4.2 : Int) = 0 := by omega
    (refine Ok.body ((Si.body 51 (by decide)).trans (congrArg _ body51)) (Si.pin 51 (by decide)) ?_; simp only [c51,Try.f51,Option.getD_some,rnC,rnP_eq,rnO_load,rnO_store,rnO_indexAddr,rnO_call,rnO_builtin,rnO_move,rnO_assign,rnO_pick,rnO_alloc,rnO_nilCheck,rnO_binOp,rnO_unOp,rnO_convert,rnO_extract,rnG_func,rnG_tmp,List.toList_toArray,List.map_cons,List.map_nil,List.map_toArray,Si.nsl 51 (by decide),nslot51,List.append_nil,List.map,List.replicate,List.length_cons,List.length_nil,Nat.reduceAdd,Nat.reduceSub,List.cons_append,List.nil_append])
    (repeat' (first | (simp -implicitDefEqProofs (maxSteps := 1000000) (disch := first | assumption | omega | exact hgA _ | (simp only [ZDI]; omega)) only [*,lenV,Si.slot 51 (by decide),Si.plan 51 (by decide),Si.tya,Si.tyb,rnT_a,rnT_b,rnT_o,Si.same 63 (by decide),Si.same 64 (by decide),Si.same 44 (by decide),G51,Za,Zb,Zc,Zd,Ze,Zf,Zg,Zh,Zi,Zj,Zk,Zl,Zm,Zn,Zo,Ja,Jb,Jc,J6,Jd,Je,rd_m,J7,J8,Jf,Jg,Jh,Ji,Jj,Jk,J9,Jl,Jm,wr_m,Jn,JA,JB,Jo,Jp,Jq,Jr,Js,Jt,Ju,Jv,Jw,Jx,Jy,Jz,J0,J1,J2,J3,J4,J5,reduceCtorEq,JC,JD,JE,JF,JG,JH,JI,JJ]) | ((with_reducible (first | apply Ok.br | apply Ok.gd | apply Ok.ld)) <;> (intro g; (try simp only [ZGS] at g); try (exfalso; omega)))))
    have := hfin'.out r4 hr'.out b4'
    rw [if_pos z0, z0'] at this
    exact this
   ·have z0' : ¬ (r4.2 : Int) = 0 := by omega
    by_cases z1 : r4.2 = 12
    ·have z1' : (r4.2 : Int) = 12 := by omega
     clear z0'
     (refine Ok.body ((Si.body 51 (by decide)).trans (congrArg _ body51)) (Si.pin 51 (by decide)) ?_; simp only [c51,Try.f51,Option.getD_some,rnC,rnP_eq,rnO_load,rnO_store,rnO_indexAddr,rnO_call,rnO_builtin,rnO_move,rnO_assign,rnO_pick,rnO_alloc,rnO_nilCheck,rnO_binOp,rnO_unOp,rnO_convert,rnO_extract,rnG_func,rnG_tmp,List.toList_toArray,List.map_cons,List.map_nil,List.map_toArray,Si.nsl 51 (by decide),nslot51,List.append_nil,List.map,List.replicate,List.length_cons,List.length_nil,Nat.reduceAdd,Nat.reduceSub,List.cons_append,List.nil_append])
     (repeat' (first | (simp -implicitDefEqProofs (maxSteps := 1000000) (disch := first | assumption | omega | exact hgA _ | (simp only [ZDI]; omega)) only [*,lenV,Si.slot 51 (by decide),Si.plan 51 (by decide),Si.tya,Si.tyb,rnT_a,rnT_b,rnT_o,Si.same 63 (by decide),Si.same 64 (by decide),Si.same 44 (by decide),G51,Za,Zb,Zc,Zd,Ze,Zf,Zg,Zh,Zi,Zj,Zk,Zl,Zm,Zn,Zo,Ja,Jb,Jc,J6,Jd,Je,rd_m,J7,J8,Jf,Jg,Jh,Ji,Jj,Jk,J9,Jl,Jm,wr_m,Jn,JA,JB,Jo,Jp,Jq,Jr,Js,Jt,Ju,Jv,Jw,Jx,Jy,Jz,J0,J1,J2,J3,J4,J5,reduceCtorEq,JC,JD,JE,JF,JG,JH,JI,JJ]) | ((with_reducible (first | apply Ok.br | apply Ok.gd | apply Ok.ld)) <;> (intro g; (try simp only [ZGS] at g); try (exfalso; omega)))))
     have := hfin'.out r4 hr'.out b4'
     rw [if_neg z0, if_pos z1, z1'] at this
     exact this
    ·have z1' : ¬ (r4.2 : Int) = 12 := by omega
     (refine Ok.body ((Si.body 51 (by decide)).trans (congrArg _ body51)) (Si.pin 51 (by decide)) ?_; simp only [c51,Try.f51,Option.getD_some,rnC,rnP_eq,rnO_load,rnO_store,rnO_indexAddr,rnO_call,rnO_builtin,rnO_move,rnO_assign,rnO_pick,rnO_alloc,rnO_nilCheck,rnO_binOp,rnO_unOp,rnO_convert,rnO_extract,rnG_func,rnG_tmp,List.toList_toArray,List.map_cons,List.map_nil,List.map_toArray,Si.nsl 51 (by decide),nslot51,List.append_nil,List.map,List.replicate,List.length_cons,List.length_nil,Nat.reduceAdd,Nat.reduceSub,List.cons_append,List.nil_append])
     (repeat' (first | (simp -implicitDefEqProofs (maxSteps := 1000000) (disch := first | assumption | omega | exact hgA _ | (simp only [ZDI]; omega)) only [*,lenV,Si.slot 51 (by decide),Si.plan 51 (by decide),Si.tya,Si.tyb,rnT_a,rnT_b,rnT_o,Si.same 63 (by decide),Si.same 64 (by decide),Si.same 44 (by decide),G51,Za,Zb,Zc,Zd,Ze,Zf,Zg,Zh,Zi,Zj,Zk,Zl,Zm,Zn,Zo,Ja,Jb,Jc,J6,Jd,Je,rd_m,J7,J8,Jf,Jg,Jh,Ji,Jj,Jk,J9,Jl,Jm,wr_m,Jn,JA,JB,Jo,Jp,Jq,Jr,Js,Jt,Ju,Jv,Jw,Jx,Jy,Jz,J0,J1,J2,J3,J4,J5,reduceCtorEq,JC,JD,JE,JF,JG,JH,JI,JJ]) | ((with_reducible (first | apply Ok.br | apply Ok.gd | apply Ok.ld)) <;> (intro g; (try simp only [ZGS] at g); try (exfalso; omega)))))
     have := hfin'.out r4 hr'.out b4'
     rw [if_neg z0, if_neg z1] at this
     exact this
  ·have h50' : ¬ (50 : Int) <= (l : Int) := by omega
   have c4 := median_at hc (cap := cap) (z := z) (hm 0) (hgm _) hn (hm2 0) (by omega) hqb hqn (i := i) (j := j) (k := k) hi1.1 hi1.2.1 hi1.2.2
   have b4 := median_lt (lt := lt) (d := d) (s := 0) hi1.1 hi1.2.1 hi1.2.2
   rw [hst] at c4
   have hr := hcp'.out
   simp only [if_pos (show l ≥ 8 from h8),if_neg (show ¬ l ≥ 50 from h50)] at hr
   generalize median lt d i j k 0 = r4 at c4 b4 hr
   have hr' := Hid.mk hr
   have b4' : r4.2 <= 12 := by omega
   have z1 : ¬ r4.2 = 12 := by omega
   clear hr hm hm2 hgm hst hi1 b4 hll hi hj hk
   rw [hq0] at c4
   have z1' : ¬ (r4.2 : Int) = 12 := by omega
   by_cases z0 : r4.2 = 0
   ·have z0' : (r4.2 : Int) = 0 := by omega
    (refine Ok.body ((Si.body 51 (by decide)).trans (congrArg _ body51)) (Si.pin 51 (by decide)) ?_; simp only [c51,Try.f51,Option.getD_some,rnC,rnP_eq,rnO_load,rnO_store,rnO_indexAddr,rnO_call,rnO_builtin,rnO_move,rnO_assign,rnO_pick,rnO_alloc,rnO_nilCheck,rnO_binOp,rnO_unOp,rnO_convert,rnO_extract,rnG_func,rnG_tmp,List.toList_toArray,List.map_cons,List.map_nil,List.map_toArray,Si.nsl 51 (by decide),nslot51,List.append_nil,List.map,List.replicate,List.length_cons,List.length_nil,Nat.reduceAdd,Nat.reduceSub,List.cons_append,List.nil_append])
    (repeat' (first | (simp -implicitDefEqProofs (maxSteps := 1000000) (disch := first | assumption | omega | exact hgA _ | (simp only [ZDI]; omega)) only [*,lenV,Si.slot 51 (by decide),Si.plan 51 (by decide),Si.tya,Si.tyb,rnT_a,rnT_b,rnT_o,Si.same 63 (by decide),Si.same 64 (by decide),Si.same 44 (by decide),G51,Za,Zb,Zc,Zd,Ze,Zf,Zg,Zh,Zi,Zj,Zk,Zl,Zm,Zn,Zo,Ja,Jb,Jc,J6,Jd,Je,rd_m,J7,J8,Jf,Jg,Jh,Ji,Jj,Jk,J9,Jl,Jm,wr_m,Jn,JA,JB,Jo,Jp,Jq,Jr,Js,Jt,Ju,Jv,Jw,Jx,Jy,Jz,J0,J1,J2,J3,J4,J5,reduceCtorEq,JC,JD,JE,JF,JG,JH,JI,JJ]) | ((with_reducible (first | apply Ok.br | apply Ok.gd | apply Ok.ld)) <;> (intro g; (try simp only [ZGS] at g); try (exfalso; omega)))))
    have := hfin'.out r4 hr'.out b4'
    rw [if_pos z0, z0'] at this
    exact this
   ·have z0' : ¬ (r4.2 : Int) = 0 := by omega
    (refine Ok.body ((Si.body 51 (by decide)).trans (congrArg _ body51)) (Si.pin 51 (by decide)) ?_; simp only [c51,Try.f51,Option.getD_some,rnC,rnP_eq,rnO_load,rnO_store,rnO_indexAddr,rnO_call,rnO_builtin,rnO_move,rnO_assign,rnO_pick,rnO_alloc,rnO_nilCheck,rnO_binOp,rnO_unOp,rnO_convert,rnO_extract,rnG_func,rnG_tmp,List.toList_toArray,List.map_cons,List.map_nil,List.map_toArray,Si.nsl 51 (by decide),nslot51,List.append_nil,List.map,List.replicate,List.length_cons,List.length_nil,Nat.reduceAdd,Nat.reduceSub,List.cons_append,List.nil_append])
    (repeat' (first | (simp -implicitDefEqProofs (maxSteps := 1000000) (disch := first | assumption | omega | exact hgA _ | (simp only [ZDI]; omega)) only [*,lenV,Si.slot 51 (by decide),Si.plan 51 (by decide),Si.tya,Si.tyb,rnT_a,rnT_b,rnT_o,Si.same 63 (by decide),Si.same 64 (by decide),Si.same 44 (by decide),G51,Za,Zb,Zc,Zd,Ze,Zf,Zg,Zh,Zi,Zj,Zk,Zl,Zm,Zn,Zo,Ja,Jb,Jc,J6,Jd,Je,rd_m,J7,J8,Jf,Jg,Jh,Ji,Jj,Jk,J9,Jl,Jm,wr_m,Jn,JA,JB,Jo,Jp,Jq,Jr,Js,Jt,Ju,Jv,Jw,Jx,Jy,Jz,J0,J1,J2,J3,J4,J5,reduceCtorEq,JC,JD,JE,JF,JG,JH,JI,JJ]) | ((with_reducible (first | apply Ok.br | apply Ok.gd | apply Ok.ld)) <;> (intro g; (try simp only [ZGS] at g); try (exfalso; omega)))))
    have := hfin'.out r4 hr'.out b4'
    rw [if_neg z0, if_neg z1] at this
    exact this
 ·have h8' : ¬ (8 : Int) <= (l : Int) := by omega
  have hr := hcp'.out
  simp only [if_neg (show ¬ l ≥ 8 from h8)] at hr
  have hr' := Hid.mk hr
  clear hr hm hm2 hgm hst hi1 hll hi hj hk
  (refine Ok.body ((Si.body 51 (by decide)).trans (congrArg _ body51)) (Si.pin 51 (by decide)) ?_; simp only [c51,Try.f51,Option.getD_some,rnC,rnP_eq,rnO_load,rnO_store,rnO_indexAddr,rnO_call,rnO_builtin,rnO_move,rnO_assign,rnO_pick,rnO_alloc,rnO_nilCheck,rnO_binOp,rnO_unOp,rnO_convert,rnO_extract,rnG_func,rnG_tmp,List.toList_toArray,List.map_cons,List.map_nil,List.map_toArray,Si.nsl 51 (by decide),nslot51,List.append_nil,List.map,List.replicate,List.length_cons,List.length_nil,Nat.reduceAdd,Nat.reduceSub,List.cons_append,List.nil_append])
  (repeat' (first | (simp -implicitDefEqProofs (maxSteps := 1000000) (disch := first | assumption | omega | exact hgA _ | (simp only [ZDI]; omega)) only [*,lenV,Si.slot 51 (by decide),Si.plan 51 (by decide),Si.tya,Si.tyb,rnT_a,rnT_b,rnT_o,Si.same 63 (by decide),Si.same 64 (by decide),Si.same 44 (by decide),G51,Za,Zb,Zc,Zd,Ze,Zf,Zg,Zh,Zi,Zj,Zk,Zl,Zm,Zn,Zo,Ja,Jb,Jc,J6,Jd,Je,rd_m,J7,J8,Jf,Jg,Jh,Ji,Jj,Jk,J9,Jl,Jm,wr_m,Jn,JA,JB,Jo,Jp,Jq,Jr,Js,Jt,Ju,Jv,Jw,Jx,Jy,Jz,J0,J1,J2,J3,J4,J5,reduceCtorEq,JC,JD,JE,JF,JG,JH,JI,JJ]) | ((with_reducible (first | apply Ok.br | apply Ok.gd | apply Ok.ld)) <;> (intro g; (try simp only [ZGS] at g); try (exfalso; omega)))))
  exact hfin'.out (j, 0) hr'.out (by omega)
theorem reverse_at {H : Heap} {g n cap z : Nat} {d : Array α} (hb : b < H.length) (hn : n <= d.size) (hl : d.size <= 1000000000) {i0 j0 : Nat} (h1 : i0 < j0) (h2 : j0 <= n) :
  D X (.fn (Si.f 52) []) [.sl (.at b g 0) n cap z, .int .i64 i0, .int .i64 j0, fv] (Si.hs H b g d) = some (.tup [], Si.hs H b g (reverseRange d i0 j0)) := by
 refine Ok.eq ?_
 refine Ok.aim fun Q hQ => ?_
 have hQ' := Hid.mk hQ
 clear hQ
 unfold SI.hs at hQ' ⊢
 unfold reverseRange at hQ'
 have e1 : (j0 : Int) - 1 = ((j0 - 1 : Nat) : Int) := by omega
 (refine Ok.body ((Si.body 52 (by decide)).trans (congrArg _ body52)) (Si.pin 52 (by decide)) ?_; simp only [c52,Try.f52,Option.getD_some,rnC,rnP_eq,rnO_load,rnO_store,rnO_indexAddr,rnO_call,rnO_builtin,rnO_move,rnO_assign,rnO_pick,rnO_alloc,rnO_nilCheck,rnO_binOp,rnO_unOp,rnO_convert,rnO_extract,rnG_func,rnG_tmp,List.toList_toArray,List.map_cons,List.map_nil,List.map_toArray,Si.nsl 52 (by decide),nslot52,List.append_nil,List.map,List.replicate,List.length_cons,List.length_nil,Nat.reduceAdd,Nat.reduceSub,List.cons_append,List.nil_append])
 (repeat' (first | (simp -implicitDefEqProofs (maxSteps := 1000000) (disch := first | assumption | omega | exact hgA _ | (simp only [ZDI]; omega)) only [*,lenV,Si.slot 52 (by decide),Si.plan 52 (by decide),Si.tya,Si.tyb,rnT_a,rnT_b,rnT_o,Si.same 63 (by decide),Si.same 64 (by decide),Si.same 44 (by decide),G52,Za,Zb,Zc,Zd,Ze,Zf,Zg,Zh,Zi,Zj,Zk,Zl,Zm,Zn,Zo,Ja,Jb,Jc,J6,Jd,Je,rd_m,J7,J8,Jf,Jg,Jh,Ji,Jj,Jk,J9,Jl,Jm,wr_m,Jn,JA,JB,Jo,Jp,Jq,Jr,Js,Jt,Ju,Jv,Jw,Jx,Jy,Jz,J0,J1,J2,J3,J4,J5,reduceCtorEq,JC,JD,JE,JF,JG,JH,JI,JJ]) | ((with_reducible (first | apply Ok.br | apply Ok.gd | apply Ok.ld)) <;> (intro g; (try simp only [ZGS] at g); try (exfalso; omega)))))
 refine Ok.loop [BF, BF, BF, BF, BF, BF, BF, BF, BT, BT, BF, BF, BF, BT, BT, BT, BT, BT, BT, BT, BT, BT, BT, BT, BT, BT, BT, BT, BT, BT, BT, BT, BT, BT] (fun m s2 => ∃ (i j : Nat) (e : Array α), m = j - i /\ j < n /\ tv s2.e 8 = .v (.int .i64 i) /\ tv s2.e 9 = .v (.int .i64 j) /\ s2.l = [] /\ s2.h = H.set b (.cells g true (Si.fl e)) /\ e.size = d.size /\ reverseLoop i j e = reverseLoop i0 (j0 - 1) d)
  (fun x s2 => x = .exit 0 /\ s2.l = [] /\ s2.h = H.set b (.cells g true (Si.fl (reverseLoop i0 (j0 - 1) d)))) (j0 - 1 - i0) ⟨i0, j0 - 1, d, rfl, by omega, rfl, rfl, rfl, rfl, rfl, rfl⟩ ?_ ?_
 ·intro m ⟨e', l', H'⟩ hW ⟨i, j, e, hm, hj, h11, h12, k2, k3, hsz, hre⟩
  dsimp only at hW h11 h12 k2 k3
  subst l' H'
  rw [hW.spread]
  simp only [spread_t,spread_f,spread_n,Nat.zero_add,Nat.reduceAdd,h11,h12]
  clear hW
  have hre' := Hid.mk hre
  clear hre e1
  by_cases hlt : i < j
  ·have hlt' : (i : Int) < (j : Int) := by omega
   have e5 : (j : Int) - 1 = ((j - 1 : Nat) : Int) := by omega
   have g3 : 0 <= (i : Int) /\ (i : Int) < (n : Int) := by omega
   have g4 : 0 <= (j : Int) /\ (j : Int) < (n : Int) := by omega
   have g5 : i < e.size := by omega
   have g6 : j < e.size := by omega
   (repeat' (first | (simp -implicitDefEqProofs (maxSteps := 1000000) (disch := first | assumption | omega | exact hgA _ | (simp only [ZDI]; omega)) only [*,lenV,Si.fl_len,Si.fl_rd,Si.fl_wr,Si.fl_wr2,swpI_eq,eq_self,Array.size_setIfInBounds,Si.slot 52 (by decide),Si.plan 52 (by decide),Si.tya,Si.tyb,rnT_a,rnT_b,rnT_o,Si.same 63 (by decide),Si.same 64 (by decide),Si.same 44 (by decide),G52,Za,Zb,Zc,Zd,Ze,Zf,Zg,Zh,Zi,Zj,Zk,Zl,Zm,Zn,Zo,Ja,Jb,Jc,J6,Jd,Je,rd_m,J7,J8,Jf,Jg,Jh,Ji,Jj,Jk,J9,Jl,Jm,wr_m,Jn,JA,JB,Jo,Jp,Jq,Jr,Js,Jt,Ju,Jv,Jw,Jx,Jy,Jz,J0,J1,J2,J3,J4,J5,reduceCtorEq,JC,JD,JE,JF,JG,JH,JI,JJ]) | ((with_reducible (first | apply Ok.br | apply Ok.gd | apply Ok.ld)) <;> (intro g; (try simp only [ZGS] at g); try (exfalso; omega)))))
   refine Turn.next (j - 1 - (i + 1)) (by omega) ⟨rfl, i + 1, j - 1, swp e i j, rfl, by omega, rfl, rfl, rfl, rfl, by rw [swpI_size]; exact hsz, ?_⟩
   rw [<- hre'.out]
   conv => rhs; rw [reverseLoop, if_pos hlt]
  ·have hlt' : ¬ (i : Int) < (j : Int) := by omega
   (repeat' (first | (simp -implicitDefEqProofs (maxSteps := 1000000) (disch := first | assumption | omega | exact hgA _ | (simp only [ZDI]; omega)) only [*,lenV,Si.slot 52 (by decide),Si.plan 52 (by decide),Si.tya,Si.tyb,rnT_a,rnT_b,rnT_o,Si.same 63 (by decide),Si.same 64 (by decide),Si.same 44 (by decide),G52,Za,Zb,Zc,Zd,Ze,Zf,Zg,Zh,Zi,Zj,Zk,Zl,Zm,Zn,Zo,Ja,Jb,Jc,J6,Jd,Je,rd_m,J7,J8,Jf,Jg,Jh,Ji,Jj,Jk,J9,Jl,Jm,wr_m,Jn,JA,JB,Jo,Jp,Jq,Jr,Js,Jt,Ju,Jv,Jw,Jx,Jy,Jz,J0,J1,J2,J3,J4,J5,reduceCtorEq,JC,JD,JE,JF,JG,JH,JI,JJ]) | ((with_reducible (first | apply Ok.br | apply Ok.gd | apply Ok.ld)) <;> (intro g; (try simp only [ZGS] at g); try (exfalso; omega)))))
   exact Turn.exit ⟨rfl, rfl, rfl, by rw [<- hre'.out, reverseLoop, if_neg hlt]⟩
 ·intro x ⟨e', l', H'⟩ hW ⟨hx, k2, k3⟩
  dsimp only at hW k2 k3
  subst l' hx H'
  rw [hW.spread]
  clear hW
  simp only [spread_t,spread_f,spread_n,Nat.zero_add,Nat.reduceAdd]
  (repeat' (first | (simp -implicitDefEqProofs (maxSteps := 1000000) (disch := first | assumption | omega | exact hgA _ | (simp only [ZDI]; omega)) only [*,Si.slot 52 (by decide),Si.plan 52 (by decide),Si.tya,Si.tyb,rnT_a,rnT_b,rnT_o,Si.same 63 (by decide),Si.same 64 (by decide),Si.same 44 (by decide),G52,Za,Zb,Zc,Zd,Ze,Zf,Zg,Zh,Zi,Zj,Zk,Zl,Zm,Zn,Zo,Ja,Jb,Jc,J6,Jd,Je,rd_m,J7,J8,Jf,Jg,Jh,Ji,Jj,Jk,J9,Jl,Jm,wr_m,Jn,JA,JB,Jo,Jp,Jq,Jr,Js,Jt,Ju,Jv,Jw,Jx,Jy,Jz,J0,J1,J2,J3,J4,J5,reduceCtorEq,JC,JD,JE,JF,JG,JH,JI,JJ]) | ((with_reducible (first | apply Ok.br | apply Ok.gd | apply Ok.ld)) <;> (intro g; (try simp only [ZGS] at g); try (exfalso; omega)))))
  exact hQ'.out _ rfl
end Go.Ev
set_option maxRecDepth 100000
namespace Go.Ev
open Go.Ev renaming exPure -> Ja, ofValue -> Jb, cellsV -> Jc, load -> Jd, store -> Je, binOp -> Jf, intOp -> Jg, rdV -> Jh, vsame -> Ji, vsames -> Jj, makeSliceV -> Jk, resV -> Jl, isCell -> Jm, nilCheckV -> Jn, allV -> Jo, builtinV -> Jp, lenV -> Jq, indexAddrV -> Jr, unOp -> Js, minmaxV -> Jt, minmax -> Ju, sliceV -> Jv, asInt -> Jw, appendV -> Jx, forkB -> Jy, roY -> Jz, rwB -> J0, copyV -> J1, clearV -> J2, convV -> J3, sliceCells -> J4, shift -> J5
open Bool renaming true -> BT, false -> BF
open Nat renaming reduceEqDiff -> J6, reduceLT -> J7, reduceAdd -> J8, reduceBEq -> J9, reduceSub -> JA, reduceMul -> JB, reduceLeDiff -> JJ
open Int renaming reduceLT -> JC, reduceLE -> JD, reduceAdd -> JE, reduceSub -> JF, reduceNeg -> JG, reduceToNat -> JH, reduceEq -> JI
open Go.Proofs Go.Sort
variable {α : Type} [Inhabited α] {Si : SI α} {fv : V} {lt : α -> α -> Bool} {b n0 : Nat}
theorem scanSorted_next {d : Array α} {b i : Nat} (h : i < b) (hl : lt d[i]! d[i - 1]! = false) : scanSorted lt d b (i + 1) = scanSorted lt d b i := by
 conv => rhs; rw [scanSorted, if_pos (by simp [h, hl])]
theorem scanSorted_stop {d : Array α} {b i : Nat} (h : ¬ i < b \/ lt d[i]! d[i - 1]! = true) : scanSorted lt d b i = i := by
 rw [scanSorted, if_neg]
 rcases h with h | h <;> simp [h]
theorem scanSorted_le {d : Array α} {b : Nat} : ∀ (m i : Nat), b - i <= m -> i <= b -> i <= scanSorted lt d b i /\ scanSorted lt d b i <= b := by
 intro m
 induction m with
 | zero => intro i h1 h2; rw [scanSorted_stop (.inl (by omega))]; exact ⟨Nat.le_refl _, h2⟩
 | succ m ih =>
  intro i h1 h2
  rw [scanSorted]
  split
  ·rename_i h
   simp only [Bool.and_eq_true,decide_eq_true_eq] at h
   have := ih (i + 1) (by omega) (by omega)
   omega
  ·exact ⟨Nat.le_refl _, h2⟩
theorem shiftDown_size (lt : α -> α -> Bool) : ∀ (j : Nat) (d : Array α), (shiftDown lt j d).size = d.size
 | 0, d => rfl
 | j + 1, d => by
  rw [shiftDown]
  split
  ·rfl
  ·rw [shiftDown_size lt j, swpI_size]
theorem shiftUp_size (lt : α -> α -> Bool) (b : Nat) : ∀ (m j : Nat) (d : Array α), b - j <= m -> (shiftUp lt b j d).size = d.size := by
 intro m
 induction m with
 | zero => intro j d h; rw [shiftUp, if_neg (by omega)]
 | succ m ih =>
  intro j d h
  rw [shiftUp]
  split
  ·split
   ·rfl
   ·rw [ih _ _ (by omega), swpI_size]
  ·rfl
set_option maxHeartbeats 4000000 in
theorem partIns_at (hc : Cmp Si fv lt b n0) {H : Heap} {g n cap z : Nat} {d : Array α} (hb : b < H.length) (hg : hc.good H) (hn : n <= d.size) (hl : d.size <= 1000000000) {i0 j0 : Nat} (h1 : i0 < j0) (h2 : j0 <= n) :
  D X (.fn (Si.f 53) []) [.sl (.at b g 0) n cap z, .int .i64 i0, .int .i64 j0, fv] (Si.hs H b g d) = some (.bool (partialInsertionSort lt d i0 j0).2, Si.hs H b g (partialInsertionSort lt d i0 j0).1) := by
 refine Ok.eq ?_
 refine Ok.aim fun Q hQ => ?_
 unfold partialInsertionSort at hQ
 generalize hR : partialIns lt i0 j0 5 (i0 + 1) d = R at hQ
 have hQ' := Hid.mk hQ
 clear hQ
 unfold SI.hs at hQ' ⊢
 have hgA := fun x => hc.gset H b x hg (.inl rfl)
 have hng' : Hid (∀ x y, lt x y = decide (hc.c x y < 0)) := ⟨hc.neg⟩
 (refine Ok.body ((Si.body 53 (by decide)).trans (congrArg _ body53)) (Si.pin 53 (by decide)) ?_; simp only [c53,Try.f53,Option.getD_some,rnC,rnP_eq,rnO_load,rnO_store,rnO_indexAddr,rnO_call,rnO_builtin,rnO_move,rnO_assign,rnO_pick,rnO_alloc,rnO_nilCheck,rnO_binOp,rnO_unOp,rnO_convert,rnO_extract,rnG_func,rnG_tmp,List.toList_toArray,List.map_cons,List.map_nil,List.map_toArray,Si.nsl 53 (by decide),nslot53,List.append_nil,List.map,List.replicate,List.length_cons,List.length_nil,Nat.reduceAdd,Nat.reduceSub,List.cons_append,List.nil_append])
 (repeat' (first | (simp -implicitDefEqProofs (maxSteps := 1000000) (disch := first | assumption | omega | exact hgA _ | (simp only [ZDI]; omega)) only [*,lenV,Si.slot 53 (by decide),Si.plan 53 (by decide),Si.tya,Si.tyb,rnT_a,rnT_b,rnT_o,Si.same 63 (by decide),Si.same 64 (by decide),Si.same 44 (by decide),G53,Za,Zb,Zc,Zd,Ze,Zf,Zg,Zh,Zi,Zj,Zk,Zl,Zm,Zn,Zo,Ja,Jb,Jc,J6,Jd,Je,rd_m,J7,J8,Jf,Jg,Jh,Ji,Jj,Jk,J9,Jl,Jm,wr_m,Jn,JA,JB,Jo,Jp,Jq,Jr,Js,Jt,Ju,Jv,Jw,Jx,Jy,Jz,J0,J1,J2,J3,J4,J5,reduceCtorEq,JC,JD,JE,JF,JG,JH,JI,JJ]) | ((with_reducible (first | apply Ok.br | apply Ok.gd | apply Ok.ld)) <;> (intro g; (try simp only [ZGS] at g); try (exfalso; omega)))))
 refine Ok.loop [BF, BF, BF, BF, BF, BF, BF, BF, BT, BT, BT, BT, BT, BF, BF, BT, BT, BT, BT, BT, BT, BT, BT, BT, BT, BT, BT, BT, BT, BT, BT, BT, BT, BT, BT, BT, BT, BT, BT, BT, BT, BT, BT, BT, BT, BT, BT, BT, BT, BT, BT, BT, BT, BT, BT, BT, BT, BT, BT, BT, BT, BT, BT, BT, BT, BT, BT, BT, BT, BT, BT, BT, BT, BT, BT, BT, BT, BT, BT, BT, BT, BT, BT, BT, BT, BT, BT, BT, BT, BT, BT, BT, BT, BT, BT, BT, BT, BT, BT, BT, BT, BT, BT, BT, BT, BT, BT, BT, BT, BT, BT, BT, BT, BT, BT, BT, BT, BT, BT, BT, BT, BT, BT, BT, BT, BT, BT, BT, BT, BT, BT, BT, BT, BT, BT, BT, BT, BT, BT, BT, BT] (fun m s2 => ∃ (k i : Nat) (e : Array α), m = 5 - k /\ k <= 5 /\ i0 < i /\ i <= j0 /\ tv s2.e 9 = .v (.int .i64 i) /\ tv s2.e 10 = .v (.int .i64 k) /\ s2.l = [] /\ s2.h = H.set b (.cells g true (Si.fl e)) /\ e.size = d.size /\ partialIns lt i0 j0 (5 - k) i e = R)
  (fun x s2 => s2.l = [] /\ s2.h = H.set b (.cells g true (Si.fl R.1)) /\ ((x = .exit 0 /\ R.2 = false) \/ (x = .ret /\ tv s2.e 8 = .v (.bool R.2)))) 5 ⟨0, i0 + 1, d, rfl, by omega, by omega, by omega, rfl, rfl, rfl, rfl, rfl, hR⟩ ?_ ?_
 ·intro m ⟨e', l', H'⟩ hW ⟨k, i, e, hm, hk, hi, hij, h9, h10, k2, k3, hsz, hre⟩
  dsimp only at hW h9 h10 k2 k3
  subst l' H'
  rw [hW.spread]
  simp only [spread_t,spread_f,spread_n,Nat.zero_add,Nat.reduceAdd,h9,h10]
  clear hW hQ' hR
  have hre' := Hid.mk hre
  clear hre
  by_cases hk5 : k < 5
  ·have hk5' : (k : Int) < 5 := by omega
   (repeat' (first | (simp -implicitDefEqProofs (maxSteps := 1000000) (disch := first | assumption | omega | exact hgA _ | (simp only [ZDI]; omega)) only [*,lenV,Si.slot 53 (by decide),Si.plan 53 (by decide),Si.tya,Si.tyb,rnT_a,rnT_b,rnT_o,Si.same 63 (by decide),Si.same 64 (by decide),Si.same 44 (by decide),G53,Za,Zb,Zc,Zd,Ze,Zf,Zg,Zh,Zi,Zj,Zk,Zl,Zm,Zn,Zo,Ja,Jb,Jc,J6,Jd,Je,rd_m,J7,J8,Jf,Jg,Jh,Ji,Jj,Jk,J9,Jl,Jm,wr_m,Jn,JA,JB,Jo,Jp,Jq,Jr,Js,Jt,Ju,Jv,Jw,Jx,Jy,Jz,J0,J1,J2,J3,J4,J5,reduceCtorEq,JC,JD,JE,JF,JG,JH,JI,JJ]) | ((with_reducible (first | apply Ok.br | apply Ok.gd | apply Ok.ld)) <;> (intro g; (try simp only [ZGS] at g); try (exfalso; omega)))))
   refine Ok.loop [BF, BF, BF, BF, BF, BF, BF, BF, BF, BT, BF, BF, BF, BF, BF, BF, BF, BF, BF, BT, BT, BT, BT, BT, BT, BT, BT, BT, BT, BT, BT, BT, BT, BT, BT, BT, BT, BT, BT, BF, BF, BF, BF, BF, BF, BF, BF, BF, BF, BF, BF, BF, BF, BF, BF, BF, BF, BF, BF, BF, BF, BF, BF, BF, BF, BF, BF, BF, BF, BF, BF, BF, BF, BF, BF, BF, BF, BF, BF, BF, BF, BF, BF, BF, BF, BF, BF, BF, BF, BF, BF, BF, BF, BF, BF, BF, BF, BF, BF, BF, BF, BF, BF, BF, BF, BF, BF, BF, BF, BF, BF, BF, BF, BF, BF, BF, BF, BF, BF, BF, BF, BF, BF, BF, BF, BF, BF, BF, BF, BF, BF, BF, BF, BF, BF, BF, BF, BF, BF, BF, BF] (fun m s2 => ∃ i2 : Nat, m = j0 - i2 /\ i <= i2 /\ i2 <= j0 /\ tv s2.e 9 = .v (.int .i64 i2) /\ s2.l = [] /\ s2.h = H.set b (.cells g true (Si.fl e)) /\ scanSorted lt e j0 i2 = scanSorted lt e j0 i)
    (fun x s2 => x = .exit 2 /\ tv s2.e 9 = .v (.int .i64 (scanSorted lt e j0 i : Nat)) /\ s2.l = [] /\ s2.h = H.set b (.cells g true (Si.fl e))) (j0 - i) ⟨i, rfl, Nat.le_refl _, hij, rfl, rfl, rfl, rfl⟩ ?_ ?_
   ·intro m2 ⟨e3, l3, H3⟩ hW2 ⟨i2, hm2, hi2, hi3, q9, q2, q3, hsc⟩
    dsimp only at hW2 q9 q2 q3
    subst l3 H3
    rw [hW2.spread]
    simp only [spread_t,spread_f,spread_n,Nat.zero_add,Nat.reduceAdd,q9]
    clear hW2
    have hsc' := Hid.mk hsc
    clear hsc
    by_cases hle : i2 < j0
    ·have hle' : (i2 : Int) < (j0 : Int) := by omega
     have e1 : (i2 : Int) - 1 = ((i2 - 1 : Nat) : Int) := by omega
     have g1 : 0 <= (i2 : Int) /\ (i2 : Int) < (n : Int) := by omega
     have g2 : 0 <= ((i2 - 1 : Nat) : Int) /\ ((i2 - 1 : Nat) : Int) < (n : Int) := by omega
     have g3 : i2 < e.size := by omega
     have g4 : i2 - 1 < e.size := by omega
     by_cases hp : hc.c e[i2]! e[i2 - 1]! < 0
     ·(repeat' (first | (simp -implicitDefEqProofs (maxSteps := 1000000) (disch := first | assumption | omega | exact hgA _ | (simp only [ZDI]; omega)) only [*,lenV,Si.fl_len,Si.fl_rd,Si.fl_wr,Si.fl_wr2,swpI_eq,hc.run,eq_self,Array.size_setIfInBounds,Si.slot 53 (by decide),Si.plan 53 (by decide),Si.tya,Si.tyb,rnT_a,rnT_b,rnT_o,Si.same 63 (by decide),Si.same 64 (by decide),Si.same 44 (by decide),G53,Za,Zb,Zc,Zd,Ze,Zf,Zg,Zh,Zi,Zj,Zk,Zl,Zm,Zn,Zo,Ja,Jb,Jc,J6,Jd,Je,rd_m,J7,J8,Jf,Jg,Jh,Ji,Jj,Jk,J9,Jl,Jm,wr_m,Jn,JA,JB,Jo,Jp,Jq,Jr,Js,Jt,Ju,Jv,Jw,Jx,Jy,Jz,J0,J1,J2,J3,J4,J5,reduceCtorEq,JC,JD,JE,JF,JG,JH,JI,JJ]) | ((with_reducible (first | apply Ok.br | apply Ok.gd | apply Ok.ld)) <;> (intro g; (try simp only [ZGS] at g); try (exfalso; omega)))))
      exact Turn.exit ⟨rfl, rfl, by rw [<- hsc'.out, scanSorted_stop (.inr (by rw [hng'.out]; exact decide_eq_true hp))] <;> rfl, rfl, rfl⟩
     ·(repeat' (first | (simp -implicitDefEqProofs (maxSteps := 1000000) (disch := first | assumption | omega | exact hgA _ | (simp only [ZDI]; omega)) only [*,lenV,Si.fl_len,Si.fl_rd,Si.fl_wr,Si.fl_wr2,swpI_eq,hc.run,eq_self,Array.size_setIfInBounds,Si.slot 53 (by decide),Si.plan 53 (by decide),Si.tya,Si.tyb,rnT_a,rnT_b,rnT_o,Si.same 63 (by decide),Si.same 64 (by decide),Si.same 44 (by decide),G53,Za,Zb,Zc,Zd,Ze,Zf,Zg,Zh,Zi,Zj,Zk,Zl,Zm,Zn,Zo,Ja,Jb,Jc,J6,Jd,Je,rd_m,J7,J8,Jf,Jg,Jh,Ji,Jj,Jk,J9,Jl,Jm,wr_m,Jn,JA,JB,Jo,Jp,Jq,Jr,Js,Jt,Ju,Jv,Jw,Jx,Jy,Jz,J0,J1,J2,J3,J4,J5,reduceCtorEq,JC,JD,JE,JF,JG,JH,JI,JJ]) | ((with_reducible (first | apply Ok.br | apply Ok.gd | apply Ok.ld)) <;> (intro g; (try simp only [ZGS] at g); try (exfalso; omega)))))
      exact Turn.next (j0 - (i2 + 1)) (by omega) ⟨rfl, i2 + 1, rfl, by omega, by omega, rfl, rfl, rfl, by rw [<- hsc'.out, scanSorted_next hle (by rw [hng'.out]; exact decide_eq_false hp)]⟩
    ·have hle' : ¬ (i2 : Int) < (j0 : Int) := by omega
     (repeat' (first | (simp -implicitDefEqProofs (maxSteps := 1000000) (disch := first | assumption | omega | exact hgA _ | (simp only [ZDI]; omega)) only [*,lenV,Si.slot 53 (by decide),Si.plan 53 (by decide),Si.tya,Si.tyb,rnT_a,rnT_b,rnT_o,Si.same 63 (by decide),Si.same 64 (by decide),Si.same 44 (by decide),G53,Za,Zb,Zc,Zd,Ze,Zf,Zg,Zh,Zi,Zj,Zk,Zl,Zm,Zn,Zo,Ja,Jb,Jc,J6,Jd,Je,rd_m,J7,J8,Jf,Jg,Jh,Ji,Jj,Jk,J9,Jl,Jm,wr_m,Jn,JA,JB,Jo,Jp,Jq,Jr,Js,Jt,Ju,Jv,Jw,Jx,Jy,Jz,J0,J1,J2,J3,J4,J5,reduceCtorEq,JC,JD,JE,JF,JG,JH,JI,JJ]) | ((with_reducible (first | apply Ok.br | apply Ok.gd | apply Ok.ld)) <;> (intro g; (try simp only [ZGS] at g); try (exfalso; omega)))))
     exact Turn.exit ⟨rfl, rfl, by rw [<- hsc'.out, scanSorted_stop (.inl hle)] <;> rfl, rfl, rfl⟩
   ·intro x ⟨e3, l3, H3⟩ hW2 ⟨hx, q9, q2, q3⟩
    dsimp only at hW2 q9 q2 q3
    subst l3 hx H3
    rw [hW2.spread]
    simp only [spread_t,spread_f,spread_n,Nat.zero_add,Nat.reduceAdd,q9]
    clear hW2
    have hge := scanSorted_le (lt := lt) (d := e) (b := j0) _ i (Nat.le_refl _) hij
    have hre := hre'.out
    clear hre'
    obtain ⟨s, hs5⟩ : ∃ s, 5 - k = s + 1 := ⟨5 - k - 1, by omega⟩
    rw [hs5, partialIns_succ] at hre
    generalize scanSorted lt e j0 i = I at hge q9 hre
    have hre' := Hid.mk hre
    clear hre
    by_cases hIj : I = j0
    ·have hIj' : (I : Int) = (j0 : Int) := by omega
     have hr := hre'.out
     rw [if_pos hIj] at hr
     subst hr
     clear hre' hIj
     (repeat' (first | (simp -implicitDefEqProofs (maxSteps := 1000000) (disch := first | assumption | omega | exact hgA _ | (simp only [ZDI]; omega)) only [*,lenV,Si.slot 53 (by decide),Si.plan 53 (by decide),Si.tya,Si.tyb,rnT_a,rnT_b,rnT_o,Si.same 63 (by decide),Si.same 64 (by decide),Si.same 44 (by decide),G53,Za,Zb,Zc,Zd,Ze,Zf,Zg,Zh,Zi,Zj,Zk,Zl,Zm,Zn,Zo,Ja,Jb,Jc,J6,Jd,Je,rd_m,J7,J8,Jf,Jg,Jh,Ji,Jj,Jk,J9,Jl,Jm,wr_m,Jn,JA,JB,Jo,Jp,Jq,Jr,Js,Jt,Ju,Jv,Jw,Jx,Jy,Jz,J0,J1,J2,J3,J4,J5,reduceCtorEq,JC,JD,JE,JF,JG,JH,JI,JJ]) | ((with_reducible (first | apply Ok.br | apply Ok.gd | apply Ok.ld)) <;> (intro g; (try simp only [ZGS] at g); try (exfalso; omega)))))
     exact Turn.ret ⟨rfl, rfl, rfl, .inr ⟨rfl, rfl⟩⟩
    ·have hIj' : ¬ (I : Int) = (j0 : Int) := by omega
     by_cases h50 : j0 - i0 < 50
     ·have h50' : (j0 : Int) - (i0 : Int) < 50 := by omega
      have hr := hre'.out
      rw [if_neg hIj, if_pos h50] at hr
      subst hr
      clear hre' hIj
      (repeat' (first | (simp -implicitDefEqProofs (maxSteps := 1000000) (disch := first | assumption | omega | exact hgA _ | (simp only [ZDI]; omega)) only [*,lenV,Si.slot 53 (by decide),Si.plan 53 (by decide),Si.tya,Si.tyb,rnT_a,rnT_b,rnT_o,Si.same 63 (by decide),Si.same 64 (by decide),Si.same 44 (by decide),G53,Za,Zb,Zc,Zd,Ze,Zf,Zg,Zh,Zi,Zj,Zk,Zl,Zm,Zn,Zo,Ja,Jb,Jc,J6,Jd,Je,rd_m,J7,J8,Jf,Jg,Jh,Ji,Jj,Jk,J9,Jl,Jm,wr_m,Jn,JA,JB,Jo,Jp,Jq,Jr,Js,Jt,Ju,Jv,Jw,Jx,Jy,Jz,J0,J1,J2,J3,J4,J5,reduceCtorEq,JC,JD,JE,JF,JG,JH,JI,JJ]) | ((with_reducible (first | apply Ok.br | apply Ok.gd | apply Ok.ld)) <;> (intro g; (try simp only [ZGS] at g); try (exfalso; omega)))))
      exact Turn.ret ⟨rfl, rfl, rfl, .inr ⟨rfl, rfl⟩⟩
     ·have h50' : ¬ (j0 : Int) - (i0 : Int) < 50 := by omega
      have hr := hre'.out
      rw [if_neg hIj, if_neg h50] at hr
      clear hre'
      have hre' := Hid.mk hr
      clear hr h50
      have e1 : (I : Int) - 1 = ((I - 1 : Nat) : Int) := by omega
      have e2 : (I : Int) + 1 = ((I + 1 : Nat) : Int) := by omega
      have g1 : 0 <= (I : Int) /\ (I : Int) < (n : Int) := by omega
      have g2 : 0 <= ((I - 1 : Nat) : Int) /\ ((I - 1 : Nat) : Int) < (n : Int) := by omega
      have g3 : I < e.size := by omega
      have g4 : I - 1 < e.size := by omega
      by_cases hd : 2 <= I - i0
      ·have hd' : 2 <= (I : Int) - (i0 : Int) := by omega
       (repeat' (first | (simp -implicitDefEqProofs (maxSteps := 1000000) (disch := first | assumption | omega | exact hgA _ | (simp only [ZDI]; omega)) only [*,lenV,Si.fl_len,Si.fl_rd,Si.fl_wr,Si.fl_wr2,swpI_eq,hc.run,eq_self,Array.size_setIfInBounds,Si.slot 53 (by decide),Si.plan 53 (by decide),Si.tya,Si.tyb,rnT_a,rnT_b,rnT_o,Si.same 63 (by decide),Si.same 64 (by decide),Si.same 44 (by decide),G53,Za,Zb,Zc,Zd,Ze,Zf,Zg,Zh,Zi,Zj,Zk,Zl,Zm,Zn,Zo,Ja,Jb,Jc,J6,Jd,Je,rd_m,J7,J8,Jf,Jg,Jh,Ji,Jj,Jk,J9,Jl,Jm,wr_m,Jn,JA,JB,Jo,Jp,Jq,Jr,Js,Jt,Ju,Jv,Jw,Jx,Jy,Jz,J0,J1,J2,J3,J4,J5,reduceCtorEq,JC,JD,JE,JF,JG,JH,JI,JJ]) | ((with_reducible (first | apply Ok.br | apply Ok.gd | apply Ok.ld)) <;> (intro g; (try simp only [ZGS] at g); try (exfalso; omega)))))
       have hfd : fixDown lt i0 I (swp e I (I - 1)) = shiftDown lt (I - 1) (swp e I (I - 1)) := if_pos hd
       rw [hfd] at hre'
       have hs2 : (swp e I (I - 1)).size = d.size := by rw [swpI_size]; exact hsz
       generalize swp e I (I - 1) = d2 at hs2 hre'
       obtain ⟨K, hK⟩ : ∃ K, I - 1 = K := ⟨_, rfl⟩
       simp only [hK] at hre' ⊢
       clear e1 g2 g3 g4 hfd
       have hK2 : K < j0 := by omega
       refine Ok.loop [BF, BF, BF, BF, BF, BF, BF, BF, BF, BF, BF, BT, BF, BF, BF, BF, BF, BF, BF, BF, BF, BF, BF, BF, BF, BF, BF, BF, BF, BF, BF, BF, BF, BF, BF, BF, BF, BF, BF, BF, BF, BF, BF, BF, BF, BF, BF, BF, BF, BF, BF, BF, BF, BF, BF, BF, BF, BF, BF, BF, BF, BF, BF, BF, BF, BF, BF, BF, BT, BT, BT, BT, BT, BT, BT, BT, BT, BT, BT, BT, BT, BT, BT, BT, BT, BT, BT, BT, BT, BT, BT, BT, BT, BT, BT, BT, BT, BT, BT, BT, BT, BF, BF, BF, BF, BF, BF, BF, BF, BF, BF, BF, BF, BF, BF, BF, BF, BF, BF, BF, BF, BF, BF, BF, BF, BF, BF, BF, BF, BF, BF, BF, BF, BF, BF, BF, BF, BF, BF, BF, BF] (fun m s2 => ∃ (j : Nat) (e2 : Array α), m = j /\ j <= K /\ tv s2.e 11 = .v (.int .i64 j) /\ s2.l = [] /\ s2.h = H.set b (.cells g true (Si.fl e2)) /\ e2.size = d.size /\ shiftDown lt j e2 = shiftDown lt K d2)
        (fun x s2 => x = .exit 4 /\ s2.l = [] /\ s2.h = H.set b (.cells g true (Si.fl (shiftDown lt K d2)))) K ⟨K, d2, rfl, Nat.le_refl _, rfl, rfl, rfl, hs2, rfl⟩ ?_ ?_
       ·intro m2 ⟨e3, l3, H3⟩ hW2 ⟨j, e2, hm2, hj, q9, q2, q3, hsz2, hsc⟩
        dsimp only at hW2 q9 q2 q3
        subst l3 H3
        rw [hW2.spread]
        simp only [spread_t,spread_f,spread_n,Nat.zero_add,Nat.reduceAdd,q9]
        clear hW2
        have hsc' := Hid.mk hsc
        clear hsc
        by_cases hj0 : 1 <= j
        ·obtain ⟨j, rfl⟩ : ∃ j', j = j' + 1 := ⟨j - 1, by omega⟩
         have hj0' : 1 <= ((j + 1 : Nat) : Int) := by omega
         have e1 : ((j + 1 : Nat) : Int) - 1 = (j : Int) := by omega
         have g1 : 0 <= ((j + 1 : Nat) : Int) /\ ((j + 1 : Nat) : Int) < (n : Int) := by omega
         have g2 : 0 <= (j : Int) /\ (j : Int) < (n : Int) := by omega
         have g3 : j + 1 < e2.size := by omega
         have g4 : j < e2.size := by omega
         by_cases hp : hc.c e2[j + 1]! e2[j]! < 0
         ·(repeat' (first | (simp -implicitDefEqProofs (maxSteps := 1000000) (disch := first | assumption | omega | exact hgA _ | (simp only [ZDI]; omega)) only [*,lenV,Si.fl_len,Si.fl_rd,Si.fl_wr,Si.fl_wr2,swpI_eq,hc.run,eq_self,Array.size_setIfInBounds,Si.slot 53 (by decide),Si.plan 53 (by decide),Si.tya,Si.tyb,rnT_a,rnT_b,rnT_o,Si.same 63 (by decide),Si.same 64 (by decide),Si.same 44 (by decide),G53,Za,Zb,Zc,Zd,Ze,Zf,Zg,Zh,Zi,Zj,Zk,Zl,Zm,Zn,Zo,Ja,Jb,Jc,J6,Jd,Je,rd_m,J7,J8,Jf,Jg,Jh,Ji,Jj,Jk,J9,Jl,Jm,wr_m,Jn,JA,JB,Jo,Jp,Jq,Jr,Js,Jt,Ju,Jv,Jw,Jx,Jy,Jz,J0,J1,J2,J3,J4,J5,reduceCtorEq,JC,JD,JE,JF,JG,JH,JI,JJ]) | ((with_reducible (first | apply Ok.br | apply Ok.gd | apply Ok.ld)) <;> (intro g; (try simp only [ZGS] at g); try (exfalso; omega)))))
          refine Turn.next j (by omega) ⟨rfl, j, swp e2 (j + 1) j, rfl, by omega, rfl, rfl, rfl, by rw [swpI_size]; exact hsz2, ?_⟩
          rw [<- hsc'.out]
          conv => rhs; rw [shiftDown, hng'.out, decide_eq_true hp, if_neg (by simp)]
         ·(repeat' (first | (simp -implicitDefEqProofs (maxSteps := 1000000) (disch := first | assumption | omega | exact hgA _ | (simp only [ZDI]; omega)) only [*,lenV,Si.fl_len,Si.fl_rd,Si.fl_wr,Si.fl_wr2,swpI_eq,hc.run,eq_self,Array.size_setIfInBounds,Si.slot 53 (by decide),Si.plan 53 (by decide),Si.tya,Si.tyb,rnT_a,rnT_b,rnT_o,Si.same 63 (by decide),Si.same 64 (by decide),Si.same 44 (by decide),G53,Za,Zb,Zc,Zd,Ze,Zf,Zg,Zh,Zi,Zj,Zk,Zl,Zm,Zn,Zo,Ja,Jb,Jc,J6,Jd,Je,rd_m,J7,J8,Jf,Jg,Jh,Ji,Jj,Jk,J9,Jl,Jm,wr_m,Jn,JA,JB,Jo,Jp,Jq,Jr,Js,Jt,Ju,Jv,Jw,Jx,Jy,Jz,J0,J1,J2,J3,J4,J5,reduceCtorEq,JC,JD,JE,JF,JG,JH,JI,JJ]) | ((with_reducible (first | apply Ok.br | apply Ok.gd | apply Ok.ld)) <;> (intro g; (try simp only [ZGS] at g); try (exfalso; omega)))))
          exact Turn.exit ⟨rfl, rfl, rfl, by rw [<- hsc'.out, shiftDown, hng'.out, decide_eq_false hp, if_pos (by simp)]⟩
        ·have hj0' : ¬ 1 <= (j : Int) := by omega
         (repeat' (first | (simp -implicitDefEqProofs (maxSteps := 1000000) (disch := first | assumption | omega | exact hgA _ | (simp only [ZDI]; omega)) only [*,lenV,Si.fl_len,Si.fl_rd,Si.fl_wr,Si.fl_wr2,swpI_eq,hc.run,eq_self,Array.size_setIfInBounds,Si.slot 53 (by decide),Si.plan 53 (by decide),Si.tya,Si.tyb,rnT_a,rnT_b,rnT_o,Si.same 63 (by decide),Si.same 64 (by decide),Si.same 44 (by decide),G53,Za,Zb,Zc,Zd,Ze,Zf,Zg,Zh,Zi,Zj,Zk,Zl,Zm,Zn,Zo,Ja,Jb,Jc,J6,Jd,Je,rd_m,J7,J8,Jf,Jg,Jh,Ji,Jj,Jk,J9,Jl,Jm,wr_m,Jn,JA,JB,Jo,Jp,Jq,Jr,Js,Jt,Ju,Jv,Jw,Jx,Jy,Jz,J0,J1,J2,J3,J4,J5,reduceCtorEq,JC,JD,JE,JF,JG,JH,JI,JJ]) | ((with_reducible (first | apply Ok.br | apply Ok.gd | apply Ok.ld)) <;> (intro g; (try simp only [ZGS] at g); try (exfalso; omega)))))
         obtain rfl : j = 0 := by omega
         exact Turn.exit ⟨rfl, rfl, rfl, by rw [<- hsc'.out]; rfl⟩
       ·intro x ⟨e3, l3, H3⟩ hW2 ⟨hx, q2, q3⟩
        dsimp only at hW2 q2 q3
        subst l3 hx H3
        rw [hW2.spread]
        simp only [spread_t,spread_f,spread_n,Nat.zero_add,Nat.reduceAdd]
        clear hW2
        have hs3 : (shiftDown lt K d2).size = d.size := by rw [shiftDown_size]; exact hs2
        generalize shiftDown lt K d2 = d3 at hs3 hre'
        clear hs2
        by_cases hu : 2 <= j0 - I
        ·have hu' : 2 <= (j0 : Int) - (I : Int) := by omega
         (repeat' (first | (simp -implicitDefEqProofs (maxSteps := 1000000) (disch := first | assumption | omega | exact hgA _ | (simp only [ZDI]; omega)) only [*,lenV,Si.fl_len,Si.fl_rd,Si.fl_wr,Si.fl_wr2,swpI_eq,hc.run,eq_self,Array.size_setIfInBounds,Si.slot 53 (by decide),Si.plan 53 (by decide),Si.tya,Si.tyb,rnT_a,rnT_b,rnT_o,Si.same 63 (by decide),Si.same 64 (by decide),Si.same 44 (by decide),G53,Za,Zb,Zc,Zd,Ze,Zf,Zg,Zh,Zi,Zj,Zk,Zl,Zm,Zn,Zo,Ja,Jb,Jc,J6,Jd,Je,rd_m,J7,J8,Jf,Jg,Jh,Ji,Jj,Jk,J9,Jl,Jm,wr_m,Jn,JA,JB,Jo,Jp,Jq,Jr,Js,Jt,Ju,Jv,Jw,Jx,Jy,Jz,J0,J1,J2,J3,J4,J5,reduceCtorEq,JC,JD,JE,JF,JG,JH,JI,JJ]) | ((with_reducible (first | apply Ok.br | apply Ok.gd | apply Ok.ld)) <;> (intro g; (try simp only [ZGS] at g); try (exfalso; omega)))))
         have hfu : fixUp lt j0 I d3 = shiftUp lt j0 (I + 1) d3 := if_pos hu
         rw [hfu] at hre'
         refine Ok.loop [BF, BF, BF, BF, BF, BF, BF, BF, BF, BF, BF, BF, BT, BF, BF, BF, BF, BF, BF, BF, BF, BF, BF, BF, BF, BF, BF, BF, BF, BF, BF, BF, BF, BF, BF, BF, BF, BF, BF, BF, BF, BF, BF, BF, BF, BF, BF, BF, BF, BF, BF, BF, BF, BF, BF, BF, BF, BF, BF, BF, BF, BF, BF, BF, BF, BF, BF, BF, BF, BF, BF, BF, BF, BF, BF, BF, BF, BF, BF, BF, BF, BF, BF, BF, BF, BF, BF, BF, BF, BF, BF, BF, BF, BF, BF, BF, BF, BF, BF, BF, BF, BF, BF, BF, BF, BF, BF, BT, BT, BT, BT, BT, BT, BT, BT, BT, BT, BT, BT, BT, BT, BT, BT, BT, BT, BT, BT, BT, BT, BT, BT, BT, BT, BT, BT, BT, BT, BT, BT, BT, BT] (fun m s2 => ∃ (j : Nat) (e2 : Array α), m = j0 - j /\ I < j /\ j <= j0 /\ tv s2.e 12 = .v (.int .i64 j) /\ s2.l = [] /\ s2.h = H.set b (.cells g true (Si.fl e2)) /\ e2.size = d.size /\ shiftUp lt j0 j e2 = shiftUp lt j0 (I + 1) d3)
          (fun x s2 => x = .exit 6 /\ s2.l = [] /\ s2.h = H.set b (.cells g true (Si.fl (shiftUp lt j0 (I + 1) d3)))) (j0 - (I + 1)) ⟨I + 1, d3, rfl, Nat.lt_succ_self _, by omega, rfl, rfl, rfl, hs3, rfl⟩ ?_ ?_
         ·intro m2 ⟨e3, l3, H3⟩ hW2 ⟨j, e2, hm2, hj, hj2, q9, q2, q3, hsz2, hsc⟩
          dsimp only at hW2 q9 q2 q3
          subst l3 H3
          rw [hW2.spread]
          simp only [spread_t,spread_f,spread_n,Nat.zero_add,Nat.reduceAdd,q9]
          clear hW2
          have hsc' := Hid.mk hsc
          clear hsc
          by_cases hj0 : j < j0
          ·have hj0' : (j : Int) < (j0 : Int) := by omega
           have e1 : (j : Int) - 1 = ((j - 1 : Nat) : Int) := by omega
           have g1 : 0 <= (j : Int) /\ (j : Int) < (n : Int) := by omega
           have g2 : 0 <= ((j - 1 : Nat) : Int) /\ ((j - 1 : Nat) : Int) < (n : Int) := by omega
           have g3 : j < e2.size := by omega
           have g4 : j - 1 < e2.size := by omega
           by_cases hp : hc.c e2[j]! e2[j - 1]! < 0
           ·(repeat' (first | (simp -implicitDefEqProofs (maxSteps := 1000000) (disch := first | assumption | omega | exact hgA _ | (simp only [ZDI]; omega)) only [*,lenV,Si.fl_len,Si.fl_rd,Si.fl_wr,Si.fl_wr2,swpI_eq,hc.run,eq_self,Array.size_setIfInBounds,Si.slot 53 (by decide),Si.plan 53 (by decide),Si.tya,Si.tyb,rnT_a,rnT_b,rnT_o,Si.same 63 (by decide),Si.same 64 (by decide),Si.same 44 (by decide),G53,Za,Zb,Zc,Zd,Ze,Zf,Zg,Zh,Zi,Zj,Zk,Zl,Zm,Zn,Zo,Ja,Jb,Jc,J6,Jd,Je,rd_m,J7,J8,Jf,Jg,Jh,Ji,Jj,Jk,J9,Jl,Jm,wr_m,Jn,JA,JB,Jo,Jp,Jq,Jr,Js,Jt,Ju,Jv,Jw,Jx,Jy,Jz,J0,J1,J2,J3,J4,J5,reduceCtorEq,JC,JD,JE,JF,JG,JH,JI,JJ]) | ((with_reducible (first | apply Ok.br | apply Ok.gd | apply Ok.ld)) <;> (intro g; (try simp only [ZGS] at g); try (exfalso; omega)))))
            refine Turn.next (j0 - (j + 1)) (by omega) ⟨rfl, j + 1, swp e2 j (j - 1), rfl, by omega, by omega, rfl, rfl, rfl, by rw [swpI_size]; exact hsz2, ?_⟩
            rw [<- hsc'.out]
            conv => rhs; rw [shiftUp, if_pos hj0, hng'.out, decide_eq_true hp, if_neg (by simp)]
           ·(repeat' (first | (simp -implicitDefEqProofs (maxSteps := 1000000) (disch := first | assumption | omega | exact hgA _ | (simp only [ZDI]; omega)) only [*,lenV,Si.fl_len,Si.fl_rd,Si.fl_wr,Si.fl_wr2,swpI_eq,hc.run,eq_self,Array.size_setIfInBounds,Si.slot 53 (by decide),Si.plan 53 (by decide),Si.tya,Si.tyb,rnT_a,rnT_b,rnT_o,Si.same 63 (by decide),Si.same 64 (by decide),Si.same 44 (by decide),G53,Za,Zb,Zc,Zd,Ze,Zf,Zg,Zh,Zi,Zj,Zk,Zl,Zm,Zn,Zo,Ja,Jb,Jc,J6,Jd,Je,rd_m,J7,J8,Jf,Jg,Jh,Ji,Jj,Jk,J9,Jl,Jm,wr_m,Jn,JA,JB,Jo,Jp,Jq,Jr,Js,Jt,Ju,Jv,Jw,Jx,Jy,Jz,J0,J1,J2,J3,J4,J5,reduceCtorEq,JC,JD,JE,JF,JG,JH,JI,JJ]) | ((with_reducible (first | apply Ok.br | apply Ok.gd | apply Ok.ld)) <;> (intro g; (try simp only [ZGS] at g); try (exfalso; omega)))))
            exact Turn.exit ⟨rfl, rfl, rfl, by rw [<- hsc'.out, shiftUp, if_pos hj0, hng'.out, decide_eq_false hp, if_pos (by simp)]⟩
          ·have hj0' : ¬ (j : Int) < (j0 : Int) := by omega
           (repeat' (first | (simp -implicitDefEqProofs (maxSteps := 1000000) (disch := first | assumption | omega | exact hgA _ | (simp only [ZDI]; omega)) only [*,lenV,Si.fl_len,Si.fl_rd,Si.fl_wr,Si.fl_wr2,swpI_eq,hc.run,eq_self,Array.size_setIfInBounds,Si.slot 53 (by decide),Si.plan 53 (by decide),Si.tya,Si.tyb,rnT_a,rnT_b,rnT_o,Si.same 63 (by decide),Si.same 64 (by decide),Si.same 44 (by decide),G53,Za,Zb,Zc,Zd,Ze,Zf,Zg,Zh,Zi,Zj,Zk,Zl,Zm,Zn,Zo,Ja,Jb,Jc,J6,Jd,Je,rd_m,J7,J8,Jf,Jg,Jh,Ji,Jj,Jk,J9,Jl,Jm,wr_m,Jn,JA,JB,Jo,Jp,Jq,Jr,Js,Jt,Ju,Jv,Jw,Jx,Jy,Jz,J0,J1,J2,J3,J4,J5,reduceCtorEq,JC,JD,JE,JF,JG,JH,JI,JJ]) | ((with_reducible (first | apply Ok.br | apply Ok.gd | apply Ok.ld)) <;> (intro g; (try simp only [ZGS] at g); try (exfalso; omega)))))
           exact Turn.exit ⟨rfl, rfl, rfl, by rw [<- hsc'.out, shiftUp, if_neg hj0]⟩
         ·intro x ⟨e3, l3, H3⟩ hW2 ⟨hx, q2, q3⟩
          dsimp only at hW2 q2 q3
          subst l3 hx H3
          rw [hW2.spread]
          simp only [spread_t,spread_f,spread_n,Nat.zero_add,Nat.reduceAdd]
          clear hW2
          have hs4 : (shiftUp lt j0 (I + 1) d3).size = d.size := by rw [shiftUp_size lt _ _ _ _ (Nat.le_refl _)]; exact hs3
          generalize shiftUp lt j0 (I + 1) d3 = d4 at hs4 hre'
          (repeat' (first | (simp -implicitDefEqProofs (maxSteps := 1000000) (disch := first | assumption | omega | exact hgA _ | (simp only [ZDI]; omega)) only [*,lenV,Si.fl_len,Si.fl_rd,Si.fl_wr,Si.fl_wr2,swpI_eq,hc.run,eq_self,Array.size_setIfInBounds,Si.slot 53 (by decide),Si.plan 53 (by decide),Si.tya,Si.tyb,rnT_a,rnT_b,rnT_o,Si.same 63 (by decide),Si.same 64 (by decide),Si.same 44 (by decide),G53,Za,Zb,Zc,Zd,Ze,Zf,Zg,Zh,Zi,Zj,Zk,Zl,Zm,Zn,Zo,Ja,Jb,Jc,J6,Jd,Je,rd_m,J7,J8,Jf,Jg,Jh,Ji,Jj,Jk,J9,Jl,Jm,wr_m,Jn,JA,JB,Jo,Jp,Jq,Jr,Js,Jt,Ju,Jv,Jw,Jx,Jy,Jz,J0,J1,J2,J3,J4,J5,reduceCtorEq,JC,JD,JE,JF,JG,JH,JI,JJ]) | ((with_reducible (first | apply Ok.br | apply Ok.gd | apply Ok.ld)) <;> (intro g; (try simp only [ZGS] at g); try (exfalso; omega)))))
          exact Turn.next s (by omega) ⟨rfl, k + 1, I, d4, by omega, by omega, by omega, by omega, rfl, rfl, rfl, rfl, hs4, by rw [show 5 - (k + 1) = s by omega]; exact hre'.out⟩
        ·have hu' : ¬ 2 <= (j0 : Int) - (I : Int) := by omega
         (repeat' (first | (simp -implicitDefEqProofs (maxSteps := 1000000) (disch := first | assumption | omega | exact hgA _ | (simp only [ZDI]; omega)) only [*,lenV,Si.fl_len,Si.fl_rd,Si.fl_wr,Si.fl_wr2,swpI_eq,hc.run,eq_self,Array.size_setIfInBounds,Si.slot 53 (by decide),Si.plan 53 (by decide),Si.tya,Si.tyb,rnT_a,rnT_b,rnT_o,Si.same 63 (by decide),Si.same 64 (by decide),Si.same 44 (by decide),G53,Za,Zb,Zc,Zd,Ze,Zf,Zg,Zh,Zi,Zj,Zk,Zl,Zm,Zn,Zo,Ja,Jb,Jc,J6,Jd,Je,rd_m,J7,J8,Jf,Jg,Jh,Ji,Jj,Jk,J9,Jl,Jm,wr_m,Jn,JA,JB,Jo,Jp,Jq,Jr,Js,Jt,Ju,Jv,Jw,Jx,Jy,Jz,J0,J1,J2,J3,J4,J5,reduceCtorEq,JC,JD,JE,JF,JG,JH,JI,JJ]) | ((with_reducible (first | apply Ok.br | apply Ok.gd | apply Ok.ld)) <;> (intro g; (try simp only [ZGS] at g); try (exfalso; omega)))))
         have hfu : fixUp lt j0 I d3 = d3 := if_neg hu
         rw [hfu] at hre'
         exact Turn.next s (by omega) ⟨rfl, k + 1, I, d3, by omega, by omega, by omega, by omega, rfl, rfl, rfl, rfl, hs3, by rw [show 5 - (k + 1) = s by omega]; exact hre'.out⟩
      ·have hd' : ¬ 2 <= (I : Int) - (i0 : Int) := by omega
       have hfd : fixDown lt i0 I (swp e I (I - 1)) = swp e I (I - 1) := if_neg hd
       rw [hfd] at hre'
       have hs3' : (swp e I (I - 1)).size = d.size := by rw [swpI_size]; exact hsz
       generalize hd3 : swp e I (I - 1) = d3 at hre' hs3'
       have hs3 := Hid.mk hs3'
       have hd3' := Hid.mk hd3
       clear hd3 hs3'
       by_cases hu : 2 <= j0 - I
       ·have hu' : 2 <= (j0 : Int) - (I : Int) := by omega
        (repeat' (first | (simp -implicitDefEqProofs (maxSteps := 1000000) (disch := first | assumption | omega | exact hgA _ | (simp only [ZDI]; omega)) only [*,lenV,Si.fl_len,Si.fl_rd,Si.fl_wr,Si.fl_wr2,swpI_eq,hc.run,eq_self,Array.size_setIfInBounds,Si.slot 53 (by decide),Si.plan 53 (by decide),Si.tya,Si.tyb,rnT_a,rnT_b,rnT_o,Si.same 63 (by decide),Si.same 64 (by decide),Si.same 44 (by decide),G53,Za,Zb,Zc,Zd,Ze,Zf,Zg,Zh,Zi,Zj,Zk,Zl,Zm,Zn,Zo,Ja,Jb,Jc,J6,Jd,Je,rd_m,J7,J8,Jf,Jg,Jh,Ji,Jj,Jk,J9,Jl,Jm,wr_m,Jn,JA,JB,Jo,Jp,Jq,Jr,Js,Jt,Ju,Jv,Jw,Jx,Jy,Jz,J0,J1,J2,J3,J4,J5,reduceCtorEq,JC,JD,JE,JF,JG,JH,JI,JJ]) | ((with_reducible (first | apply Ok.br | apply Ok.gd | apply Ok.ld)) <;> (intro g; (try simp only [ZGS] at g); try (exfalso; omega)))))
        rw [hd3'.out]
        have hfu : fixUp lt j0 I d3 = shiftUp lt j0 (I + 1) d3 := if_pos hu
        rw [hfu] at hre'
        refine Ok.loop [BF, BF, BF, BF, BF, BF, BF, BF, BF, BF, BF, BF, BT, BF, BF, BF, BF, BF, BF, BF, BF, BF, BF, BF, BF, BF, BF, BF, BF, BF, BF, BF, BF, BF, BF, BF, BF, BF, BF, BF, BF, BF, BF, BF, BF, BF, BF, BF, BF, BF, BF, BF, BF, BF, BF, BF, BF, BF, BF, BF, BF, BF, BF, BF, BF, BF, BF, BF, BF, BF, BF, BF, BF, BF, BF, BF, BF, BF, BF, BF, BF, BF, BF, BF, BF, BF, BF, BF, BF, BF, BF, BF, BF, BF, BF, BF, BF, BF, BF, BF, BF, BF, BF, BF, BF, BF, BF, BT, BT, BT, BT, BT, BT, BT, BT, BT, BT, BT, BT, BT, BT, BT, BT, BT, BT, BT, BT, BT, BT, BT, BT, BT, BT, BT, BT, BT, BT, BT, BT, BT, BT] (fun m s2 => ∃ (j : Nat) (e2 : Array α), m = j0 - j /\ I < j /\ j <= j0 /\ tv s2.e 12 = .v (.int .i64 j) /\ s2.l = [] /\ s2.h = H.set b (.cells g true (Si.fl e2)) /\ e2.size = d.size /\ shiftUp lt j0 j e2 = shiftUp lt j0 (I + 1) d3)
         (fun x s2 => x = .exit 6 /\ s2.l = [] /\ s2.h = H.set b (.cells g true (Si.fl (shiftUp lt j0 (I + 1) d3)))) (j0 - (I + 1)) ⟨I + 1, d3, rfl, Nat.lt_succ_self _, by omega, rfl, rfl, rfl, hs3.out, rfl⟩ ?_ ?_
        ·intro m2 ⟨e3, l3, H3⟩ hW2 ⟨j, e2, hm2, hj, hj2, q9, q2, q3, hsz2, hsc⟩
         dsimp only at hW2 q9 q2 q3
         subst l3 H3
         rw [hW2.spread]
         simp only [spread_t,spread_f,spread_n,Nat.zero_add,Nat.reduceAdd,q9]
         clear hW2
         have hsc' := Hid.mk hsc
         clear hsc
         by_cases hj0 : j < j0
         ·have hj0' : (j : Int) < (j0 : Int) := by omega
          have e1 : (j : Int) - 1 = ((j - 1 : Nat) : Int) := by omega
          have g1 : 0 <= (j : Int) /\ (j : Int) < (n : Int) := by omega
          have g2 : 0 <= ((j - 1 : Nat) : Int) /\ ((j - 1 : Nat) : Int) < (n : Int) := by omega
          have g3 : j < e2.size := by omega
          have g4 : j - 1 < e2.size := by omega
          by_cases hp : hc.c e2[j]! e2[j - 1]! < 0
          ·(repeat' (first | (simp -implicitDefEqProofs (maxSteps := 1000000) (disch := first | assumption | omega | exact hgA _ | (simp only [ZDI]; omega)) only [*,lenV,Si.fl_len,Si.fl_rd,Si.fl_wr,Si.fl_wr2,swpI_eq,hc.run,eq_self,Array.size_setIfInBounds,Si.slot 53 (by decide),Si.plan 53 (by decide),Si.tya,Si.tyb,rnT_a,rnT_b,rnT_o,Si.same 63 (by decide),Si.same 64 (by decide),Si.same 44 (by decide),G53,Za,Zb,Zc,Zd,Ze,Zf,Zg,Zh,Zi,Zj,Zk,Zl,Zm,Zn,Zo,Ja,Jb,Jc,J6,Jd,Je,rd_m,J7,J8,Jf,Jg,Jh,Ji,Jj,Jk,J9,Jl,Jm,wr_m,Jn,JA,JB,Jo,Jp,Jq,Jr,Js,Jt,Ju,Jv,Jw,Jx,Jy,Jz,J0,J1,J2,J3,J4,J5,reduceCtorEq,JC,JD,JE,JF,JG,JH,JI,JJ]) | ((with_reducible (first | apply Ok.br | apply Ok.gd | apply Ok.ld)) <;> (intro g; (try simp only [ZGS] at g); try (exfalso; omega)))))
           refine Turn.next (j0 - (j + 1)) (by omega) ⟨rfl, j + 1, swp e2 j (j - 1), rfl, by omega, by omega, rfl, rfl, rfl, by rw [swpI_size]; exact hsz2, ?_⟩
           rw [<- hsc'.out]
           conv => rhs; rw [shiftUp, if_pos hj0, hng'.out, decide_eq_true hp, if_neg (by simp)]
          ·(repeat' (first | (simp -implicitDefEqProofs (maxSteps := 1000000) (disch := first | assumption | omega | exact hgA _ | (simp only [ZDI]; omega)) only [*,lenV,Si.fl_len,Si.fl_rd,Si.fl_wr,Si.fl_wr2,swpI_eq,hc.run,eq_self,Array.size_setIfInBounds,Si.slot 53 (by decide),Si.plan 53 (by decide),Si.tya,Si.tyb,rnT_a,rnT_b,rnT_o,Si.same 63 (by decide),Si.same 64 (by decide),Si.same 44 (by decide),G53,Za,Zb,Zc,Zd,Ze,Zf,Zg,Zh,Zi,Zj,Zk,Zl,Zm,Zn,Zo,Ja,Jb,Jc,J6,Jd,Je,rd_m,J7,J8,Jf,Jg,Jh,Ji,Jj,Jk,J9,Jl,Jm,wr_m,Jn,JA,JB,Jo,Jp,Jq,Jr,Js,Jt,Ju,Jv,Jw,Jx,Jy,Jz,J0,J1,J2,J3,J4,J5,reduceCtorEq,JC,JD,JE,JF,JG,JH,JI,JJ]) | ((with_reducible (first | apply Ok.br | apply Ok.gd | apply Ok.ld)) <;> (intro g; (try simp only [ZGS] at g); try (exfalso; omega)))))
           exact Turn.exit ⟨rfl, rfl, rfl, by rw [<- hsc'.out, shiftUp, if_pos hj0, hng'.out, decide_eq_false hp, if_pos (by simp)]⟩
         ·have hj0' : ¬ (j : Int) < (j0 : Int) := by omega
          (repeat' (first | (simp -implicitDefEqProofs (maxSteps := 1000000) (disch := first | assumption | omega | exact hgA _ | (simp only [ZDI]; omega)) only [*,lenV,Si.fl_len,Si.fl_rd,Si.fl_wr,Si.fl_wr2,swpI_eq,hc.run,eq_self,Array.size_setIfInBounds,Si.slot 53 (by decide),Si.plan 53 (by decide),Si.tya,Si.tyb,rnT_a,rnT_b,rnT_o,Si.same 63 (by decide),Si.same 64 (by decide),Si.same 44 (by decide),G53,Za,Zb,Zc,Zd,Ze,Zf,Zg,Zh,Zi,Zj,Zk,Zl,Zm,Zn,Zo,Ja,Jb,Jc,J6,Jd,Je,rd_m,J7,J8,Jf,Jg,Jh,Ji,Jj,Jk,J9,Jl,Jm,wr_m,Jn,JA,JB,Jo,Jp,Jq,Jr,Js,Jt,Ju,Jv,Jw,Jx,Jy,Jz,J0,J1,J2,J3,J4,J5,reduceCtorEq,JC,JD,JE,JF,JG,JH,JI,JJ]) | ((with_reducible (first | apply Ok.br | apply Ok.gd | apply Ok.ld)) <;> (intro g; (try simp only [ZGS] at g); try (exfalso; omega)))))
          exact Turn.exit ⟨rfl, rfl, rfl, by rw [<- hsc'.out, shiftUp, if_neg hj0]⟩
        ·intro x ⟨e3, l3, H3⟩ hW2 ⟨hx, q2, q3⟩
         dsimp only at hW2 q2 q3
         subst l3 hx H3
         rw [hW2.spread]
         simp only [spread_t,spread_f,spread_n,Nat.zero_add,Nat.reduceAdd]
         clear hW2
         have hs4 : (shiftUp lt j0 (I + 1) d3).size = d.size := by rw [shiftUp_size lt _ _ _ _ (Nat.le_refl _)]; exact hs3.out
         generalize shiftUp lt j0 (I + 1) d3 = d4 at hs4 hre'
         (repeat' (first | (simp -implicitDefEqProofs (maxSteps := 1000000) (disch := first | assumption | omega | exact hgA _ | (simp only [ZDI]; omega)) only [*,lenV,Si.fl_len,Si.fl_rd,Si.fl_wr,Si.fl_wr2,swpI_eq,hc.run,eq_self,Array.size_setIfInBounds,Si.slot 53 (by decide),Si.plan 53 (by decide),Si.tya,Si.tyb,rnT_a,rnT_b,rnT_o,Si.same 63 (by decide),Si.same 64 (by decide),Si.same 44 (by decide),G53,Za,Zb,Zc,Zd,Ze,Zf,Zg,Zh,Zi,Zj,Zk,Zl,Zm,Zn,Zo,Ja,Jb,Jc,J6,Jd,Je,rd_m,J7,J8,Jf,Jg,Jh,Ji,Jj,Jk,J9,Jl,Jm,wr_m,Jn,JA,JB,Jo,Jp,Jq,Jr,Js,Jt,Ju,Jv,Jw,Jx,Jy,Jz,J0,J1,J2,J3,J4,J5,reduceCtorEq,JC,JD,JE,JF,JG,JH,JI,JJ]) | ((with_reducible (first | apply Ok.br | apply Ok.gd | apply Ok.ld)) <;> (intro g; (try simp only [ZGS] at g); try (exfalso; omega)))))
         exact Turn.next s (by omega) ⟨rfl, k + 1, I, d4, by omega, by omega, by omega, by omega, rfl, rfl, rfl, rfl, hs4, by rw [show 5 - (k + 1) = s by omega]; exact hre'.out⟩
       ·omega
  ·have hk5' : ¬ (k : Int) < 5 := by omega
   (repeat' (first | (simp -implicitDefEqProofs (maxSteps := 1000000) (disch := first | assumption | omega | exact hgA _ | (simp only [ZDI]; omega)) only [*,lenV,Si.slot 53 (by decide),Si.plan 53 (by decide),Si.tya,Si.tyb,rnT_a,rnT_b,rnT_o,Si.same 63 (by decide),Si.same 64 (by decide),Si.same 44 (by decide),G53,Za,Zb,Zc,Zd,Ze,Zf,Zg,Zh,Zi,Zj,Zk,Zl,Zm,Zn,Zo,Ja,Jb,Jc,J6,Jd,Je,rd_m,J7,J8,Jf,Jg,Jh,Ji,Jj,Jk,J9,Jl,Jm,wr_m,Jn,JA,JB,Jo,Jp,Jq,Jr,Js,Jt,Ju,Jv,Jw,Jx,Jy,Jz,J0,J1,J2,J3,J4,J5,reduceCtorEq,JC,JD,JE,JF,JG,JH,JI,JJ]) | ((with_reducible (first | apply Ok.br | apply Ok.gd | apply Ok.ld)) <;> (intro g; (try simp only [ZGS] at g); try (exfalso; omega)))))
   have hr := hre'.out
   rw [show 5 - k = 0 by omega] at hr
   subst hr
   exact Turn.exit ⟨rfl, rfl, rfl, .inl ⟨rfl, rfl⟩⟩
 ·intro x ⟨e', l', H'⟩ hW ⟨k2, k3, hx⟩
  dsimp only at hW k2 k3 hx
  subst l' H'
  rw [hW.spread]
  clear hW
  rcases hx with ⟨rfl, hx⟩ | ⟨rfl, hx⟩
  ·simp only [spread_t,spread_f,spread_n,Nat.zero_add,Nat.reduceAdd]
   (repeat' (first | (simp -implicitDefEqProofs (maxSteps := 1000000) (disch := first | assumption | omega | exact hgA _ | (simp only [ZDI]; omega)) only [*,Si.slot 53 (by decide),Si.plan 53 (by decide),Si.tya,Si.tyb,rnT_a,rnT_b,rnT_o,Si.same 63 (by decide),Si.same 64 (by decide),Si.same 44 (by decide),G53,Za,Zb,Zc,Zd,Ze,Zf,Zg,Zh,Zi,Zj,Zk,Zl,Zm,Zn,Zo,Ja,Jb,Jc,J6,Jd,Je,rd_m,J7,J8,Jf,Jg,Jh,Ji,Jj,Jk,J9,Jl,Jm,wr_m,Jn,JA,JB,Jo,Jp,Jq,Jr,Js,Jt,Ju,Jv,Jw,Jx,Jy,Jz,J0,J1,J2,J3,J4,J5,reduceCtorEq,JC,JD,JE,JF,JG,JH,JI,JJ]) | ((with_reducible (first | apply Ok.br | apply Ok.gd | apply Ok.ld)) <;> (intro g; (try simp only [ZGS] at g); try (exfalso; omega)))))
   exact hQ'.out _ (by rw [hx])
  ·simp only [spread_t,spread_f,spread_n,Nat.zero_add,Nat.reduceAdd,hx]
   (repeat' (first | (simp -implicitDefEqProofs (maxSteps := 1000000) (disch := first | assumption | omega | exact hgA _ | (simp only [ZDI]; omega)) only [*,Si.slot 53 (by decide),Si.plan 53 (by decide),Si.tya,Si.tyb,rnT_a,rnT_b,rnT_o,Si.same 63 (by decide),Si.same 64 (by decide),Si.same 44 (by decide),G53,Za,Zb,Zc,Zd,Ze,Zf,Zg,Zh,Zi,Zj,Zk,Zl,Zm,Zn,Zo,Ja,Jb,Jc,J6,Jd,Je,rd_m,J7,J8,Jf,Jg,Jh,Ji,Jj,Jk,J9,Jl,Jm,wr_m,Jn,JA,JB,Jo,Jp,Jq,Jr,Js,Jt,Ju,Jv,Jw,Jx,Jy,Jz,J0,J1,J2,J3,J4,J5,reduceCtorEq,JC,JD,JE,JF,JG,JH,JI,JJ]) | ((with_reducible (first | apply Ok.br | apply Ok.gd | apply Ok.ld)) <;> (intro g; (try simp only [ZGS] at g); try (exfalso; omega)))))
   exact hQ'.out _ rfl
end Go.Ev
set_option maxRecDepth 100000
namespace Go.Ev
open Go.Ev renaming exPure -> Ja, ofValue -> Jb, cellsV -> Jc, load -> Jd, store -> Je, binOp -> Jf, intOp -> Jg, rdV -> Jh, vsame -> Ji, vsames -> Jj, makeSliceV -> Jk, resV -> Jl, isCell -> Jm, nilCheckV -> Jn, allV -> Jo, builtinV -> Jp, lenV -> Jq, indexAddrV -> Jr, unOp -> Js, minmaxV -> Jt, minmax -> Ju, sliceV -> Jv, asInt -> Jw, appendV -> Jx, forkB -> Jy, roY -> Jz, rwB -> J0, copyV -> J1, clearV -> J2, convV -> J3, sliceCells -> J4, shift -> J5
open Bool renaming true -> BT, false -> BF
open Nat renaming reduceEqDiff -> J6, reduceLT -> J7, reduceAdd -> J8, reduceBEq -> J9, reduceSub -> JA, reduceMul -> JB, reduceLeDiff -> JJ
open Int renaming reduceLT -> JC, reduceLE -> JD, reduceAdd -> JE, reduceSub -> JF, reduceNeg -> JG, reduceToNat -> JH, reduceEq -> JI
open Go.Proofs
def blen (m : Nat) : Nat := if m = 0 then 0 else Nat.log2 m + 1
def lenTab (S : ByteArray) : Bool := decide (S.size = 256) && (List.range 256).all fun i => decide (S.data.toList[i]? = some (UInt8.ofNat (blen i)))
theorem blen_8 : ((List.range 256).all fun m => decide (m < 2 ^ blen m) && (decide (blen m = 0) || decide (2 ^ (blen m - 1) <= m)) && decide (blen m <= 8)) = true := by decide +kernel
theorem tab_ok {S : ByteArray} (hS : lenTab S = true) {m : Int} (h : 0 <= m /\ m < 256) {R : Type} {k : V -> Option R} {Q : R -> Prop}
  (hk : ∀ c : Int, 0 <= c -> c <= 8 -> m < 2 ^ c.toNat -> (c = 0 \/ 2 ^ (c.toNat - 1) <= m) -> Ev.Ok (k (.int .u8 c)) Q) : Ev.Ok (bnd (indexV X.ty 9 (.v (.str S)) (.v (.int .u8 m))) k) Q := by
 simp only [lenTab,Bool.and_eq_true,decide_eq_true_eq,List.all_eq_true,List.mem_range] at hS
 obtain ⟨h1, h2⟩ := hS
 have h3 := h2 m.toNat (by omega)
 have hb := List.all_eq_true.1 blen_8 m.toNat (List.mem_range.2 (by omega))
 simp only [Bool.and_eq_true,decide_eq_true_eq,Bool.or_eq_true] at hb
 obtain ⟨⟨b1, b2⟩, b3⟩ := hb
 have e : indexV X.ty 9 (.v (.str S)) (.v (.int .u8 m)) = some (.int .u8 (blen m.toNat)) := by
  unfold indexV
  rw [ty9]
  simp only [idx]
  rw [grd_t (by rw [h1]; omega)]
  simp only [bnd_s]
  rw [h3]
  simp only [bnd_s]
  congr 2
  rw [UInt8.toNat_ofNat']
  omega
 rw [e]
 refine hk _ (by omega) (by omega) ?_ ?_
 ·rw [Int.toNat_natCast]
  have : (m.toNat : Int) < 2 ^ blen m.toNat := by exact_mod_cast b1
  omega
 ·rw [Int.toNat_natCast]
  rcases b2 with b2 | b2
  ·left; omega
  ·right
   have : (2 : Int) ^ (blen m.toNat - 1) <= m.toNat := by exact_mod_cast b2
   omega
theorem fd32 (a : Int) : a.fdiv (2 ^ min 32 IntKind.u64.bits) = a / 4294967296 := Int.fdiv_eq_ediv_of_nonneg a (by decide)
theorem fd16 (a : Int) : a.fdiv (2 ^ min 16 IntKind.u64.bits) = a / 65536 := Int.fdiv_eq_ediv_of_nonneg a (by decide)
theorem fd8 (a : Int) : a.fdiv (2 ^ min 8 IntKind.u64.bits) = a / 256 := Int.fdiv_eq_ediv_of_nonneg a (by decide)
theorem u8_wrap (x : Int) : IntKind.u8.wrap x = x % 256 := by
 simp only [IntKind.wrap,IntKind.signed,IntKind.bits]
 simp
theorem u8_small {x : Int} (h : 0 <= x /\ x < 256) : IntKind.u8.wrap x = x := by rw [u8_wrap]; omega
def LenOk (n : Int) (L : Int) : Prop := 0 <= L /\ L <= 64 /\ n < 2 ^ L.toNat /\ (L = 0 \/ 2 ^ (L.toNat - 1) <= n)
theorem len_leaf {n : Int} (s : Nat) {q c : Int} (hs : s <= 56) (hq : q = n / 2 ^ s) (h0 : s = 0 \/ 0 < q) (c0 : 0 <= c) (c8 : c <= 8) (b1 : q < 2 ^ c.toNat) (b2 : c = 0 \/ 2 ^ (c.toNat - 1) <= q) : LenOk n ((s : Int) + c) := by
 have hp : (0 : Int) < 2 ^ s := Int.pow_pos (by omega)
 have hd := Int.mul_ediv_add_emod n (2 ^ s)
 have hr0 := Int.emod_nonneg n (by omega : (2 : Int) ^ s ≠ 0)
 have hr1 := Int.emod_lt_of_pos n hp
 rw [<- hq] at hd
 have e1 : ((s : Int) + c).toNat = s + c.toNat := by omega
 refine ⟨by omega, by omega, ?_, ?_⟩
 ·rw [e1, Int.pow_add]
  have h1 : q + 1 <= 2 ^ c.toNat := by omega
  have := Int.mul_le_mul_of_nonneg_left h1 (Int.le_of_lt hp)
  rw [Int.mul_add] at this
  omega
 ·by_cases hz : c = 0
  ·rcases h0 with rfl | h0
   ·left; omega
   ·subst hz
    simp at b1
    omega
  ·right
   have b2' : (2 : Int) ^ (c.toNat - 1) <= q := by rcases b2 with b2 | b2; exact absurd b2 hz; exact b2
   rw [e1, show s + c.toNat - 1 = s + (c.toNat - 1) by omega, Int.pow_add]
   have := Int.mul_le_mul_of_nonneg_left b2' (Int.le_of_lt hp)
   omega
theorem len64_at {n : Int} (h0 : 0 <= n) (h1 : n < 18446744073709551616) (h : Heap) : Ev.Ok (D X (.fn 57 []) [.int .u64 n] h) fun y => ∃ L : Int, y = (.int .i64 L, h) /\ LenOk n L := by
 refine Ok.aim fun Q hQ => ?_
 have hQ' := Hid.mk hQ
 clear hQ
 have hfin : ∀ (s : Nat) (D q c r : Int), D = 2 ^ s -> s <= 56 -> q = n / D -> (s = 0 \/ 0 < q) -> 0 <= c -> c <= 8 -> q < 2 ^ c.toNat -> (c = 0 \/ 2 ^ (c.toNat - 1) <= q) -> r = s + c -> Q (.int .i64 r, h) := by
  intro s D q c r e0 a1 a2 a3 a4 a5 a6 a7 a8
  subst e0 a8
  exact hQ'.out _ ⟨_, rfl, len_leaf s a1 a2 a3 a4 a5 a6 a7⟩
 have hfin' := Hid.mk hfin
 clear hfin
 (refine Ok.body body57 pin57 ?_; simp only [c57,Try.f57,Option.getD_some,nslot57,List.append_nil,List.map,List.replicate,List.length_cons,List.length_nil,Nat.reduceAdd,Nat.reduceSub,List.cons_append,List.nil_append])
 (repeat' (first | (simp -implicitDefEqProofs (maxSteps := 1000000) (disch := first | assumption | omega | (simp only [ZDI]; omega)) only [*,fd32,fd16,fd8,u8_small,G57,Za,Zb,Zc,Zd,Ze,Zf,Zg,Zh,Zi,Zj,Zk,Zl,Zm,Zn,Zo,Ja,Jb,Jc,J6,Jd,Je,rd,J7,J8,Jf,Jg,Jh,Ji,Jj,Jk,J9,Jl,Jm,wr,Jn,JA,JB,Jo,Jp,Jq,Jr,Js,Jt,Ju,Jv,Jw,Jx,Jy,Jz,J0,J1,J2,J3,J4,J5,reduceCtorEq,JC,JD,JE,JF,JG,JH,JI,JJ]) | ((with_reducible (first | apply Ok.br | apply Ok.gd | apply Ok.ld)) <;> (intro g; (try simp only [ZGS] at g); try (exfalso; omega)))))
 all_goals (
  refine tab_ok (by decide +kernel) ⟨by omega, by omega⟩ fun c c0 c8 b1 b2 => ?_
  have hb1 := Hid.mk b1
  have hb2 := Hid.mk b2
  clear b1 b2
  (repeat' (first | (simp -implicitDefEqProofs (maxSteps := 1000000) (disch := first | assumption | omega | (simp only [ZDI]; omega)) only [*,fd32,fd16,fd8,u8_small,G57,Za,Zb,Zc,Zd,Ze,Zf,Zg,Zh,Zi,Zj,Zk,Zl,Zm,Zn,Zo,Ja,Jb,Jc,J6,Jd,Je,rd,J7,J8,Jf,Jg,Jh,Ji,Jj,Jk,J9,Jl,Jm,wr,Jn,JA,JB,Jo,Jp,Jq,Jr,Js,Jt,Ju,Jv,Jw,Jx,Jy,Jz,J0,J1,J2,J3,J4,J5,reduceCtorEq,JC,JD,JE,JF,JG,JH,JI,JJ]) | ((with_reducible (first | apply Ok.br | apply Ok.gd | apply Ok.ld)) <;> (intro g; (try simp only [ZGS] at g); try (exfalso; omega)))))
  first
   | exact hfin'.out 0 1 _ c _ (by decide) (by decide) (by omega) (.inl rfl) c0 c8 hb1.out hb2.out (by omega)
   | exact hfin'.out 8 256 _ c _ (by decide) (by decide) (by omega) (.inr (by omega)) c0 c8 hb1.out hb2.out (by omega)
   | exact hfin'.out 16 65536 _ c _ (by decide) (by decide) (by omega) (.inr (by omega)) c0 c8 hb1.out hb2.out (by omega)
   | exact hfin'.out 24 16777216 _ c _ (by decide) (by decide) (by omega) (.inr (by omega)) c0 c8 hb1.out hb2.out (by omega)
   | exact hfin'.out 32 4294967296 _ c _ (by decide) (by decide) (by omega) (.inr (by omega)) c0 c8 hb1.out hb2.out (by omega)
   | exact hfin'.out 40 1099511627776 _ c _ (by decide) (by decide) (by omega) (.inr (by omega)) c0 c8 hb1.out hb2.out (by omega)
   | exact hfin'.out 48 281474976710656 _ c _ (by decide) (by decide) (by omega) (.inr (by omega)) c0 c8 hb1.out hb2.out (by omega)
   | exact hfin'.out 56 72057594037927936 _ c _ (by decide) (by decide) (by omega) (.inr (by omega)) c0 c8 hb1.out hb2.out (by omega))
end Go.Ev
set_option maxRecDepth 100000
namespace Go.Ev
open Go.Ev renaming exPure -> Ja, ofValue -> Jb, cellsV -> Jc, load -> Jd, store -> Je, binOp -> Jf, intOp -> Jg, rdV -> Jh, vsame -> Ji, vsames -> Jj, makeSliceV -> Jk, resV -> Jl, isCell -> Jm, nilCheckV -> Jn, allV -> Jo, builtinV -> Jp, lenV -> Jq, indexAddrV -> Jr, unOp -> Js, minmaxV -> Jt, minmax -> Ju, sliceV -> Jv, asInt -> Jw, appendV -> Jx, forkB -> Jy, roY -> Jz, rwB -> J0, copyV -> J1, clearV -> J2, convV -> J3, sliceCells -> J4, shift -> J5
open Bool renaming true -> BT, false -> BF
open Nat renaming reduceEqDiff -> J6, reduceLT -> J7, reduceAdd -> J8, reduceBEq -> J9, reduceSub -> JA, reduceMul -> JB, reduceLeDiff -> JJ
open Int renaming reduceLT -> JC, reduceLE -> JD, reduceAdd -> JE, reduceSub -> JF, reduceNeg -> JG, reduceToNat -> JH, reduceEq -> JI
open Go.Proofs Go.Sort
variable {α : Type} [Inhabited α] {Si : SI α} {fv : V} {lt : α -> α -> Bool} {b n0 : Nat}
theorem next_at {G : Heap} {q : Nat} {r : Int} (hq : hcells G q 0 = some (true, [.int .u64 r])) :
  Ev.Ok (D X (.fn 64 []) [.ptr q 0 0] G) fun y => ∃ r2 : Int, y = (.int .u64 r2, G.set q (.cells 0 true [.int .u64 r2])) := by
 refine Ok.aim fun Q hQ => ?_
 have hQ' := Hid.mk hQ
 clear hQ
 have hql := hcells_lt hq
 (refine Ok.body body64 pin64 ?_; simp only [c64,Try.f64,Option.getD_some,nslot64,List.append_nil,List.map,List.replicate,List.length_cons,List.length_nil,Nat.reduceAdd,Nat.reduceSub,List.cons_append,List.nil_append])
 (repeat' (first | (simp -implicitDefEqProofs (maxSteps := 1000000) (disch := first | assumption | omega | (simp only [ZDI]; omega)) only [*,lenV,G64,Za,Zb,Zc,Zd,Ze,Zf,Zg,Zh,Zi,Zj,Zk,Zl,Zm,Zn,Zo,Ja,Jb,Jc,J6,Jd,Je,rd,J7,J8,Jf,Jg,Jh,Ji,Jj,Jk,J9,Jl,Jm,wr,Jn,JA,JB,Jo,Jp,Jq,Jr,Js,Jt,Ju,Jv,Jw,Jx,Jy,Jz,J0,J1,J2,J3,J4,J5,reduceCtorEq,JC,JD,JE,JF,JG,JH,JI,JJ]) | ((with_reducible (first | apply Ok.br | apply Ok.gd | apply Ok.ld)) <;> (intro g; (try simp only [ZGS] at g); try (exfalso; omega)))))
 exact hQ'.out _ ⟨_, rfl⟩
theorem len_at {n : Nat} (h1 : n <= 1000000000) (h : Heap) : Ev.Ok (D X (.fn 44 []) [.int .u64 n] h) fun y => ∃ L : Int, y = (.int .i64 L, h) /\ LenOk n L := by
 refine Ok.aim fun Q hQ => ?_
 have hQ' := Hid.mk hQ
 clear hQ
 (refine Ok.body body44 pin44 ?_; simp only [c44,Try.f44,Option.getD_some,nslot44,List.append_nil,List.map,List.replicate,List.length_cons,List.length_nil,Nat.reduceAdd,Nat.reduceSub,List.cons_append,List.nil_append])
 (repeat' (first | (simp -implicitDefEqProofs (maxSteps := 1000000) (disch := first | assumption | omega | (simp only [ZDI]; omega)) only [*,lenV,G44,Za,Zb,Zc,Zd,Ze,Zf,Zg,Zh,Zi,Zj,Zk,Zl,Zm,Zn,Zo,Ja,Jb,Jc,J6,Jd,Je,rd,J7,J8,Jf,Jg,Jh,Ji,Jj,Jk,J9,Jl,Jm,wr,Jn,JA,JB,Jo,Jp,Jq,Jr,Js,Jt,Ju,Jv,Jw,Jx,Jy,Jz,J0,J1,J2,J3,J4,J5,reduceCtorEq,JC,JD,JE,JF,JG,JH,JI,JJ]) | ((with_reducible (first | apply Ok.br | apply Ok.gd | apply Ok.ld)) <;> (intro g; (try simp only [ZGS] at g); try (exfalso; omega)))))
 refine Ok.bnd2 (len64_at (by omega) (by omega) h) fun y h2 ⟨L, hy, hL⟩ => ?_
 cases hy
 (repeat' (first | (simp -implicitDefEqProofs (maxSteps := 1000000) (disch := first | assumption | omega | (simp only [ZDI]; omega)) only [*,lenV,G44,Za,Zb,Zc,Zd,Ze,Zf,Zg,Zh,Zi,Zj,Zk,Zl,Zm,Zn,Zo,Ja,Jb,Jc,J6,Jd,Je,rd,J7,J8,Jf,Jg,Jh,Ji,Jj,Jk,J9,Jl,Jm,wr,Jn,JA,JB,Jo,Jp,Jq,Jr,Js,Jt,Ju,Jv,Jw,Jx,Jy,Jz,J0,J1,J2,J3,J4,J5,reduceCtorEq,JC,JD,JE,JF,JG,JH,JI,JJ]) | ((with_reducible (first | apply Ok.br | apply Ok.gd | apply Ok.ld)) <;> (intro g; (try simp only [ZGS] at g); try (exfalso; omega)))))
 exact hQ'.out _ ⟨L, rfl, hL⟩
theorem pow_of_len {n : Nat} {L : Int} (h0 : 0 < n) (h1 : n <= 1000000000) (h : LenOk n L) : ∃ M : Nat, n < M /\ M <= 2 * n /\ IntKind.u64.wrap (1 * 2 ^ min L.toNat IntKind.u64.bits) = (M : Int) /\ 0 <= L := by
 obtain ⟨a1, a2, a3, a4⟩ := h
 obtain ⟨l, rfl⟩ : ∃ l : Nat, L = l := ⟨L.toNat, by omega⟩
 simp only [Int.toNat_natCast] at a3 a4 ⊢
 have a3' : n < 2 ^ l := by exact_mod_cast a3
 have hl0 : l ≠ 0 := by rintro rfl; simp at a3'; omega
 have a4' : 2 ^ (l - 1) <= n := by
  rcases a4 with a4 | a4
  ·omega
  ·exact_mod_cast a4
 have hl : l <= 31 := by
  apply Decidable.byContradiction
  intro hc
  have := Nat.pow_le_pow_right (n := 2) (by omega) (show 31 <= l - 1 by omega)
  omega
 have e2 : 2 ^ l = 2 * 2 ^ (l - 1) := by
  conv => lhs; rw [show l = (l - 1) + 1 by omega, Nat.pow_succ]
  omega
 refine ⟨2 ^ l, a3', by omega, ?_, by omega⟩
 have e3 : min l IntKind.u64.bits = l := by show min l 64 = l; omega
 rw [e3, Int.one_mul]
 have e4 : (2 : Int) ^ l = ((2 ^ l : Nat) : Int) := by simp
 rw [e4]
 generalize hM : 2 ^ l = M at *
 simp only [IntKind.wrap,IntKind.signed,IntKind.bits]
 simp
 omega
theorem u64_nat {n : Nat} (h : n < 18446744073709551616) : IntKind.u64.wrap (n : Int) = n := by
 simp only [IntKind.wrap,IntKind.signed,IntKind.bits]
 simp
 omega
theorem i64_nat {n : Nat} (h : n < 9223372036854775808) : IntKind.i64.wrap (n : Int) = n := by
 simp only [IntKind.wrap,IntKind.signed,IntKind.bits]
 simp
 omega
theorem nextPow_at {n : Nat} (h0 : 0 < n) (h1 : n <= 1000000000) (h : Heap) : Ev.Ok (D X (.fn 63 []) [.int .i64 n] h) fun y => ∃ M : Nat, y = (.int .u64 M, h) /\ n < M /\ M <= 2 * n := by
 refine Ok.aim fun Q hQ => ?_
 have hQ' := Hid.mk hQ
 clear hQ
 have hw : IntKind.u64.wrap (n : Int) = n := u64_nat (by omega)
 (refine Ok.body body63 pin63 ?_; simp only [c63,Try.f63,Option.getD_some,nslot63,List.append_nil,List.map,List.replicate,List.length_cons,List.length_nil,Nat.reduceAdd,Nat.reduceSub,List.cons_append,List.nil_append])
 (repeat' (first | (simp -implicitDefEqProofs (maxSteps := 1000000) (disch := first | assumption | omega | (simp only [ZDI]; omega)) only [*,lenV,G63,Za,Zb,Zc,Zd,Ze,Zf,Zg,Zh,Zi,Zj,Zk,Zl,Zm,Zn,Zo,Ja,Jb,Jc,J6,Jd,Je,rd,J7,J8,Jf,Jg,Jh,Ji,Jj,Jk,J9,Jl,Jm,wr,Jn,JA,JB,Jo,Jp,Jq,Jr,Js,Jt,Ju,Jv,Jw,Jx,Jy,Jz,J0,J1,J2,J3,J4,J5,reduceCtorEq,JC,JD,JE,JF,JG,JH,JI,JJ]) | ((with_reducible (first | apply Ok.br | apply Ok.gd | apply Ok.ld)) <;> (intro g; (try simp only [ZGS] at g); try (exfalso; omega)))))
 refine Ok.bnd2 (len_at h1 h) fun y h2 ⟨L, hy, hL⟩ => ?_
 cases hy
 obtain ⟨M, hM1, hM2, hM3, hM4⟩ := pow_of_len h0 h1 hL
 (repeat' (first | (simp -implicitDefEqProofs (maxSteps := 1000000) (disch := first | assumption | omega | (simp only [ZDI]; omega)) only [*,lenV,hM3,G63,Za,Zb,Zc,Zd,Ze,Zf,Zg,Zh,Zi,Zj,Zk,Zl,Zm,Zn,Zo,Ja,Jb,Jc,J6,Jd,Je,rd,J7,J8,Jf,Jg,Jh,Ji,Jj,Jk,J9,Jl,Jm,wr,Jn,JA,JB,Jo,Jp,Jq,Jr,Js,Jt,Ju,Jv,Jw,Jx,Jy,Jz,J0,J1,J2,J3,J4,J5,reduceCtorEq,JC,JD,JE,JF,JG,JH,JI,JJ]) | ((with_reducible (first | apply Ok.br | apply Ok.gd | apply Ok.ld)) <;> (intro g; (try simp only [ZGS] at g); try (exfalso; omega)))))
 exact hQ'.out _ ⟨M, rfl, hM1, hM2⟩
theorem and_lt {r : Int} {M : Nat} (h0 : 0 < M) (h1 : M <= 2000000000) : ∃ x : Nat, x < M /\ IntKind.u64.wrap (BitVec.ofInt IntKind.u64.bits r &&& BitVec.ofInt IntKind.u64.bits ((M : Int) - 1)).toNat = (x : Int) := by
 refine ⟨(BitVec.ofInt IntKind.u64.bits r &&& BitVec.ofInt IntKind.u64.bits ((M : Int) - 1)).toNat, ?_, ?_⟩
 ·rw [BitVec.toNat_and]
  have : (BitVec.ofInt IntKind.u64.bits ((M : Int) - 1)).toNat = M - 1 := by
   rw [BitVec.toNat_ofInt]
   show (((M : Int) - 1) % ((2 ^ 64 : Nat) : Int)).toNat = M - 1
   omega
  rw [this]
  exact Nat.lt_of_le_of_lt Nat.and_le_right (by omega)
 ·have := (BitVec.ofInt IntKind.u64.bits r &&& BitVec.ofInt IntKind.u64.bits ((M : Int) - 1)).isLt
  generalize (BitVec.ofInt IntKind.u64.bits r &&& BitVec.ofInt IntKind.u64.bits ((M : Int) - 1)).toNat = x at *
  simp only [IntKind.wrap,IntKind.signed,IntKind.bits] at *
  simp
  omega
set_option maxHeartbeats 2000000 in
theorem break_at {H : Heap} {g n cap z : Nat} {d : Array α} (hb : b < H.length) (hn : n <= d.size) (hl : d.size <= 1000000000) {i0 j0 : Nat} (h1 : i0 + 8 <= j0) (h2 : j0 <= n) :
  Ev.Ok (D X (.fn (Si.f 50) []) [.sl (.at b g 0) n cap z, .int .i64 i0, .int .i64 j0, fv] (Si.hs H b g d)) fun y => ∃ (r : Int) (d2 : Array α), y = (.tup [], Si.hs (H ++ [Blk.cells 0 true [.int .u64 r]]) b g d2) /\ PermIn i0 j0 d d2 := by
 refine Ok.aim fun Q hQ => ?_
 have hQ' := Hid.mk hQ
 clear hQ
 unfold SI.hs at hQ' ⊢
 have hset : ∀ (r : Int) (e : Array α), (H ++ [Blk.cells 0 true [.int .u64 r]]).set b (.cells g true (Si.fl e)) = H.set b (.cells g true (Si.fl e)) ++ [Blk.cells 0 true [.int .u64 r]] := fun r e => heap_set_lt hb
 simp only [hset] at hQ'
 clear hset
 have hm2 : ∀ (e : Array α) (r : Int), hcells (H.set b (.cells g true (Si.fl e)) ++ [Blk.cells 0 true [.int .u64 r]]) H.length 0 = some (true, [.int .u64 r]) := fun e r => by rw [hcells_ge (by simp)]; simp only [List.length_set,Nat.sub_self]; exact grd_t rfl _
 have hst : ∀ (e : Array α) (r u : Int), (H.set b (.cells g true (Si.fl e)) ++ [Blk.cells 0 true [.int .u64 r]]).set H.length (.cells 0 true [.int .u64 u]) = H.set b (.cells g true (Si.fl e)) ++ [Blk.cells 0 true [.int .u64 u]] := fun e r u => by
  rw [heap_set_ge (by simp)]; simp only [List.length_set,Nat.sub_self,List.set_cons_zero]
 have hm2' := Hid.mk hm2
 have hst' := Hid.mk hst
 clear hm2 hst
 obtain ⟨l, hll⟩ : ∃ l, j0 - i0 = l := ⟨_, rfl⟩
 have e1 : (j0 : Int) - (i0 : Int) = (l : Int) := by omega
 have e2 : (l : Int).tdiv 4 = ((l / 4 : Nat) : Int) := by rw [Int.tdiv_eq_ediv_of_nonneg (by omega)]; omega
 obtain ⟨p, hp⟩ : ∃ i, i0 + l / 4 * 2 = i := ⟨_, rfl⟩
 have e3 : (i0 : Int) + ((l / 4 : Nat) : Int) * 2 = (p : Int) := by omega
 have e4 : (p : Int) - 1 = ((p - 1 : Nat) : Int) := by omega
 have hpb : i0 + 1 <= p /\ p + 1 < j0 := by omega
 have e6 : (0 : Nat) <= l / 4 := by omega
 have hl8 : 8 <= (l : Int) := by omega
 have hw : IntKind.u64.wrap (l : Int) = l := u64_nat (by omega)
 have hl1 : l <= 1000000000 /\ 0 < l := by omega
 have hij : i0 + l = j0 := by omega
 clear hp hll h1
 (refine Ok.body ((Si.body 50 (by decide)).trans (congrArg _ body50)) (Si.pin 50 (by decide)) ?_; simp only [c50,Try.f50,Option.getD_some,rnC,rnP_eq,rnO_load,rnO_store,rnO_indexAddr,rnO_call,rnO_builtin,rnO_move,rnO_assign,rnO_pick,rnO_alloc,rnO_nilCheck,rnO_binOp,rnO_unOp,rnO_convert,rnO_extract,rnG_func,rnG_tmp,List.toList_toArray,List.map_cons,List.map_nil,List.map_toArray,Si.nsl 50 (by decide),nslot50,List.append_nil,List.map,List.replicate,List.length_cons,List.length_nil,Nat.reduceAdd,Nat.reduceSub,List.cons_append,List.nil_append])
 (repeat' (first | (simp -implicitDefEqProofs (maxSteps := 1000000) (disch := first | assumption | omega | exact hgA _ | (simp only [ZDI]; omega)) only [*,lenV,Si.slot 50 (by decide),Si.plan 50 (by decide),Si.tya,Si.tyb,rnT_a,rnT_b,rnT_o,Si.same 63 (by decide),Si.same 64 (by decide),Si.same 44 (by decide),G50,Za,Zb,Zc,Zd,Ze,Zf,Zg,Zh,Zi,Zj,Zk,Zl,Zm,Zn,Zo,Ja,Jb,Jc,J6,Jd,Je,rd_m,J7,J8,Jf,Jg,Jh,Ji,Jj,Jk,J9,Jl,Jm,wr_m,Jn,JA,JB,Jo,Jp,Jq,Jr,Js,Jt,Ju,Jv,Jw,Jx,Jy,Jz,J0,J1,J2,J3,J4,J5,reduceCtorEq,JC,JD,JE,JF,JG,JH,JI,JJ]) | ((with_reducible (first | apply Ok.br | apply Ok.gd | apply Ok.ld)) <;> (intro g; (try simp only [ZGS] at g); try (exfalso; omega)))))
 refine Ok.bnd2 (nextPow_at hl1.2 hl1.1 _) fun y h3 ⟨M, hy, hM1, hM2⟩ => ?_
 cases hy
 have hM3 : (1 : Int) <= M /\ M <= (2000000000 : Int) := by omega
 have hM4 : IntKind.u64.wrap ((M : Int) - 1) = (M : Int) - 1 := by
  have := u64_nat (n := M - 1) (by omega)
  rwa [show ((M - 1 : Nat) : Int) = (M : Int) - 1 by omega] at this
 (repeat' (first | (simp -implicitDefEqProofs (maxSteps := 1000000) (disch := first | assumption | omega | exact hgA _ | (simp only [ZDI]; omega)) only [*,lenV,Si.slot 50 (by decide),Si.plan 50 (by decide),Si.tya,Si.tyb,rnT_a,rnT_b,rnT_o,Si.same 63 (by decide),Si.same 64 (by decide),Si.same 44 (by decide),G50,Za,Zb,Zc,Zd,Ze,Zf,Zg,Zh,Zi,Zj,Zk,Zl,Zm,Zn,Zo,Ja,Jb,Jc,J6,Jd,Je,rd_m,J7,J8,Jf,Jg,Jh,Ji,Jj,Jk,J9,Jl,Jm,wr_m,Jn,JA,JB,Jo,Jp,Jq,Jr,Js,Jt,Ju,Jv,Jw,Jx,Jy,Jz,J0,J1,J2,J3,J4,J5,reduceCtorEq,JC,JD,JE,JF,JG,JH,JI,JJ]) | ((with_reducible (first | apply Ok.br | apply Ok.gd | apply Ok.ld)) <;> (intro g; (try simp only [ZGS] at g); try (exfalso; omega)))))
 refine Ok.loop [BF, BF, BF, BF, BF, BF, BF, BF, BF, BF, BF, BT, BT, BF, BF, BF, BF, BF, BF, BF, BF, BF, BF, BF, BF, BF, BF, BF, BT, BT, BT, BT, BT, BT, BT, BT, BT, BT, BT, BT, BT, BT, BT, BT, BT, BT, BT, BT, BT, BT, BT, BT, BT, BT, BT, BT, BT, BT, BT, BT, BT, BT, BT, BT, BT, BT, BT] (fun m s2 => ∃ (k : Nat) (e : Array α) (r : Int), m = p + 2 - k /\ p <= k + 1 /\ tv s2.e 11 = .v (.int .i64 k) /\ s2.l = [] /\ s2.h = H.set b (.cells g true (Si.fl e)) ++ [Blk.cells 0 true [.int .u64 r]] /\ PermIn i0 j0 d e)
  (fun x s2 => x = .exit 0 /\ s2.l = [] /\ ∃ (e : Array α) (r : Int), s2.h = H.set b (.cells g true (Si.fl e)) ++ [Blk.cells 0 true [.int .u64 r]] /\ PermIn i0 j0 d e) (p + 2 - (p - 1)) ⟨p - 1, d, l, rfl, by omega, rfl, rfl, rfl, permIn_refl _ _ _⟩ ?_ ?_
 ·intro m ⟨e', l', H'⟩ hW ⟨k, e, r, hm, hk, h11, k2, k3, hpm⟩
  dsimp only at hW h11 k2 k3
  subst l' H'
  rw [hW.spread]
  simp only [spread_t,spread_f,spread_n,Nat.zero_add,Nat.reduceAdd,h11]
  clear hW hQ'
  have hsz : e.size = d.size := hpm.1
  have hpm' := Hid.mk hpm
  clear hpm
  by_cases hle : k <= p + 1
  ·have hle' : (k : Int) <= (p : Int) + 1 := by omega
   (repeat' (first | (simp -implicitDefEqProofs (maxSteps := 1000000) (disch := first | assumption | omega | exact hgA _ | (simp only [ZDI]; omega)) only [*,lenV,Si.slot 50 (by decide),Si.plan 50 (by decide),Si.tya,Si.tyb,rnT_a,rnT_b,rnT_o,Si.same 63 (by decide),Si.same 64 (by decide),Si.same 44 (by decide),G50,Za,Zb,Zc,Zd,Ze,Zf,Zg,Zh,Zi,Zj,Zk,Zl,Zm,Zn,Zo,Ja,Jb,Jc,J6,Jd,Je,rd_m,J7,J8,Jf,Jg,Jh,Ji,Jj,Jk,J9,Jl,Jm,wr_m,Jn,JA,JB,Jo,Jp,Jq,Jr,Js,Jt,Ju,Jv,Jw,Jx,Jy,Jz,J0,J1,J2,J3,J4,J5,reduceCtorEq,JC,JD,JE,JF,JG,JH,JI,JJ]) | ((with_reducible (first | apply Ok.br | apply Ok.gd | apply Ok.ld)) <;> (intro g; (try simp only [ZGS] at g); try (exfalso; omega)))))
   refine Ok.bnd2 (next_at (hm2'.out e r)) fun y h3 ⟨r2, hy⟩ => ?_
   cases hy
   rw [hst'.out]
   obtain ⟨x, hx1, hx2⟩ := and_lt (r := r2) (M := M) (by omega) (by omega)
   have hx3 : IntKind.i64.wrap (x : Int) = x := i64_nat (by omega)
   have g1 : 0 <= (k : Int) /\ (k : Int) < (n : Int) := by omega
   have g2 : k < e.size := by omega
   by_cases hxl : l <= x
   ·have hxl' : (l : Int) <= (x : Int) := by omega
    obtain ⟨y, hy⟩ : ∃ y, x - l = y := ⟨_, rfl⟩
    have e7 : (x : Int) - (l : Int) = (y : Int) := by omega
    obtain ⟨w, hw⟩ : ∃ w, i0 + y = w := ⟨_, rfl⟩
    have e8 : (i0 : Int) + (y : Int) = (w : Int) := by omega
    have g3 : 0 <= (w : Int) /\ (w : Int) < (n : Int) := by omega
    have g4 : w < e.size := by omega
    have g5 : i0 <= w /\ w < j0 := by omega
    clear hw hy
    (repeat' (first | (simp -implicitDefEqProofs (maxSteps := 1000000) (disch := first | assumption | omega | exact hgA _ | (simp only [ZDI]; omega)) only [*,lenV,Si.fl_len,Si.fl_rd,Si.fl_wr,Si.fl_wr2,swpI_eq,eq_self,Array.size_setIfInBounds,hx2,Si.slot 50 (by decide),Si.plan 50 (by decide),Si.tya,Si.tyb,rnT_a,rnT_b,rnT_o,Si.same 63 (by decide),Si.same 64 (by decide),Si.same 44 (by decide),G50,Za,Zb,Zc,Zd,Ze,Zf,Zg,Zh,Zi,Zj,Zk,Zl,Zm,Zn,Zo,Ja,Jb,Jc,J6,Jd,Je,rd_m,J7,J8,Jf,Jg,Jh,Ji,Jj,Jk,J9,Jl,Jm,wr_m,Jn,JA,JB,Jo,Jp,Jq,Jr,Js,Jt,Ju,Jv,Jw,Jx,Jy,Jz,J0,J1,J2,J3,J4,J5,reduceCtorEq,JC,JD,JE,JF,JG,JH,JI,JJ]) | ((with_reducible (first | apply Ok.br | apply Ok.gd | apply Ok.ld)) <;> (intro g; (try simp only [ZGS] at g); try (exfalso; omega)))))
    exact Turn.next (p + 2 - (k + 1)) (by omega) ⟨rfl, k + 1, swp e k w, r2, rfl, by omega, rfl, rfl, rfl, permIn_trans _ _ _ _ _ hpm'.out (swp_permIn _ _ _ _ _ (by omega) (by omega) g5.1 g5.2 (by omega))⟩
   ·have hxl' : ¬ (l : Int) <= (x : Int) := by omega
    obtain ⟨w, hw⟩ : ∃ w, i0 + x = w := ⟨_, rfl⟩
    have e8 : (i0 : Int) + (x : Int) = (w : Int) := by omega
    have g3 : 0 <= (w : Int) /\ (w : Int) < (n : Int) := by omega
    have g4 : w < e.size := by omega
    have g5 : i0 <= w /\ w < j0 := by omega
    clear hw
    (repeat' (first | (simp -implicitDefEqProofs (maxSteps := 1000000) (disch := first | assumption | omega | exact hgA _ | (simp only [ZDI]; omega)) only [*,lenV,Si.fl_len,Si.fl_rd,Si.fl_wr,Si.fl_wr2,swpI_eq,eq_self,Array.size_setIfInBounds,hx2,Si.slot 50 (by decide),Si.plan 50 (by decide),Si.tya,Si.tyb,rnT_a,rnT_b,rnT_o,Si.same 63 (by decide),Si.same 64 (by decide),Si.same 44 (by decide),G50,Za,Zb,Zc,Zd,Ze,Zf,Zg,Zh,Zi,Zj,Zk,Zl,Zm,Zn,Zo,Ja,Jb,Jc,J6,Jd,Je,rd_m,J7,J8,Jf,Jg,Jh,Ji,Jj,Jk,J9,Jl,Jm,wr_m,Jn,JA,JB,Jo,Jp,Jq,Jr,Js,Jt,Ju,Jv,Jw,Jx,Jy,Jz,J0,J1,J2,J3,J4,J5,reduceCtorEq,JC,JD,JE,JF,JG,JH,JI,JJ]) | ((with_reducible (first | apply Ok.br | apply Ok.gd | apply Ok.ld)) <;> (intro g; (try simp only [ZGS] at g); try (exfalso; omega)))))
    exact Turn.next (p + 2 - (k + 1)) (by omega) ⟨rfl, k + 1, swp e k w, r2, rfl, by omega, rfl, rfl, rfl, permIn_trans _ _ _ _ _ hpm'.out (swp_permIn _ _ _ _ _ (by omega) (by omega) g5.1 g5.2 (by omega))⟩
  ·have hle' : ¬ (k : Int) <= (p : Int) + 1 := by omega
   (repeat' (first | (simp -implicitDefEqProofs (maxSteps := 1000000) (disch := first | assumption | omega | exact hgA _ | (simp only [ZDI]; omega)) only [*,lenV,Si.slot 50 (by decide),Si.plan 50 (by decide),Si.tya,Si.tyb,rnT_a,rnT_b,rnT_o,Si.same 63 (by decide),Si.same 64 (by decide),Si.same 44 (by decide),G50,Za,Zb,Zc,Zd,Ze,Zf,Zg,Zh,Zi,Zj,Zk,Zl,Zm,Zn,Zo,Ja,Jb,Jc,J6,Jd,Je,rd_m,J7,J8,Jf,Jg,Jh,Ji,Jj,Jk,J9,Jl,Jm,wr_m,Jn,JA,JB,Jo,Jp,Jq,Jr,Js,Jt,Ju,Jv,Jw,Jx,Jy,Jz,J0,J1,J2,J3,J4,J5,reduceCtorEq,JC,JD,JE,JF,JG,JH,JI,JJ]) | ((with_reducible (first | apply Ok.br | apply Ok.gd | apply Ok.ld)) <;> (intro g; (try simp only [ZGS] at g); try (exfalso; omega)))))
   exact Turn.exit ⟨rfl, rfl, rfl, e, r, rfl, hpm'.out⟩
 ·intro x ⟨e', l', H'⟩ hW ⟨hx, k2, e, r, k3, hpm⟩
  dsimp only at hW k2 k3
  subst l' hx H'
  rw [hW.spread]
  clear hW
  simp only [spread_t,spread_f,spread_n,Nat.zero_add,Nat.reduceAdd]
  (repeat' (first | (simp -implicitDefEqProofs (maxSteps := 1000000) (disch := first | assumption | omega | exact hgA _ | (simp only [ZDI]; omega)) only [*,Si.slot 50 (by decide),Si.plan 50 (by decide),Si.tya,Si.tyb,rnT_a,rnT_b,rnT_o,Si.same 63 (by decide),Si.same 64 (by decide),Si.same 44 (by decide),G50,Za,Zb,Zc,Zd,Ze,Zf,Zg,Zh,Zi,Zj,Zk,Zl,Zm,Zn,Zo,Ja,Jb,Jc,J6,Jd,Je,rd_m,J7,J8,Jf,Jg,Jh,Ji,Jj,Jk,J9,Jl,Jm,wr_m,Jn,JA,JB,Jo,Jp,Jq,Jr,Js,Jt,Ju,Jv,Jw,Jx,Jy,Jz,J0,J1,J2,J3,J4,J5,reduceCtorEq,JC,JD,JE,JF,JG,JH,JI,JJ]) | ((with_reducible (first | apply Ok.br | apply Ok.gd | apply Ok.ld)) <;> (intro g; (try simp only [ZGS] at g); try (exfalso; omega)))))
  exact hQ'.out _ ⟨r, e, rfl, hpm⟩
end Go.Ev
set_option maxRecDepth 100000
namespace Go.Ev
open Go.Proofs Go.Sort
variable {α : Type} [Inhabited α] {Si : SI α} {fv : V} {lt : α -> α -> Bool} {b n0 : Nat}
def At (Si : SI α) (H : Heap) (b g : Nat) (e : Array α) (G : Heap) : Prop := ∃ l, G = Si.hs (H ++ l) b g e
variable {H G : Heap} {g n cap z : Nat} {d e : Array α} {i0 j0 pv : Nat}
theorem At.cells (hb : b < H.length) (hG : At Si H b g e G) : hcells G b g = some (true, Si.fl e) := by
 obtain ⟨l, rfl⟩ := hG
 unfold SI.hs
 exact hcells_set_eq (by simp; omega)
theorem At.good (hc : Cmp Si fv lt b n0) (hg : hc.good H) (hG : At Si H b g e G) : hc.good G := by
 obtain ⟨l, rfl⟩ := hG
 exact hc.gset _ _ _ (hc.gapp _ l hg) (.inl rfl)
theorem ins_R (hc : Cmp Si fv lt b n0) (hS : SWO lt) (hb : b < H.length) (hg : hc.good H) (hG : At Si H b g e G) (hn : n <= e.size) (hl : e.size <= 1000000000) (h1 : i0 <= j0) (h2 : j0 <= n) :
  Ev.Ok (D X (.fn (Si.f 48) []) [.sl (.at b g 0) n cap z, .int .i64 i0, .int .i64 j0, fv] G) fun y => ∃ G2 e2, y = (.tup [], G2) /\ At Si H b g e2 G2 /\ PermIn i0 j0 e e2 /\ SortedIn lt i0 j0 e2 := by
 obtain ⟨l, rfl⟩ := hG
 have hb' : b < (H ++ l).length := by simp; omega
 have hg' := hc.gapp _ l hg
 rw [insertion_at hc hb' hg' hn hl h1 h2]
 have := insertionSort_holds (lt := lt) hS e i0 j0 h1 (by omega)
 exact Ok.ret ⟨_, _, rfl, ⟨l, rfl⟩, this.1, this.2⟩
theorem heap_R (hc : Cmp Si fv lt b n0) (hS : SWO lt) (hb : b < H.length) (hg : hc.good H) (hG : At Si H b g e G) (hn : n <= e.size) (hl : e.size <= 1000000000) (h1 : i0 < j0) (h2 : j0 <= n) :
  Ev.Ok (D X (.fn (Si.f 49) []) [.sl (.at b g 0) n cap z, .int .i64 i0, .int .i64 j0, fv] G) fun y => ∃ G2 e2, y = (.tup [], G2) /\ At Si H b g e2 G2 /\ PermIn i0 j0 e e2 /\ SortedIn lt i0 j0 e2 := by
 obtain ⟨l, rfl⟩ := hG
 have hb' : b < (H ++ l).length := by simp; omega
 have hg' := hc.gapp _ l hg
 rw [heap_at hc hb' hg' hn hl h1 h2]
 have := heapSort_holds (lt := lt) hS e i0 j0 (by omega) (by omega)
 exact Ok.ret ⟨_, _, rfl, ⟨l, rfl⟩, this.1, this.2⟩
theorem break_R (hb : b < H.length) (hG : At Si H b g e G) (hn : n <= e.size) (hl : e.size <= 1000000000) (h1 : i0 + 8 <= j0) (h2 : j0 <= n) :
  Ev.Ok (D X (.fn (Si.f 50) []) [.sl (.at b g 0) n cap z, .int .i64 i0, .int .i64 j0, fv] G) fun y => ∃ G2 e2, y = (.tup [], G2) /\ At Si H b g e2 G2 /\ PermIn i0 j0 e e2 := by
 obtain ⟨l, rfl⟩ := hG
 have hb' : b < (H ++ l).length := by simp; omega
 refine (break_at hb' hn hl h1 h2).mono fun y ⟨r, d2, hy, hp⟩ => ?_
 exact ⟨_, d2, hy, ⟨l ++ [Blk.cells 0 true [.int .u64 r]], by rw [List.append_assoc]⟩, hp⟩
theorem pivot_R (hc : Cmp Si fv lt b n0) (hb : b < H.length) (hg : hc.good H) (hG : At Si H b g e G) (hn : n <= e.size) (hl : e.size <= 1000000000) (h1 : i0 < j0) (h2 : j0 <= n) :
  Ev.Ok (D X (.fn (Si.f 51) []) [.sl (.at b g 0) n cap z, .int .i64 i0, .int .i64 j0, fv] G) fun y => ∃ G2 c h, y = (.tup [.int .i64 ((c : Nat) : Int), .int .i64 h], G2) /\ At Si H b g e G2 /\ (i0 <= c /\ c < j0) /\ (h = 0 \/ h = 1 \/ h = 2) := by
 obtain ⟨l, rfl⟩ := hG
 have hb' : b < (H ++ l).length := by simp; omega
 have hg' := hc.gapp _ l hg
 refine (pivot_at hc hb' hg' hn hl h1 h2).mono fun y ⟨t, hy⟩ => ?_
 refine ⟨_, _, _, hy, ⟨l ++ [Blk.cells 0 true [.int .i64 t]], by rw [List.append_assoc]⟩, choosePivot_holds lt e i0 j0 h1, ?_⟩
 cases (choosePivot lt e i0 j0).2 with
 | unknown => exact .inl rfl
 | increasing => exact .inr (.inl rfl)
 | decreasing => exact .inr (.inr rfl)
theorem reverse_R (hb : b < H.length) (hG : At Si H b g e G) (hn : n <= e.size) (hl : e.size <= 1000000000) (h1 : i0 < j0) (h2 : j0 <= n) :
  Ev.Ok (D X (.fn (Si.f 52) []) [.sl (.at b g 0) n cap z, .int .i64 i0, .int .i64 j0, fv] G) fun y => ∃ G2 e2, y = (.tup [], G2) /\ At Si H b g e2 G2 /\ PermIn i0 j0 e e2 := by
 obtain ⟨l, rfl⟩ := hG
 have hb' : b < (H ++ l).length := by simp; omega
 rw [reverse_at hb' hn hl h1 h2]
 exact Ok.ret ⟨_, _, rfl, ⟨l, rfl⟩, reverseRange_holds e i0 j0 (by omega) (by omega)⟩
theorem partIns_R (hc : Cmp Si fv lt b n0) (hS : SWO lt) (hb : b < H.length) (hg : hc.good H) (hG : At Si H b g e G) (hn : n <= e.size) (hl : e.size <= 1000000000) (h1 : i0 < j0) (h2 : j0 <= n) (hB : Below lt i0 j0 e) :
  Ev.Ok (D X (.fn (Si.f 53) []) [.sl (.at b g 0) n cap z, .int .i64 i0, .int .i64 j0, fv] G) fun y => ∃ G2 e2 r, y = (.bool r, G2) /\ At Si H b g e2 G2 /\ PermIn i0 j0 e e2 /\ (r = true -> SortedIn lt i0 j0 e2) := by
 obtain ⟨l, rfl⟩ := hG
 have hb' : b < (H ++ l).length := by simp; omega
 have hg' := hc.gapp _ l hg
 rw [partIns_at hc hb' hg' hn hl h1 h2]
 have := partialInsertionSort_holds (lt := lt) hS e i0 j0 h1 (by omega) hB
 exact Ok.ret ⟨_, _, _, rfl, ⟨l, rfl⟩, this.1, this.2⟩
theorem partEq_R (hc : Cmp Si fv lt b n0) (hS : SWO lt) (hb : b < H.length) (hg : hc.good H) (hG : At Si H b g e G) (hn : n <= e.size) (hl : e.size <= 1000000000) (h1 : i0 <= pv) (h2 : pv < j0) (h3 : j0 <= n) (h0 : 0 < i0) (hB : Below lt i0 j0 e) (hx : lt e[i0 - 1]! e[pv]! = false) :
  Ev.Ok (D X (.fn (Si.f 54) []) [.sl (.at b g 0) n cap z, .int .i64 i0, .int .i64 j0, .int .i64 pv, fv] G) fun y => ∃ G2 e2 mid, y = (.int .i64 ((mid : Nat) : Int), G2) /\ At Si H b g e2 G2 /\ (i0 < mid /\ mid <= j0) /\ e2.size = e.size /\ Below lt mid j0 e2 /\ ∀ R, PermIn mid j0 e2 R -> SortedIn lt mid j0 R -> PermIn i0 j0 e R /\ SortedIn lt i0 j0 R := by
 obtain ⟨l, rfl⟩ := hG
 have hb' : b < (H ++ l).length := by simp; omega
 have hg' := hc.gapp _ l hg
 rw [partEq_at hc hb' hg' hn hl h1 h2 h3]
 have := round_eq hS (partitionEqual_holds lt) h0 h1 h2 (by omega) hB hx (mid := (partitionEqual lt e i0 j0 pv).1) (d4 := (partitionEqual lt e i0 j0 pv).2) rfl
 exact Ok.ret ⟨_, _, _, rfl, ⟨l, rfl⟩, ⟨this.1, this.2.1⟩, this.2.2⟩
theorem part_R (hc : Cmp Si fv lt b n0) (hS : SWO lt) (hb : b < H.length) (hg : hc.good H) (hG : At Si H b g e G) (hn : n <= e.size) (hl : e.size <= 1000000000) (h1 : i0 <= pv) (h2 : pv < j0) (h3 : j0 <= n) (hB : Below lt i0 j0 e) :
  Ev.Ok (D X (.fn (Si.f 55) []) [.sl (.at b g 0) n cap z, .int .i64 i0, .int .i64 j0, .int .i64 pv, fv] G) fun y => ∃ G2 e2 mid ap, y = (.tup [.int .i64 ((mid : Nat) : Int), .bool ap], G2) /\ At Si H b g e2 G2 /\ (i0 <= mid /\ mid < j0) /\ e2.size = e.size /\ Below lt i0 mid e2 /\ Below lt (mid + 1) j0 e2 /\
   (∀ L, PermIn i0 mid e2 L -> SortedIn lt i0 mid L -> Below lt (mid + 1) j0 L /\ ∀ R, PermIn (mid + 1) j0 L R -> SortedIn lt (mid + 1) j0 R -> PermIn i0 j0 e R /\ SortedIn lt i0 j0 R) /\
   (∀ L, PermIn (mid + 1) j0 e2 L -> SortedIn lt (mid + 1) j0 L -> Below lt i0 mid L /\ ∀ R, PermIn i0 mid L R -> SortedIn lt i0 mid R -> PermIn i0 j0 e R /\ SortedIn lt i0 j0 R) := by
 obtain ⟨l, rfl⟩ := hG
 have hb' : b < (H ++ l).length := by simp; omega
 have hg' := hc.gapp _ l hg
 rw [part_at hc hb' hg' hn hl h1 h2 h3]
 have := round_part hS (partition_holds lt) h1 h2 (by omega) hB (mid := (partition lt e i0 j0 pv).1) (ap := (partition lt e i0 j0 pv).2.1) (d4 := (partition lt e i0 j0 pv).2.2) rfl
 exact Ok.ret ⟨_, _, _, _, rfl, ⟨l, rfl⟩, ⟨this.1, this.2.1⟩, this.2.2⟩
structure Rnd (lt : α -> α -> Bool) (n i0 j0 : Nat) (d : Array α) (a b : Nat) (e : Array α) : Prop where
 le : a <= b
 to : b <= n
 sz : e.size = d.size
 bel : Below lt a b e
 fin : ∀ R, PermIn a b e R -> SortedIn lt a b R -> PermIn i0 j0 d R /\ SortedIn lt i0 j0 R
theorem Rnd.perm {a c : Nat} {e2 : Array α} (h : Rnd lt n i0 j0 d a c e) (hn : n <= d.size) (hp : PermIn a c e e2) : Rnd lt n i0 j0 d a c e2 :=
 ⟨h.le, h.to, by rw [hp.1]; exact h.sz, h.bel.perm (by have := h.to; have := h.sz; omega) hp, fun R hR hs => h.fin R (permIn_trans _ _ _ _ _ hp hR) hs⟩
end Go.Ev
