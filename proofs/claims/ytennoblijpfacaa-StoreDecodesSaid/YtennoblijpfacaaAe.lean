/-
Texts of this claim, one behind the other.
-/
import Derived.Test.YtennoblijpfacaaAd
set_option linter.unusedSimpArgs false
set_option linter.unusedVariables false
set_option maxRecDepth 100000
set_option maxRecDepth 100000
namespace Go.Ev
open Go.Ev renaming exPure -> Ja, ofValue -> Jb, cellsV -> Jc, load -> Jd, store -> Je, binOp -> Jf, intOp -> Jg, rdV -> Jh, vsame -> Ji, vsames -> Jj, makeSliceV -> Jk, resV -> Jl, isCell -> Jm, nilCheckV -> Jn, allV -> Jo, builtinV -> Jp, lenV -> Jq, indexAddrV -> Jr, unOp -> Js, minmaxV -> Jt, minmax -> Ju, sliceV -> Jv, asInt -> Jw, appendV -> Jx, forkB -> Jy, roY -> Jz, rwB -> J0, copyV -> J1, clearV -> J2, convV -> J3, sliceCells -> J4, shift -> J5
open Bool renaming true -> BT, false -> BF
open Nat renaming reduceEqDiff -> J6, reduceLT -> J7, reduceAdd -> J8, reduceBEq -> J9, reduceSub -> JA, reduceMul -> JB, reduceLeDiff -> JJ
open Int renaming reduceLT -> JC, reduceLE -> JD, reduceAdd -> JE, reduceSub -> JF, reduceNeg -> JG, reduceToNat -> JH, reduceEq -> JI
open Go.Proofs
theorem rdEnd_no {H : Heap} {p : Nat} {v : V} {bs : List UInt8} {st : Option (List UInt8)} (h : RdAt H p v bs st) (hst : st ≠ some []) : D X (.fn 75 []) [.ptr p 0 0] H = some (.bool false, H) := by
  have h1 := rdBad_at h
  have h2 := rdLeft_at h
  cases st with
  | none =>
    simp only [Option.isNone_none,leftN] at h1 h2
    clear h hst
    refine Ok.eq ?_
    (refine Ok.body body75 pin75 ?_; simp only [c75,Try.f75,Option.getD_some,nslot75,List.append_nil,List.map,List.replicate,List.length_cons,List.length_nil,Nat.reduceAdd,Nat.reduceSub,List.cons_append,List.nil_append])
    (repeat' (first | (simp -implicitDefEqProofs (maxSteps := 1000000) (disch := first | assumption | omega | (simp only [ZDI]; omega)) only [*,G75,Za,Zb,Zc,Zd,Ze,Zf,Zg,Zh,Zi,Zj,Zk,Zl,Zm,Zn,Zo,Ja,Jb,Jc,J6,Jd,Je,J7,J8,Jf,Jg,Jh,Ji,Jj,Jk,J9,Jl,Jm,wr,Jn,JA,JB,Jo,Jp,Jq,Jr,Js,Jt,Ju,Jv,Jw,Jx,Jy,Jz,J0,J1,J2,J3,J4,J5,reduceCtorEq,JC,JD,JE,JF,JG,JH,JI,JJ]) | ((with_reducible (first | apply Ok.br | apply Ok.gd | apply Ok.ld)) <;> (intro g; (try simp only [ZGS] at g); try (exfalso; omega)))))
  | some r =>
    cases r with
    | nil => exact absurd rfl hst
    | cons c r =>
      simp only [Option.isNone_some] at h1
      have hz : ¬ ((leftN (some (c :: r)) : Nat) : Int) = 0 := by show ¬ (((c :: r).length : Nat) : Int) = 0; rw [List.length_cons]; omega
      generalize leftN (some (c :: r)) = m at h2 hz
      clear h hst
      refine Ok.eq ?_
      (refine Ok.body body75 pin75 ?_; simp only [c75,Try.f75,Option.getD_some,nslot75,List.append_nil,List.map,List.replicate,List.length_cons,List.length_nil,Nat.reduceAdd,Nat.reduceSub,List.cons_append,List.nil_append])
      (repeat' (first | (simp -implicitDefEqProofs (maxSteps := 1000000) (disch := first | assumption | omega | (simp only [ZDI]; omega)) only [*,G75,Za,Zb,Zc,Zd,Ze,Zf,Zg,Zh,Zi,Zj,Zk,Zl,Zm,Zn,Zo,Ja,Jb,Jc,J6,Jd,Je,J7,J8,Jf,Jg,Jh,Ji,Jj,Jk,J9,Jl,Jm,wr,Jn,JA,JB,Jo,Jp,Jq,Jr,Js,Jt,Ju,Jv,Jw,Jx,Jy,Jz,J0,J1,J2,J3,J4,J5,reduceCtorEq,JC,JD,JE,JF,JG,JH,JI,JJ]) | ((with_reducible (first | apply Ok.br | apply Ok.gd | apply Ok.ld)) <;> (intro g; (try simp only [ZGS] at g); try (exfalso; omega)))))
def NoStore (H : Heap) (y : V × Heap) : Prop := y.1 = .tup [.nilp, .int .i64 4] /\ Keeps [] H y.2
set_option maxHeartbeats 64000000 in
theorem decode_bad {H G0 : Heap} {pr : Nat} {v w : V} {bs : List UInt8} (eN : D X (.fn 39 []) [v] H = some (.ptr pr 0 0, G0)) (hsl : ∃ a n c z, v = .sl a n c z) (r0 : RdAt G0 pr w bs (some bs)) (hk0 : Keeps [] H G0) (hprG : pr < G0.length /\ H.length <= pr) (hno : stoD bs = none) :
    Ev.Ok (D X (.fn 44 []) [v] H) (NoStore H) := by
  refine Ok.aim fun Q hQ => ?_
  have hQ' := Hid.mk hQ
  clear hQ
  obtain ⟨⟨w1, G1⟩, e1, hv1, r1, k1⟩ := rdNum_at r0
  dsimp only at hv1 r1 k1
  obtain ⟨⟨w2, G2⟩, e2, hv2, r2, k2⟩ := rdNum_at r1
  dsimp only at hv2 r2 k2
  obtain ⟨⟨w3, G3⟩, e3, hv3, r3, k3⟩ := rdBool_at r2
  dsimp only at hv3 r3 k3
  have eBad := rdBad_at r3
  have k03 := (k1.trans k2).trans k3
  have hK3 : Keeps [] H G3 := ⟨Nat.le_trans hk0.1 k03.1, fun i hi _ => by rw [k03.2 i (by have := hk0.1; omega) (by simp; omega)]; exact hk0.2 i hi (by simp)⟩
  have hpr3 : pr < G3.length := by have := k03.1; omega
  have hfin : ∀ g, Keeps [] H g -> Hid (Q (.tup [.nilp, .int .i64 4], g)) := fun g k => ⟨hQ'.out _ ⟨rfl, k⟩⟩
  have hq3 := hfin G3 hK3
  obtain ⟨sa, sn, sc, sz, rfl⟩ := hsl
  cases hx1 : numD bs with
  | none =>
    simp only [Option.bind_some,hx1,Option.map_none,Option.bind_none,Option.getD_none,Option.isNone_none] at hv1 hv2 hv3 eBad
    subst hv1 hv2 hv3
    clear hfin r0 r1 r2 r3 k1 k2 k3 k03 hK3 hk0 hQ' hno hx1
    (refine Ok.body body44 pin44 ?_; simp only [c44,Try.f44,Option.getD_some,nslot44,List.append_nil,List.map,List.replicate,List.length_cons,List.length_nil,Nat.reduceAdd,Nat.reduceSub,List.cons_append,List.nil_append])
    (repeat' (first | (simp -implicitDefEqProofs (maxSteps := 1000000) (disch := first | assumption | omega | (simp only [ZDI]; omega)) only [*,G44,Za,Zb,Zc,Zd,Ze,Zf,Zg,Zh,Zi,Zj,Zk,Zl,Zm,Zn,Zo,Ja,Jb,Jc,J6,Jd,Je,J7,J8,Jf,Jg,Jh,Ji,Jj,Jk,J9,Jl,Jm,wr,Jn,JA,JB,Jo,Jp,Jq,Jr,Js,Jt,Ju,Jv,Jw,Jx,Jy,Jz,J0,J1,J2,J3,J4,J5,reduceCtorEq,JC,JD,JE,JF,JG,JH,JI,JJ]) | ((with_reducible (first | apply Ok.br | apply Ok.gd | apply Ok.ld)) <;> (intro g; (try simp only [ZGS] at g); try (exfalso; omega)))))
    exact hq3.out
  | some x1 =>
    obtain ⟨A, q1⟩ := x1
    simp only [Option.bind_some,hx1,Option.map_some,Option.getD_some] at hv1 hv2 hv3 eBad r3
    subst hv1
    cases hx2 : numD q1 with
    | none =>
      simp only [hx2,Option.map_none,Option.bind_none,Option.getD_none,Option.isNone_none] at hv2 hv3 eBad
      subst hv2 hv3
      clear hfin r0 r1 r2 r3 k1 k2 k3 k03 hK3 hk0 hQ' hno hx1 hx2
      (refine Ok.body body44 pin44 ?_; simp only [c44,Try.f44,Option.getD_some,nslot44,List.append_nil,List.map,List.replicate,List.length_cons,List.length_nil,Nat.reduceAdd,Nat.reduceSub,List.cons_append,List.nil_append])
      (repeat' (first | (simp -implicitDefEqProofs (maxSteps := 1000000) (disch := first | assumption | omega | (simp only [ZDI]; omega)) only [*,G44,Za,Zb,Zc,Zd,Ze,Zf,Zg,Zh,Zi,Zj,Zk,Zl,Zm,Zn,Zo,Ja,Jb,Jc,J6,Jd,Je,J7,J8,Jf,Jg,Jh,Ji,Jj,Jk,J9,Jl,Jm,wr,Jn,JA,JB,Jo,Jp,Jq,Jr,Js,Jt,Ju,Jv,Jw,Jx,Jy,Jz,J0,J1,J2,J3,J4,J5,reduceCtorEq,JC,JD,JE,JF,JG,JH,JI,JJ]) | ((with_reducible (first | apply Ok.br | apply Ok.gd | apply Ok.ld)) <;> (intro g; (try simp only [ZGS] at g); try (exfalso; omega)))))
      exact hq3.out
    | some x2 =>
      obtain ⟨B, q2⟩ := x2
      simp only [hx2,Option.map_some,Option.bind_some,Option.getD_some] at hv2 hv3 eBad r3
      subst hv2
      cases hx3 : boolD q2 with
      | none =>
        simp only [hx3,Option.map_none,Option.getD_none,Option.isNone_none] at hv3 eBad
        subst hv3
        clear hfin r0 r1 r2 r3 k1 k2 k3 k03 hK3 hk0 hQ' hno hx1 hx2 hx3
        (refine Ok.body body44 pin44 ?_; simp only [c44,Try.f44,Option.getD_some,nslot44,List.append_nil,List.map,List.replicate,List.length_cons,List.length_nil,Nat.reduceAdd,Nat.reduceSub,List.cons_append,List.nil_append])
        (repeat' (first | (simp -implicitDefEqProofs (maxSteps := 1000000) (disch := first | assumption | omega | (simp only [ZDI]; omega)) only [*,G44,Za,Zb,Zc,Zd,Ze,Zf,Zg,Zh,Zi,Zj,Zk,Zl,Zm,Zn,Zo,Ja,Jb,Jc,J6,Jd,Je,J7,J8,Jf,Jg,Jh,Ji,Jj,Jk,J9,Jl,Jm,wr,Jn,JA,JB,Jo,Jp,Jq,Jr,Js,Jt,Ju,Jv,Jw,Jx,Jy,Jz,J0,J1,J2,J3,J4,J5,reduceCtorEq,JC,JD,JE,JF,JG,JH,JI,JJ]) | ((with_reducible (first | apply Ok.br | apply Ok.gd | apply Ok.ld)) <;> (intro g; (try simp only [ZGS] at g); try (exfalso; omega)))))
        exact hq3.out
      | some x3 =>
        obtain ⟨fz, q3⟩ := x3
        simp only [hx3,Option.map_some,Option.getD_some,Option.isNone_some] at hv3 eBad r3
        subst hv3
        by_cases hAB : 256 < B \/ B <= A
        · have hAB' : ((256 : Int) < (B : Int)) \/ (¬ (256 : Int) < (B : Int) /\ (B : Int) <= (A : Int)) := by omega
          clear hfin r0 r1 r2 r3 k1 k2 k3 k03 hK3 hk0 hQ' hno hx1 hx2 hx3 hAB
          rcases hAB' with h | ⟨h, h'⟩
          all_goals
            (refine Ok.body body44 pin44 ?_; simp only [c44,Try.f44,Option.getD_some,nslot44,List.append_nil,List.map,List.replicate,List.length_cons,List.length_nil,Nat.reduceAdd,Nat.reduceSub,List.cons_append,List.nil_append])
            (repeat' (first | (simp -implicitDefEqProofs (maxSteps := 1000000) (disch := first | assumption | omega | (simp only [ZDI]; omega)) only [*,G44,Za,Zb,Zc,Zd,Ze,Zf,Zg,Zh,Zi,Zj,Zk,Zl,Zm,Zn,Zo,Ja,Jb,Jc,J6,Jd,Je,J7,J8,Jf,Jg,Jh,Ji,Jj,Jk,J9,Jl,Jm,wr,Jn,JA,JB,Jo,Jp,Jq,Jr,Js,Jt,Ju,Jv,Jw,Jx,Jy,Jz,J0,J1,J2,J3,J4,J5,reduceCtorEq,JC,JD,JE,JF,JG,JH,JI,JJ]) | ((with_reducible (first | apply Ok.br | apply Ok.gd | apply Ok.ld)) <;> (intro g; (try simp only [ZGS] at g); try (exfalso; omega)))))
            exact hq3.out
        · have hS : (manyD cellD (B - A) q3).bind (fun x4 => if x4.2 = [] then some (stoOf A B fz x4.1) else none) = none := by
            have := hno
            unfold stoD at this
            rw [hx1] at this
            simp only [Option.bind_some] at this
            rw [hx2] at this
            simp only [Option.bind_some] at this
            rw [hx3] at this
            simp only [Option.bind_some] at this
            rw [if_neg hAB] at this
            exact this
          obtain ⟨n, hn⟩ : ∃ n, n = B - A := ⟨_, rfl⟩
          rw [<- hn] at hS
          obtain ⟨⟨w4, G4⟩, e4, h4', hy4, k4, l4, st4⟩ := new_store (a := (A : Int)) (b := (B : Int)) (by omega) (by omega) (by omega) G3
          simp only [Prod.mk.injEq] at hy4
          obtain ⟨rfl, rfl⟩ := hy4
          obtain ⟨cp, zz, full0, s1, s2, s3, s4, s5⟩ := st4
          have hne : (emptySto (A : Int) (B : Int)).n = n := by show ((B : Int) - (A : Int)).toNat = n; omega
          rw [hne] at s1 s3
          have hcp : n <= cp := by have := s5.hc; rw [hne] at this; exact this
          have hpl4 := hcells_lt s1
          have hcl4 := hcells_lt s2
          have hf0 : full0.length = n * 5 := s3.1
          have hnl : n <= 256 := by omega
          have s1 : hcells G4 (G3.length + 1) 0 = some (true, [.int .i64 A, .int .i64 B, .bool false, .sl (.at G3.length 0 0) n cp zz]) := s1
          have r4 : RdAt (G4.set (G3.length + 1) (.cells 0 true [.int .i64 A, .int .i64 B, .bool fz, .sl (.at G3.length 0 0) n cp zz])) pr w bs (some q3) :=
            r3.grow r3 fun i hi => by rw [List.getElem?_set_ne (by omega)]; exact k4.2 i hi (by simp)
          have hA1 : ¬ (256 : Int) < (B : Int) := by omega
          have hA2 : ¬ (B : Int) <= (A : Int) := by omega
          have hA3 : (B : Int) <= 256 /\ (A : Int) < (B : Int) := by omega
          have r3' := Hid.mk r3
          have r4' := Hid.mk r4
          have hK3' := Hid.mk hK3
          have k4' := Hid.mk k4
          have hS' := Hid.mk hS
          have hfin' := Hid.mk hfin
          clear hfin r0 r1 r2 r3 r4 k1 k2 k3 k03 hk0 hK3 k4 s3 s5 hno hx1 hx2 hx3 hAB hS hn hne hq3 hQ'
          (refine Ok.body body44 pin44 ?_; simp only [c44,Try.f44,Option.getD_some,nslot44,List.append_nil,List.map,List.replicate,List.length_cons,List.length_nil,Nat.reduceAdd,Nat.reduceSub,List.cons_append,List.nil_append])
          (repeat' (first | (simp -implicitDefEqProofs (maxSteps := 1000000) (disch := first | assumption | omega | (simp only [ZDI]; omega)) only [*,lenV,G44,Za,Zb,Zc,Zd,Ze,Zf,Zg,Zh,Zi,Zj,Zk,Zl,Zm,Zn,Zo,Ja,Jb,Jc,J6,Jd,Je,J7,J8,Jf,Jg,Jh,Ji,Jj,Jk,J9,Jl,Jm,wr,Jn,JA,JB,Jo,Jp,Jq,Jr,Js,Jt,Ju,Jv,Jw,Jx,Jy,Jz,J0,J1,J2,J3,J4,J5,reduceCtorEq,JC,JD,JE,JF,JG,JH,JI,JJ]) | ((with_reducible (first | apply Ok.br | apply Ok.gd | apply Ok.ld)) <;> (intro g; (try simp only [ZGS] at g); try (exfalso; omega)))))
          refine Ok.loop [BF, BF, BT, BT, BF, BF, BF, BF, BF, BF, BT, BT, BT, BT, BF, BF, BF, BF, BF, BF, BF, BF, BF, BF, BF, BF, BF, BF, BF, BF, BF, BF, BF, BF, BF, BF, BF, BF, BF, BF, BF, BF, BF, BF, BF, BF, BF, BF, BF, BF, BF, BT, BT, BT, BT, BT, BT, BT, BT, BT, BT, BT, BT, BT, BT, BT, BT, BT, BT, BT, BT, BT, BT, BT, BT, BT, BT, BT, BT, BT, BT, BT, BT, BT, BT, BT, BT, BF, BF, BF, BF] (fun m s2 => ∃ (i : Nat) (full : List V) (st : Option (List UInt8)), m = n - i /\ i <= n /\ tv s2.e 51 = .v (.int .i64 i) /\ s2.l = [] /\ RdAt s2.h pr w bs st /\ Keeps [pr] G3 s2.h /\
              hcells s2.h (G3.length + 1) 0 = some (true, [.int .i64 A, .int .i64 B, .bool fz, .sl (.at G3.length 0 0) n cp zz]) /\ hcells s2.h G3.length 0 = some (true, full) /\ full.length = n * 5 /\
              (st = none \/ ∃ r cs, st = some r /\ manyD cellD n q3 = (manyD cellD (n - i) r).map fun y => (cs ++ y.1, y.2)))
            (fun y s2 => s2.l = [] /\ Keeps [pr] G3 s2.h /\ ((y = .exit 0 /\ ∃ st, RdAt s2.h pr w bs st /\ st ≠ some []) \/ (y = .ret /\ tv s2.e 2 = .v .nilp /\ tv s2.e 3 = .v (.int .i64 4))))
            (n - 0) ⟨0, full0, some q3, rfl, Nat.zero_le _, rfl, rfl, by exact r4'.out, ⟨by have := k4'.out.1; simp; omega, fun i hi _ => by
              dsimp only
              rw [List.getElem?_set_ne (by omega)]; exact k4'.out.2 i hi (by simp)⟩, hcells_set_eq hpl4, by dsimp only; rw [hcells_set_ne (by omega)]; exact s2, hf0, .inr ⟨q3, [], rfl, by rw [Nat.sub_zero]; cases manyD cellD n q3 <;> rfl⟩⟩ ?_ ?_
          · intro m ⟨e', l', G⟩ hW ⟨i, full, st, hm, hi, h51, kl, hrd, hkG, hp, hc, hfl, hst⟩
            dsimp only at hW h51 kl hrd hkG hp hc
            subst l'
            rw [hW.spread]
            simp only [spread_t,spread_f,spread_n,Nat.zero_add,Nat.reduceAdd,h51]
            clear hW e1 e2 e3 eN e4 eBad s1 s2
            by_cases hlt : i < n
            · have hlt' : (i : Int) < (n : Int) := by omega
              have g1 : 0 <= (i : Int) /\ (i : Int) < (n : Int) := by omega
              have hni : n - i = (n - (i + 1)) + 1 := by omega
              obtain ⟨⟨w5, G5⟩, e5, hv5, r5, k5⟩ := rdText_at hrd
              dsimp only at hv5 r5 k5
              have c5 := k5.cells hc (by simp; omega)
              have p5 := k5.cells hp (by simp; omega)
              have K5 := hkG.trans (⟨k5.1, fun i hi hF => k5.2 i hi hF⟩ : Keeps [pr] G G5)
              obtain ⟨t, ht⟩ : ∃ t, t = ((st.bind textD).map (·.1)).getD ⟨#[]⟩ := ⟨_, rfl⟩
              rw [<- ht] at hv5
              subst hv5
              have l5 := hcells_lt c5
              have lp5 := hcells_lt p5
              have hoff : i * 5 < full.length := by rw [hfl]; omega
              have hoff2 : i * 5 + 1 + 3 < full.length := by rw [hfl]; omega
              obtain ⟨F1, hF1⟩ : ∃ F, full.set (i * 5) (.str t) = F := ⟨_, rfl⟩
              have hF1l : F1.length = n * 5 := by rw [<- hF1]; simp [hfl]
              have hF1t : F1[i * 5]? = some (.str t) := by rw [<- hF1, List.getElem?_set_self hoff]
              obtain ⟨G6, hG6⟩ : ∃ G, G5.set G3.length (.cells 0 true F1) = G := ⟨_, rfl⟩
              have r6 : Hid (RdAt G6 pr w bs ((st.bind textD).map (·.2))) := ⟨by rw [<- hG6]; exact r3'.out.grow r5 fun i hi => List.getElem?_set_ne (by omega)⟩
              have K6 : Hid (Keeps [pr] G3 G6) := ⟨by rw [<- hG6]; exact K5.set (.inr (Nat.le_refl _)) _⟩
              have p6 : hcells G6 (G3.length + 1) 0 = some (true, [.int .i64 A, .int .i64 B, .bool fz, .sl (.at G3.length 0 0) n cp zz]) := by rw [<- hG6, hcells_set_ne (by omega)]; exact p5
              have c6 : hcells G6 G3.length 0 = some (true, F1) := by rw [<- hG6]; exact hcells_set_eq l5
              have hrest : Hid (((st.bind textD).map (·.2)) = none \/ ∃ r cs q, st = some r /\ textD r = some (t, q) /\ ((st.bind textD).map (·.2)) = some q /\ manyD cellD n q3 = (manyD cellD (n - i) r).map fun y => (cs ++ y.1, y.2)) := by
                refine ⟨?_⟩
                rcases hst with rfl | ⟨r, cs, rfl, hMD⟩
                · exact .inl rfl
                · cases htd : textD r with
                  | none => left; show ((textD r).map _) = none; rw [htd]; rfl
                  | some x =>
                    right
                    refine ⟨r, cs, x.2, rfl, ?_, by show ((textD r).map _) = _; rw [htd]; rfl, hMD⟩
                    rw [htd, ht]; show some x = some ((((textD r).map (·.1)).getD ⟨#[]⟩), x.2); rw [htd]; rfl
              clear hst ht hrd hkG r5 k5 K5
              (repeat' (first | (simp -implicitDefEqProofs (maxSteps := 1000000) (disch := first | assumption | omega | (simp only [ZDI]; omega)) only [*,lenV,G44,Za,Zb,Zc,Zd,Ze,Zf,Zg,Zh,Zi,Zj,Zk,Zl,Zm,Zn,Zo,Ja,Jb,Jc,J6,Jd,Je,J7,J8,Jf,Jg,Jh,Ji,Jj,Jk,J9,Jl,Jm,wr,Jn,JA,JB,Jo,Jp,Jq,Jr,Js,Jt,Ju,Jv,Jw,Jx,Jy,Jz,J0,J1,J2,J3,J4,J5,reduceCtorEq,JC,JD,JE,JF,JG,JH,JI,JJ]) | ((with_reducible (first | apply Ok.br | apply Ok.gd | apply Ok.ld)) <;> (intro g; (try simp only [ZGS] at g); try (exfalso; omega)))))
              clear e5 hp hc c5 p5 hG6 hF1
              generalize ((st.bind textD).map (·.2)) = st1 at r6 hrest
              refine Ok.loop [BF, BF, BT, BT, BF, BF, BF, BF, BF, BF, BF, BF, BT, BT, BF, BF, BF, BF, BF, BF, BF, BF, BF, BF, BF, BF, BF, BF, BF, BF, BF, BF, BF, BF, BF, BF, BF, BF, BF, BF, BF, BF, BF, BF, BF, BF, BF, BF, BF, BF, BF, BF, BF, BF, BF, BF, BF, BF, BF, BF, BF, BF, BF, BF, BF, BT, BT, BT, BT, BT, BT, BT, BT, BT, BT, BT, BT, BT, BT, BT, BF, BF, BF, BF, BF, BF, BF, BF, BF, BF, BF] (fun m s3 => ∃ (k : Nat) (full' : List V) (st2 : Option (List UInt8)), m = 4 - k /\ k <= 4 /\ tv s3.e 65 = .v (.int .i64 k) /\ s3.l = [] /\ RdAt s3.h pr w bs st2 /\ Keeps [pr] G3 s3.h /\
                  hcells s3.h (G3.length + 1) 0 = some (true, [.int .i64 A, .int .i64 B, .bool fz, .sl (.at G3.length 0 0) n cp zz]) /\ hcells s3.h G3.length 0 = some (true, full') /\ full'.length = n * 5 /\ full'[i * 5]? = some (.str t) /\
                  (st2 = none \/ ∃ q1 ms q, st1 = some q1 /\ st2 = some q /\ manyD markD 4 q1 = (manyD markD (4 - k) q).map fun y => (ms ++ y.1, y.2)))
                (fun y s3 => s3.l = [] /\ Keeps [pr] G3 s3.h /\ ((y = .exit 2 /\ ∃ (full' : List V) (st2 : Option (List UInt8)), RdAt s3.h pr w bs st2 /\
                  hcells s3.h (G3.length + 1) 0 = some (true, [.int .i64 A, .int .i64 B, .bool fz, .sl (.at G3.length 0 0) n cp zz]) /\ hcells s3.h G3.length 0 = some (true, full') /\ full'.length = n * 5 /\ full'[i * 5]? = some (.str t) /\
                  (st2 = none \/ ∃ q1 ms q, st1 = some q1 /\ st2 = some q /\ manyD markD 4 q1 = some (ms, q))) \/ (y = .ret /\ tv s3.e 2 = .v .nilp /\ tv s3.e 3 = .v (.int .i64 4))))
                (4 - 0) ⟨0, F1, st1, rfl, by omega, rfl, rfl, by exact r6.out, by exact K6.out, by exact p6, by exact c6, hF1l, hF1t, by
                  rcases hrest.out with h | ⟨r, cs, q, _, _, h, _⟩
                  · exact .inl h
                  · exact .inr ⟨q, [], q, h, h, by rw [Nat.sub_zero]; cases manyD markD 4 q <;> rfl⟩⟩ ?_ ?_
              · intro m ⟨e2', l2, G7⟩ hW2 ⟨k, full', st2, hm2, hk4, h65, kl2, hrd2, hkG2, hp2, hc2, hfl2, hft2, hst2⟩
                dsimp only at hW2 h65 kl2 hrd2 hkG2 hp2 hc2
                subst l2
                rw [hW2.spread]
                simp only [spread_t,spread_f,spread_n,Nat.zero_add,Nat.reduceAdd,h65]
                clear hW2
                by_cases hk : k < 4
                · have hk' : (k : Int) < 4 := by omega
                  have gk : 0 <= (k : Int) /\ (k : Int) < ((4 : Nat) : Int) := by omega
                  have h4k : 4 - k = (4 - (k + 1)) + 1 := by omega
                  obtain ⟨⟨w8, G8⟩, e8, hv8, r8, k8⟩ := rdNum_at hrd2
                  dsimp only at hv8 r8 k8
                  have c8 := k8.cells hc2 (by simp; omega)
                  have p8 := k8.cells hp2 (by simp; omega)
                  have K8 := hkG2.trans (⟨k8.1, fun i hi hF => k8.2 i hi hF⟩ : Keeps [pr] G7 G8)
                  obtain ⟨mN, hmN⟩ : ∃ t, t = ((st2.bind numD).map (·.1)).getD 0 := ⟨_, rfl⟩
                  rw [<- hmN] at hv8
                  subst hv8
                  by_cases hbig : (1099511627776 : Int) < (mN : Int)
                  · have K8' := Hid.mk K8
                    clear hst2 hmN hrd2 hkG2 r8 k8 K8 hc2 hp2
                    (repeat' (first | (simp -implicitDefEqProofs (maxSteps := 1000000) (disch := first | assumption | omega | (simp only [ZDI]; omega)) only [*,lenV,G44,Za,Zb,Zc,Zd,Ze,Zf,Zg,Zh,Zi,Zj,Zk,Zl,Zm,Zn,Zo,Ja,Jb,Jc,J6,Jd,Je,J7,J8,Jf,Jg,Jh,Ji,Jj,Jk,J9,Jl,Jm,wr,Jn,JA,JB,Jo,Jp,Jq,Jr,Js,Jt,Ju,Jv,Jw,Jx,Jy,Jz,J0,J1,J2,J3,J4,J5,reduceCtorEq,JC,JD,JE,JF,JG,JH,JI,JJ]) | ((with_reducible (first | apply Ok.br | apply Ok.gd | apply Ok.ld)) <;> (intro g; (try simp only [ZGS] at g); try (exfalso; omega)))))
                    exact Turn.ret ⟨rfl, rfl, K8'.out, .inr ⟨rfl, rfl, rfl⟩⟩
                  · have l8 := hcells_lt c8
                    have lp8 := hcells_lt p8
                    have hoffk : i * 5 + 1 + k < full'.length := by rw [hfl2]; omega
                    obtain ⟨F2, hF2⟩ : ∃ F, full'.set (i * 5 + 1 + k) (.int .i64 (mN : Int)) = F := ⟨_, rfl⟩
                    have hF2l : F2.length = n * 5 := by rw [<- hF2]; simp [hfl2]
                    have hF2t : F2[i * 5]? = some (.str t) := by rw [<- hF2, List.getElem?_set_ne (by omega)]; exact hft2
                    obtain ⟨G9, hG9⟩ : ∃ G, G8.set G3.length (.cells 0 true F2) = G := ⟨_, rfl⟩
                    have r9 : Hid (RdAt G9 pr w bs ((st2.bind numD).map (·.2))) := ⟨by rw [<- hG9]; exact r3'.out.grow r8 fun i hi => List.getElem?_set_ne (by omega)⟩
                    have K9 : Hid (Keeps [pr] G3 G9) := ⟨by rw [<- hG9]; exact K8.set (.inr (Nat.le_refl _)) _⟩
                    have p9 : Hid (hcells G9 (G3.length + 1) 0 = some (true, [.int .i64 A, .int .i64 B, .bool fz, .sl (.at G3.length 0 0) n cp zz])) := ⟨by rw [<- hG9, hcells_set_ne (by omega)]; exact p8⟩
                    have c9 : Hid (hcells G9 G3.length 0 = some (true, F2)) := ⟨by rw [<- hG9]; exact hcells_set_eq l8⟩
                    have hst3 : Hid (((st2.bind numD).map (·.2)) = none \/ ∃ q1 ms q, st1 = some q1 /\ ((st2.bind numD).map (·.2)) = some q /\ manyD markD 4 q1 = (manyD markD (4 - (k + 1)) q).map fun y => (ms ++ y.1, y.2)) := by
                      refine ⟨?_⟩
                      rcases hst2 with rfl | ⟨q1, ms, q, h1, rfl, hMM⟩
                      · exact .inl rfl
                      · cases hnd : numD q with
                        | none => left; show ((numD q).map _) = none; rw [hnd]; rfl
                        | some x =>
                          right
                          refine ⟨q1, ms ++ [x.1], x.2, h1, by show ((numD q).map _) = _; rw [hnd]; rfl, ?_⟩
                          have hmx : mN = x.1 := by rw [hmN]; show ((numD q).map _).getD 0 = _; rw [hnd]; rfl
                          have hun : manyD markD (4 - k) q = (markD q).bind fun x => (manyD markD (4 - (k + 1)) x.2).map fun y => (x.1 :: y.1, y.2) := by rw [h4k, manyD]
                          have hmk : markD q = some x := by unfold markD; rw [hnd]; simp only [Option.bind_some]; rw [if_neg (by omega)]
                          rw [hMM, hun, hmk]
                          simp only [Option.bind_some,Option.map_map,Function.comp_def,List.append_assoc,List.cons_append,List.nil_append]
                    have hwm : IntKind.i64.wrap (mN : Int) = (mN : Int) := wrapI (by omega)
                    clear hst2 hmN hrd2 hkG2 r8 k8 K8 hc2 hp2
                    (repeat' (first | (simp -implicitDefEqProofs (maxSteps := 1000000) (disch := first | assumption | omega | (simp only [ZDI]; omega)) only [*,lenV,G44,Za,Zb,Zc,Zd,Ze,Zf,Zg,Zh,Zi,Zj,Zk,Zl,Zm,Zn,Zo,Ja,Jb,Jc,J6,Jd,Je,J7,J8,Jf,Jg,Jh,Ji,Jj,Jk,J9,Jl,Jm,wr,Jn,JA,JB,Jo,Jp,Jq,Jr,Js,Jt,Ju,Jv,Jw,Jx,Jy,Jz,J0,J1,J2,J3,J4,J5,reduceCtorEq,JC,JD,JE,JF,JG,JH,JI,JJ]) | ((with_reducible (first | apply Ok.br | apply Ok.gd | apply Ok.ld)) <;> (intro g; (try simp only [ZGS] at g); try (exfalso; omega)))))
                    exact Turn.next (4 - (k + 1)) (by omega) ⟨rfl, k + 1, F2, _, rfl, by omega, rfl, rfl, by exact r9.out, by exact K9.out, by exact p9.out, by exact c9.out, hF2l, hF2t, hst3.out⟩
                · have hk' : ¬ (k : Int) < 4 := by omega
                  have hst3 : Hid (st2 = none \/ ∃ q1 ms q, st1 = some q1 /\ st2 = some q /\ manyD markD 4 q1 = some (ms, q)) := ⟨hst2.imp id fun ⟨q1, ms, q, h1, h2, hMM⟩ => ⟨q1, ms, q, h1, h2, by
                    have hun : manyD markD (4 - k) q = some ([], q) := by rw [show 4 - k = 0 by omega, manyD]
                    rw [hMM, hun]; simp⟩⟩
                  have r9 := Hid.mk hrd2
                  have K9 := Hid.mk hkG2
                  clear hst2 hrd2 hkG2
                  (repeat' (first | (simp -implicitDefEqProofs (maxSteps := 1000000) (disch := first | assumption | omega | (simp only [ZDI]; omega)) only [*,lenV,G44,Za,Zb,Zc,Zd,Ze,Zf,Zg,Zh,Zi,Zj,Zk,Zl,Zm,Zn,Zo,Ja,Jb,Jc,J6,Jd,Je,J7,J8,Jf,Jg,Jh,Ji,Jj,Jk,J9,Jl,Jm,wr,Jn,JA,JB,Jo,Jp,Jq,Jr,Js,Jt,Ju,Jv,Jw,Jx,Jy,Jz,J0,J1,J2,J3,J4,J5,reduceCtorEq,JC,JD,JE,JF,JG,JH,JI,JJ]) | ((with_reducible (first | apply Ok.br | apply Ok.gd | apply Ok.ld)) <;> (intro g; (try simp only [ZGS] at g); try (exfalso; omega)))))
                  exact Turn.exit ⟨rfl, rfl, K9.out, .inl ⟨rfl, full', st2, r9.out, hp2, hc2, hfl2, hft2, hst3.out⟩⟩
              · intro y ⟨e2', l2, G7⟩ hW2 ⟨kl2, hkG2, hcase⟩
                dsimp only at hW2 kl2 hkG2 hcase
                subst l2
                rw [hW2.spread]
                clear hW2
                rcases hcase with ⟨rfl, full', st2, hrd2, hp2, hc2, hfl2, hft2, hst2⟩ | ⟨rfl, h2, h3⟩
                · simp only [spread_t,spread_f,spread_n,Nat.zero_add,Nat.reduceAdd]
                  have eI := isText_at t G7
                  have r9 := Hid.mk hrd2
                  have K9 := Hid.mk hkG2
                  cases htb : textB t with
                  | false =>
                    rw [htb] at eI
                    clear hst2 hrd2 hkG2 r6 K6 hrest
                    (repeat' (first | (simp -implicitDefEqProofs (maxSteps := 1000000) (disch := first | assumption | omega | (simp only [ZDI]; omega)) only [*,lenV,G44,Za,Zb,Zc,Zd,Ze,Zf,Zg,Zh,Zi,Zj,Zk,Zl,Zm,Zn,Zo,Ja,Jb,Jc,J6,Jd,Je,J7,J8,Jf,Jg,Jh,Ji,Jj,Jk,J9,Jl,Jm,wr,Jn,JA,JB,Jo,Jp,Jq,Jr,Js,Jt,Ju,Jv,Jw,Jx,Jy,Jz,J0,J1,J2,J3,J4,J5,reduceCtorEq,JC,JD,JE,JF,JG,JH,JI,JJ]) | ((with_reducible (first | apply Ok.br | apply Ok.gd | apply Ok.ld)) <;> (intro g; (try simp only [ZGS] at g); try (exfalso; omega)))))
                    exact Turn.ret ⟨rfl, rfl, K9.out, .inr ⟨rfl, rfl, rfl⟩⟩
                  | true =>
                    rw [htb] at eI
                    have hst3 : Hid (st2 = none \/ ∃ r cs, st2 = some r /\ manyD cellD n q3 = (manyD cellD (n - (i + 1)) r).map fun y => (cs ++ y.1, y.2)) := by
                      refine ⟨?_⟩
                      rcases hst2 with h | ⟨q1, ms, q, h1, h2, hMM⟩
                      · exact .inl h
                      · right
                        rcases hrest.out with h | ⟨r, cs, q', h3, h4, h5, hMD⟩
                        · rw [h] at h1; cases h1
                        · rw [h5] at h1; cases h1
                          refine ⟨q, cs ++ [(t, ms)], h2, ?_⟩
                          have hun : manyD cellD (n - i) r = (cellD r).bind fun x => (manyD cellD (n - (i + 1)) x.2).map fun y => (x.1 :: y.1, y.2) := by rw [hni, manyD]
                          have hcd : cellD r = some ((t, ms), q) := by
                            unfold cellD
                            rw [h4]
                            simp only [Option.bind_some]
                            rw [if_neg (by rw [htb]; exact Bool.noConfusion), hMM]; rfl
                          rw [hMD, hun, hcd]
                          simp only [Option.bind_some,Option.map_map,Function.comp_def,List.append_assoc,List.cons_append,List.nil_append]
                    clear hst2 hrd2 hkG2 r6 K6 hrest
                    (repeat' (first | (simp -implicitDefEqProofs (maxSteps := 1000000) (disch := first | assumption | omega | (simp only [ZDI]; omega)) only [*,lenV,G44,Za,Zb,Zc,Zd,Ze,Zf,Zg,Zh,Zi,Zj,Zk,Zl,Zm,Zn,Zo,Ja,Jb,Jc,J6,Jd,Je,J7,J8,Jf,Jg,Jh,Ji,Jj,Jk,J9,Jl,Jm,wr,Jn,JA,JB,Jo,Jp,Jq,Jr,Js,Jt,Ju,Jv,Jw,Jx,Jy,Jz,J0,J1,J2,J3,J4,J5,reduceCtorEq,JC,JD,JE,JF,JG,JH,JI,JJ]) | ((with_reducible (first | apply Ok.br | apply Ok.gd | apply Ok.ld)) <;> (intro g; (try simp only [ZGS] at g); try (exfalso; omega)))))
                    exact Turn.next (n - (i + 1)) (by omega) ⟨rfl, i + 1, full', st2, rfl, by omega, rfl, rfl, by exact r9.out, by exact K9.out, hp2, hc2, hfl2, hst3.out⟩
                · simp only [spread_t,spread_f,spread_n,Nat.zero_add,Nat.reduceAdd,h2,h3]
                  have K9 := Hid.mk hkG2
                  clear hkG2 r6 K6 hrest
                  (repeat' (first | (simp -implicitDefEqProofs (maxSteps := 1000000) (disch := first | assumption | omega | (simp only [ZDI]; omega)) only [*,lenV,G44,Za,Zb,Zc,Zd,Ze,Zf,Zg,Zh,Zi,Zj,Zk,Zl,Zm,Zn,Zo,Ja,Jb,Jc,J6,Jd,Je,J7,J8,Jf,Jg,Jh,Ji,Jj,Jk,J9,Jl,Jm,wr,Jn,JA,JB,Jo,Jp,Jq,Jr,Js,Jt,Ju,Jv,Jw,Jx,Jy,Jz,J0,J1,J2,J3,J4,J5,reduceCtorEq,JC,JD,JE,JF,JG,JH,JI,JJ]) | ((with_reducible (first | apply Ok.br | apply Ok.gd | apply Ok.ld)) <;> (intro g; (try simp only [ZGS] at g); try (exfalso; omega)))))
                  exact Turn.ret ⟨rfl, rfl, K9.out, .inr ⟨rfl, rfl, rfl⟩⟩
            · have hlt' : ¬ (i : Int) < (n : Int) := by omega
              have hne : Hid (st ≠ some []) := by
                refine ⟨?_⟩
                rcases hst with rfl | ⟨r, cs, rfl, hMD⟩
                · intro e; cases e
                · intro e
                  cases e
                  have hun : manyD cellD (n - i) ([] : List UInt8) = some ([], []) := by rw [show n - i = 0 by omega, manyD]
                  rw [hun] at hMD
                  have := hS'.out
                  rw [hMD] at this
                  simp at this
              have r9 := Hid.mk hrd
              have K9 := Hid.mk hkG
              clear hst hrd hkG
              (repeat' (first | (simp -implicitDefEqProofs (maxSteps := 1000000) (disch := first | assumption | omega | (simp only [ZDI]; omega)) only [*,lenV,G44,Za,Zb,Zc,Zd,Ze,Zf,Zg,Zh,Zi,Zj,Zk,Zl,Zm,Zn,Zo,Ja,Jb,Jc,J6,Jd,Je,J7,J8,Jf,Jg,Jh,Ji,Jj,Jk,J9,Jl,Jm,wr,Jn,JA,JB,Jo,Jp,Jq,Jr,Js,Jt,Ju,Jv,Jw,Jx,Jy,Jz,J0,J1,J2,J3,J4,J5,reduceCtorEq,JC,JD,JE,JF,JG,JH,JI,JJ]) | ((with_reducible (first | apply Ok.br | apply Ok.gd | apply Ok.ld)) <;> (intro g; (try simp only [ZGS] at g); try (exfalso; omega)))))
              exact Turn.exit ⟨rfl, rfl, K9.out, .inl ⟨rfl, st, r9.out, hne.out⟩⟩
          · intro y ⟨e', l', G⟩ hW ⟨kl, hkG, hcase⟩
            dsimp only at hW kl hkG hcase
            subst l'
            rw [hW.spread]
            clear hW e1 e2 e3 eN e4 eBad s1 s2
            have hq := hfin'.out G ⟨Nat.le_trans hK3'.out.1 hkG.1, fun i hi _ => by
              rw [hkG.2 i (by have := hK3'.out.1; omega) (by simp; omega)]; exact hK3'.out.2 i hi (by simp)⟩
            rcases hcase with ⟨rfl, st, hrd, hne⟩ | ⟨rfl, h2, h3⟩
            · simp only [spread_t,spread_f,spread_n,Nat.zero_add,Nat.reduceAdd]
              have eE := rdEnd_no hrd hne
              clear hrd hkG hne
              (repeat' (first | (simp -implicitDefEqProofs (maxSteps := 1000000) (disch := first | assumption | omega | (simp only [ZDI]; omega)) only [*,G44,Za,Zb,Zc,Zd,Ze,Zf,Zg,Zh,Zi,Zj,Zk,Zl,Zm,Zn,Zo,Ja,Jb,Jc,J6,Jd,Je,J7,J8,Jf,Jg,Jh,Ji,Jj,Jk,J9,Jl,Jm,wr,Jn,JA,JB,Jo,Jp,Jq,Jr,Js,Jt,Ju,Jv,Jw,Jx,Jy,Jz,J0,J1,J2,J3,J4,J5,reduceCtorEq,JC,JD,JE,JF,JG,JH,JI,JJ]) | ((with_reducible (first | apply Ok.br | apply Ok.gd | apply Ok.ld)) <;> (intro g; (try simp only [ZGS] at g); try (exfalso; omega)))))
              exact hq.out
            · simp only [spread_t,spread_f,spread_n,Nat.zero_add,Nat.reduceAdd,h2,h3]
              clear hkG
              (repeat' (first | (simp -implicitDefEqProofs (maxSteps := 1000000) (disch := first | assumption | omega | (simp only [ZDI]; omega)) only [*,G44,Za,Zb,Zc,Zd,Ze,Zf,Zg,Zh,Zi,Zj,Zk,Zl,Zm,Zn,Zo,Ja,Jb,Jc,J6,Jd,Je,J7,J8,Jf,Jg,Jh,Ji,Jj,Jk,J9,Jl,Jm,wr,Jn,JA,JB,Jo,Jp,Jq,Jr,Js,Jt,Ju,Jv,Jw,Jx,Jy,Jz,J0,J1,J2,J3,J4,J5,reduceCtorEq,JC,JD,JE,JF,JG,JH,JI,JJ]) | ((with_reducible (first | apply Ok.br | apply Ok.gd | apply Ok.ld)) <;> (intro g; (try simp only [ZGS] at g); try (exfalso; omega)))))
              exact hq.out
end Go.Ev
set_option maxRecDepth 100000
namespace Go.Ev
open Go.Proofs
theorem fits_bytesN {h : Heap} {d : Nat} {cs : List V} (hf : Fits X.ty h (d + 2) 64 cs) : ∃ v bs, cs = [v] /\ BytesIn h v bs /\ ∃ a c z, v = .sl a bs.length c z /\ bs.length <= c := by
  unfold Fits at hf
  rw [ty64] at hf
  have hmax : maxLen = 9223372036854775807 := by decide
  rw [hmax] at hf
  rcases hf with rfl | rfl | ⟨b, len, cap, full, rfl, h1, h2, h3, h4, h5, h6⟩
  · exact ⟨_, [], rfl, ⟨by simp, .inl ⟨rfl, .inl rfl⟩⟩, ⟨_, _, _, rfl, by simp⟩⟩
  · exact ⟨_, [], rfl, ⟨by simp, .inl ⟨rfl, .inr rfl⟩⟩, ⟨_, _, _, rfl, by simp⟩⟩
  · have hsz : (X.ty 5).size = 1 := by rw [ty5]
    rw [hsz] at h5 h6
    have hx : ∀ i, ∃ c : UInt8, i < cap -> full[i]? = some (.int .u8 (c.toNat : Nat)) := by
      intro i
      by_cases hi : i < cap
      · obtain ⟨c, e⟩ := fits_u8 (h6 i hi)
        refine ⟨c, fun _ => ?_⟩
        have := congrArg (fun l => l[0]?) e
        simpa using this
      · exact ⟨0, fun h' => absurd h' hi⟩
    obtain ⟨g, hg⟩ := Classical.axiomOfChoice hx
    have hlen : ((List.range len).map g).length = len := by rw [List.length_map, List.length_range]
    refine ⟨_, (List.range len).map g, rfl, ⟨by rw [hlen]; omega, .inr ⟨b, cap, full, by rw [hlen], ?_, by rw [hlen]; omega, ?_⟩⟩, ⟨_, _, _, by rw [hlen], by rw [hlen]; omega⟩⟩
    · unfold hcells; rw [h4]; exact grd_t rfl _
    · rw [hlen]
      refine List.ext_getElem? fun i => ?_
      by_cases hi : i < len
      · rw [List.getElem?_take, if_pos hi, hg i (by omega)]
        unfold bV
        rw [List.getElem?_map, List.getElem?_map, List.getElem?_range hi]
        rfl
      · rw [List.getElem?_take, if_neg hi, List.getElem?_eq_none (by rw [bV_len, hlen]; omega)]
end Go.Ev
set_option maxRecDepth 100000
namespace Go.Ev
open Go.Ev renaming exPure -> Ja, ofValue -> Jb, cellsV -> Jc, load -> Jd, store -> Je, binOp -> Jf, intOp -> Jg, rdV -> Jh, vsame -> Ji, vsames -> Jj, makeSliceV -> Jk, resV -> Jl, isCell -> Jm, nilCheckV -> Jn, allV -> Jo, builtinV -> Jp, lenV -> Jq, indexAddrV -> Jr, unOp -> Js, minmaxV -> Jt, minmax -> Ju, sliceV -> Jv, asInt -> Jw, appendV -> Jx, forkB -> Jy, roY -> Jz, rwB -> J0, copyV -> J1, clearV -> J2, convV -> J3, sliceCells -> J4, shift -> J5
open Bool renaming true -> BT, false -> BF
open Nat renaming reduceEqDiff -> J6, reduceLT -> J7, reduceAdd -> J8, reduceBEq -> J9, reduceSub -> JA, reduceMul -> JB, reduceLeDiff -> JJ
open Int renaming reduceLT -> JC, reduceLE -> JD, reduceAdd -> JE, reduceSub -> JF, reduceNeg -> JG, reduceToNat -> JH, reduceEq -> JI
open Go.Proofs
theorem newReader_nil {H : Heap} {a : SA} {c z : Nat} (ha : a = .nil \/ a = .any \/ ∃ b, a = .at b 0 0) : D X (.fn 39 []) [.sl a 0 c z] H = some (.ptr H.length 0 0, H ++ [.cells 0 true [.sl .nil 0 0 0, .int .i64 0, .bool false]]) /\
    RdAt (H ++ [.cells 0 true [.sl .nil 0 0 0, .int .i64 0, .bool false]]) H.length (.sl .nil 0 0 0) [] (some []) := by
  constructor
  · refine Ok.eq ?_
    rcases ha with rfl | rfl | ⟨b, rfl⟩
    all_goals
      (refine Ok.body body39 pin39 ?_; simp only [c39,Try.f39,Option.getD_some,nslot39,List.append_nil,List.map,List.replicate,List.length_cons,List.length_nil,Nat.reduceAdd,Nat.reduceSub,List.cons_append,List.nil_append])
      (repeat' (first | (simp -implicitDefEqProofs (maxSteps := 1000000) (disch := first | assumption | omega | (simp only [ZDI]; omega)) only [*,lenV,List.drop_zero,Nat.zero_add,Nat.mul_one,G39,Za,Zb,Zc,Zd,Ze,Zf,Zg,Zh,Zi,Zj,Zk,Zl,Zm,Zn,Zo,Ja,Jb,Jc,J6,Jd,Je,J7,J8,Jf,Jg,Jh,Ji,Jj,Jk,J9,Jl,Jm,wr,Jn,JA,JB,Jo,Jp,Jq,Jr,Js,Jt,Ju,Jv,Jw,Jx,Jy,Jz,J0,J1,J2,J3,J4,J5,reduceCtorEq,JC,JD,JE,JF,JG,JH,JI,JJ]) | ((with_reducible (first | apply Ok.br | apply Ok.gd | apply Ok.ld)) <;> (intro g; (try simp only [ZGS] at g); try (exfalso; omega)))))
  · exact ⟨.inl ⟨rfl, rfl⟩, ⟨0, Nat.zero_le _, fun r e => by cases e; rfl, hc_new⟩, by simp⟩
theorem both_read {H : Heap} {v : V} {bs : List UInt8} (hv : BytesIn H v bs) (hcap : ∃ a c z, v = .sl a bs.length c z /\ bs.length <= c) (hl : bs.length <= 5000) :
    (stoD bs = none /\ ∃ w H1 H2, D X (.fn 44 []) [v] H = some (.tup [.nilp, .int .i64 4], H1) /\ D X (.fn 45 []) [v] H1 = some (.tup [w, .bool false], H2)) \/
    ∃ b full cap p1 p2 H1 H2 b3 g3 z3 H3, v = .sl (.at b 0 0) bs.length cap 0 /\ 0 < bs.length /\ D X (.fn 44 []) [v] H = some (.tup [.ptr p1 0 0, .int .i64 0], H1) /\ D X (.fn 45 []) [v] H1 = some (.tup [.ptr p2 0 0, .bool true], H2) /\
      D X (.fn 28 []) [.ptr p1 0 0, .ptr p2 0 0] H2 = some (.bool true, H2) /\ D X (.fn 35 []) [.ptr p1 0 0] H2 = some (.sl (.at b3 g3 0) bs.length bs.length z3, H3) /\ hcells H3 b3 g3 = some (true, bV bs) /\ hcells H2 b 0 = some (false, full) /\ hcells H3 b 0 = some (false, full) /\ bs.length <= full.length /\ full.take bs.length = bV bs := by
  obtain ⟨ca, cc, cz, hve, hcl⟩ := hcap
  have hoff : OffAt H v bs := by
    refine ⟨ca, cc, cz, hve, hcl, ?_⟩
    rcases hv.2 with ⟨e, _⟩ | ⟨b, cap, full, e, h1, h2, h3⟩
    · exact .inl e
    · right
      rw [e] at hve
      simp only [V.sl.injEq] at hve
      obtain ⟨rfl, _, rfl, rfl⟩ := hve
      exact ⟨b, 0, false, full, rfl, rfl, h1, by omega, by rw [List.drop_zero]; exact h3⟩
  cases hd : stoD bs with
  | none =>
    left
    refine ⟨rfl, ?_⟩
    have hdec : ∃ H1, D X (.fn 44 []) [v] H = some (.tup [.nilp, .int .i64 4], H1) /\ Keeps [] H H1 := by
      by_cases hz : bs.length = 0
      · have hb0 : bs = [] := List.length_eq_zero_iff.1 hz
        have hform : ∃ a c z, v = .sl a 0 c z /\ (a = .nil \/ a = .any \/ ∃ b, a = .at b 0 0) := by
          rcases hv.2 with ⟨_, e | e⟩ | ⟨b, cap, full, e, _⟩
          · exact ⟨_, _, _, e, .inl rfl⟩
          · exact ⟨_, _, _, e, .inr (.inl rfl)⟩
          · exact ⟨_, _, _, by rw [e, hz], .inr (.inr ⟨b, rfl⟩)⟩
        obtain ⟨a, c, z, e, ha⟩ := hform
        obtain ⟨n1, n2⟩ := newReader_nil (H := H) (c := c) (z := z) ha
        rw [<- e] at n1
        rw [hb0] at hd
        obtain ⟨⟨y, H1⟩, e1, e2, e3⟩ := decode_bad n1 ⟨_, _, _, _, e⟩ n2 (.app _ _ _) ⟨by simp, Nat.le_refl _⟩ hd
        dsimp only at e2 e3
        subst e2
        exact ⟨H1, e1, e3⟩
      · rcases hv.2 with ⟨e, _⟩ | ⟨b, cap, full, e, h1, h2, h3⟩
        · rw [e] at hz; exact absurd rfl hz
        · obtain ⟨n1, n2⟩ := newReader_at (c := cap) (z := 0) h1 rfl h2 h3 (by omega) (by omega)
          rw [<- e] at n1
          obtain ⟨⟨y, H1⟩, e1, e2, e3⟩ := decode_bad n1 ⟨_, _, _, _, e⟩ n2 (.app _ _ _) ⟨by simp, by omega⟩ hd
          dsimp only at e2 e3
          subst e2
          exact ⟨H1, e1, e3⟩
    obtain ⟨H1, e1, hk1⟩ := hdec
    obtain ⟨⟨y2, H2⟩, e2, hk2, hcase⟩ := read_at (hoff.keep hk1.kc) (by omega)
    dsimp only at hcase
    rcases hcase with ⟨w, rfl, _⟩ | ⟨s, p, T, M, mb, _, h, _⟩
    · exact ⟨w, H1, H2, e1, e2⟩
    · rw [hd] at h; cases h
  | some s =>
    right
    obtain ⟨hs, hok, hgd⟩ := stoD_canon hd
    have hpos : 0 < bs.length := by rw [<- hs]; unfold storeE; simp only [List.length_append,List.length_cons]; omega
    rcases hv.2 with ⟨e, _⟩ | ⟨b, cap, full, e, h1, h2, h3⟩
    · rw [e] at hpos; simp at hpos
    · obtain ⟨⟨y1, H1⟩, e1, p1, c1, hy1, hst1, hk1, hp1, hc1⟩ := decode_at (s := s) (n := bs.length) (cap := cap) (z := 0) h1 h2 (by rw [hs]; exact h3) (by rw [hs]) hok hgd
      dsimp only at hy1 hst1 hk1
      subst hy1
      rw [<- e] at e1
      obtain ⟨⟨y2, H2⟩, e2, hk2, hcase⟩ := read_at (hoff.keep hk1.kc) (by omega)
      dsimp only at hk2 hcase
      rcases hcase with ⟨w, _, h⟩ | ⟨s', p2, T, M, mb, rfl, h, hrf, _⟩
      · rw [hd] at h; cases h
      · rw [hd] at h
        cases h
        have hst2 := hst1.keeps hk2 (by simp) (by simp)
        have hal := alike_at hst2 hrf
        obtain ⟨⟨y3, H3⟩, e3, b3, g3, z3, hy3, hz3, hc3, hb3, hk3⟩ := encode_at hst2 hgd
        dsimp only at hy3 hc3 hk3
        subst hy3
        rw [hs] at e3 hc3
        have hk12 : hcells H2 b 0 = some (false, full) := hk2.cells (hk1.cells h1 (by simp)) (by simp)
        have hk13 : hcells H3 b 0 = some (false, full) := hk3.cells hk12 (by simp)
        exact ⟨b, full, cap, p1, p2, H1, H2, b3, g3, z3, H3, e, hpos, e1, e2, hal, e3, hc3, hk12, hk13, h2, h3⟩
theorem BytesIn.cut {H : Heap} {v : V} {bs : List UInt8} (hv : BytesIn H v bs) (hl : 5000 < bs.length) : ∃ b cap, v = .sl (.at b 0 0) bs.length cap 0 /\ BytesIn H (.sl (.at b 0 0) 5000 cap 0) (bs.take 5000) := by
  rcases hv.2 with ⟨e, _⟩ | ⟨b, cap, full, e, h1, h2, h3⟩
  · rw [e] at hl; simp at hl
  · have hlen : (bs.take 5000).length = 5000 := by rw [List.length_take]; omega
    refine ⟨b, cap, e, by omega, .inr ⟨b, cap, full, by rw [hlen], h1, by omega, ?_⟩⟩
    rw [hlen, <- bV_cut0, <- h3, List.take_take, Nat.min_eq_left (by omega)]
set_option maxHeartbeats 32000000 in
theorem storeDecodes_at {H : Heap} {v : V} {bs : List UInt8} (hv : BytesIn H v bs) (hcap : ∃ a c z, v = .sl a bs.length c z /\ bs.length <= c) : Ev.Ok (D X (.fn 13 []) [v] H) fun y => y.1 = .bool true := by
  refine Ok.aim fun Q hQ => ?_
  have hQ' := Hid.mk hQ
  clear hQ
  have h8 := D_pin (X := X) (f := 16) (b := true) rfl
  by_cases hl : 5000 < bs.length
  · obtain ⟨b, cap, rfl, hv'⟩ := hv.cut hl
    have hlen : (bs.take 5000).length = 5000 := by rw [List.length_take]; omega
    have hc : bs.length <= cap := by
      obtain ⟨_, _, _, e, h⟩ := hcap
      simp only [V.sl.injEq] at e
      obtain ⟨_, _, rfl, _⟩ := e
      exact h
    have hl' : (5000 : Int) < (bs.length : Int) := by omega
    have hc5 : 5000 <= cap := by omega
    have hc0 : ¬ cap = 0 := by omega
    have hr := both_read hv' ⟨_, _, _, by rw [hlen], by rw [hlen]; exact hc5⟩ (by omega)
    generalize bs.take 5000 = cs at hr hlen hv'
    clear hv hcap hv' hl hc
    rcases hr with ⟨_, w, H1, H2, e1, e2⟩ | ⟨b', full, cap', p1, p2, H1, H2, b3, g3, z3, H3, e, hpos, e1, e2, e3, e4, hc3, hcb2, hcb, hfl, hft⟩
    · (refine Ok.body body13 pin13 ?_; simp only [c13,Try.f13,Option.getD_some,nslot13,List.append_nil,List.map,List.replicate,List.length_cons,List.length_nil,Nat.reduceAdd,Nat.reduceSub,List.cons_append,List.nil_append])
      (repeat' (first | (simp -implicitDefEqProofs (maxSteps := 1000000) (disch := first | assumption | omega | (simp only [ZDI]; omega)) only [*,lenV,Nat.zero_add,Nat.add_zero,Nat.mul_one,Nat.sub_zero,SA.add,optArr_s,optArr_n,Array.toList_append,eq_self,G13,Za,Zb,Zc,Zd,Ze,Zf,Zg,Zh,Zi,Zj,Zk,Zl,Zm,Zn,Zo,Ja,Jb,Jc,J6,Jd,Je,J7,J8,Jf,Jg,Jh,Ji,Jj,Jk,J9,Jl,Jm,wr,Jn,JA,JB,Jo,Jp,Jq,Jr,Js,Jt,Ju,Jv,Jw,Jx,Jy,Jz,J0,J1,J2,J3,J4,J5,reduceCtorEq,JC,JD,JE,JF,JG,JH,JI,JJ]) | ((with_reducible (first | apply Ok.br | apply Ok.gd | apply Ok.ld)) <;> (intro g; (try simp only [ZGS] at g); try (exfalso; omega)))))
      exact hQ'.out _ rfl
    · rw [hlen] at e hpos e4 hfl hft
      simp only [V.sl.injEq,SA.at.injEq] at e
      obtain ⟨⟨rfl, _, _⟩, _, rfl, _⟩ := e
      have htb := toBytes_bV cs
      have ht1 : (bV cs).take 5000 = bV cs := by rw [<- hlen]; exact bV_take _
      have hbl : 5000 <= (bV cs).length := by rw [bV_len, hlen]; exact Nat.le_refl _
      clear hlen
      (refine Ok.body body13 pin13 ?_; simp only [c13,Try.f13,Option.getD_some,nslot13,List.append_nil,List.map,List.replicate,List.length_cons,List.length_nil,Nat.reduceAdd,Nat.reduceSub,List.cons_append,List.nil_append])
      (repeat' (first | (simp -implicitDefEqProofs (maxSteps := 1000000) (disch := first | assumption | omega | (simp only [ZDI]; omega)) only [*,lenV,List.drop_zero,Nat.zero_add,Nat.add_zero,Nat.mul_one,Nat.sub_zero,SA.add,optArr_s,optArr_n,Array.toList_append,eq_self,strEq_refl,G13,Za,Zb,Zc,Zd,Ze,Zf,Zg,Zh,Zi,Zj,Zk,Zl,Zm,Zn,Zo,Ja,Jb,Jc,J6,Jd,Je,J7,J8,Jf,Jg,Jh,Ji,Jj,Jk,J9,Jl,Jm,wr,Jn,JA,JB,Jo,Jp,Jq,Jr,Js,Jt,Ju,Jv,Jw,Jx,Jy,Jz,J0,J1,J2,J3,J4,J5,reduceCtorEq,JC,JD,JE,JF,JG,JH,JI,JJ]) | ((with_reducible (first | apply Ok.br | apply Ok.gd | apply Ok.ld)) <;> (intro g; (try simp only [ZGS] at g); try (exfalso; omega)))))
      exact hQ'.out _ rfl
  · have hl' : ¬ (5000 : Int) < (bs.length : Int) := by omega
    have hr := both_read hv hcap (by omega)
    obtain ⟨ca, cc, cz, rfl, _⟩ := hcap
    clear hv hl
    rcases hr with ⟨_, w, H1, H2, e1, e2⟩ | ⟨b', full, cap', p1, p2, H1, H2, b3, g3, z3, H3, e, hpos, e1, e2, e3, e4, hc3, hcb2, hcb, hfl, hft⟩
    · (refine Ok.body body13 pin13 ?_; simp only [c13,Try.f13,Option.getD_some,nslot13,List.append_nil,List.map,List.replicate,List.length_cons,List.length_nil,Nat.reduceAdd,Nat.reduceSub,List.cons_append,List.nil_append])
      (repeat' (first | (simp -implicitDefEqProofs (maxSteps := 1000000) (disch := first | assumption | omega | (simp only [ZDI]; omega)) only [*,lenV,Nat.zero_add,Nat.add_zero,Nat.mul_one,Nat.sub_zero,SA.add,optArr_s,optArr_n,Array.toList_append,eq_self,G13,Za,Zb,Zc,Zd,Ze,Zf,Zg,Zh,Zi,Zj,Zk,Zl,Zm,Zn,Zo,Ja,Jb,Jc,J6,Jd,Je,J7,J8,Jf,Jg,Jh,Ji,Jj,Jk,J9,Jl,Jm,wr,Jn,JA,JB,Jo,Jp,Jq,Jr,Js,Jt,Ju,Jv,Jw,Jx,Jy,Jz,J0,J1,J2,J3,J4,J5,reduceCtorEq,JC,JD,JE,JF,JG,JH,JI,JJ]) | ((with_reducible (first | apply Ok.br | apply Ok.gd | apply Ok.ld)) <;> (intro g; (try simp only [ZGS] at g); try (exfalso; omega)))))
      exact hQ'.out _ rfl
    · simp only [V.sl.injEq] at e
      obtain ⟨rfl, _, rfl, rfl⟩ := e
      have htb := toBytes_bV bs
      have hne : ¬ bs.length = 0 := by omega
      (refine Ok.body body13 pin13 ?_; simp only [c13,Try.f13,Option.getD_some,nslot13,List.append_nil,List.map,List.replicate,List.length_cons,List.length_nil,Nat.reduceAdd,Nat.reduceSub,List.cons_append,List.nil_append])
      (repeat' (first | (simp -implicitDefEqProofs (maxSteps := 1000000) (disch := first | assumption | omega | (simp only [ZDI]; omega)) only [*,lenV,bV_take,bV_len,List.drop_zero,Nat.zero_add,Nat.add_zero,Nat.mul_one,Nat.sub_zero,SA.add,optArr_s,optArr_n,Array.toList_append,eq_self,strEq_refl,G13,Za,Zb,Zc,Zd,Ze,Zf,Zg,Zh,Zi,Zj,Zk,Zl,Zm,Zn,Zo,Ja,Jb,Jc,J6,Jd,Je,J7,J8,Jf,Jg,Jh,Ji,Jj,Jk,J9,Jl,Jm,wr,Jn,JA,JB,Jo,Jp,Jq,Jr,Js,Jt,Ju,Jv,Jw,Jx,Jy,Jz,J0,J1,J2,J3,J4,J5,reduceCtorEq,JC,JD,JE,JF,JG,JH,JI,JJ]) | ((with_reducible (first | apply Ok.br | apply Ok.gd | apply Ok.ld)) <;> (intro g; (try simp only [ZGS] at g); try (exfalso; omega)))))
      exact hQ'.out _ rfl
end Go.Ev
