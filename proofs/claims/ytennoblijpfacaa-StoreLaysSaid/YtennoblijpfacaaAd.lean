/-
Texts of this claim, one behind the other.
-/
import Derived.Test.YtennoblijpfacaaAc
set_option linter.unusedSimpArgs false
set_option linter.unusedVariables false
set_option maxRecDepth 100000
set_option maxRecDepth 100000
namespace Go.Ev
open Go.Ev renaming exPure -> Ja, ofValue -> Jb, cellsV -> Jc, load -> Jd, store -> Je, binOp -> Jf, intOp -> Jg, rdV -> Jh, vsame -> Ji, vsames -> Jj, makeSliceV -> Jk, resV -> Jl, isCell -> Jm, nilCheckV -> Jn, allV -> Jo, builtinV -> Jp, lenV -> Jq, indexAddrV -> Jr, unOp -> Js, minmaxV -> Jt, minmax -> Ju, sliceV -> Jv, asInt -> Jw, appendV -> Jx, forkB -> Jy, roY -> Jz, rwB -> J0, copyV -> J1, clearV -> J2, convV -> J3, sliceCells -> J4, shift -> J5
open Bool renaming true -> BT, false -> BF
open Nat renaming reduceEqDiff -> J6, reduceLT -> J7, reduceAdd -> J8, reduceBEq -> J9, reduceSub -> JA, reduceMul -> JB, reduceLeDiff -> JJ
open Int renaming reduceLT -> JC, reduceLE -> JD, reduceAdd -> JE, reduceSub -> JF, reduceNeg -> JG, reduceToNat -> JH, reduceEq -> JI
open Go.Proofs
theorem doc_step {fn : V} {args : List V} {e A : List UInt8} {H g : Heap} {b q : Nat} (hF : Ev.Ok (D X fn args g) (Bys g e)) (hk : Keeps [] H g) (hb : H.length <= b) (hc : hcells g b q = some (true, bV A)) :
    ∃ c r z g', D X fn args g = some (.sl (.at c r 0) e.length e.length z, g') /\ hcells g' c r = some (true, bV e) /\ hcells g' b q = some (true, bV A) /\ b < g'.length /\ c < g'.length /\ Keeps [] H g' /\
      ∀ A', A' = A ++ e -> bV A ++ bV e = bV A' /\ A.length + e.length = A'.length /\ hcells (g'.set b (.cells (q + 1) true (bV A'))) b (q + 1) = some (true, bV A') /\ Keeps [] H (g'.set b (.cells (q + 1) true (bV A'))) := by
  obtain ⟨⟨v, g'⟩, e1, c, r, z, hv, hz, h1, h2, h3⟩ := hF
  dsimp only at hv h1 h3
  subst hv
  have h4 := h3.cells hc (by simp)
  have h5 := hcells_lt h4
  have h6 := hk.trans ⟨h3.1, h3.2⟩
  refine ⟨c, r, z, g', e1, h1, h4, h5, hcells_lt h1, h6, fun A' e => ?_⟩
  subst e
  exact ⟨(bV_app _ _).symm, (List.length_append).symm, hcells_set_eq h5, h6.set (.inr hb) _⟩
set_option maxHeartbeats 16000000 in
theorem rCmdLay_at {H : Heap} {v : V} {l : List ByteArray} (hr : StrsAt H v l) {o c q f t : Int} (ho : 0 <= o /\ o < 256) (hc : In64' c) (hq : In64' q) (hf : In64' f) (ht : In64' t) (hll : l.length <= 5000) (hsum : sumE l < 1000000000) :
    Ev.Ok (D X (.fn 38 []) [.agg [.int .i64 o, .int .i64 c, .int .i64 q, .int .i64 f, .int .i64 t, v]] H) (Bys H (cmdE o c q f t l)) := by
  refine Ok.aim fun Q hQ => ?_
  have hQ' := Hid.mk hQ
  clear hQ
  have hwo : IntKind.u8.wrap o = ((UInt8.ofNat o.toNat).toNat : Nat) := by
    obtain ⟨m, rfl⟩ : ∃ m : Nat, o = m := ⟨o.toNat, by omega⟩
    rw [wrap8, Int.toNat_natCast, UInt8.toNat_ofNat']
  have hl1 := intE_len hc
  have hl2 := intE_len hq
  have hl3 := intE_len hf
  have hl4 := intE_len ht
  have hp1 := intE_pos c
  have hp2 := intE_pos q
  have hp3 := intE_pos f
  have hp4 := intE_pos t
  have hp5 := numE_pos l.length
  have hl5 := numE_len (n := l.length) (by omega)
  have hu := wrapU (n := (l.length : Int)) (by omega)
  obtain ⟨⟨v1, H1⟩, e1, c1, r1, z1, hv1, hz1, hc1, hb1, hk1⟩ := rInt_at (H := H ++ [.cells 0 true [.int .u8 ((UInt8.ofNat o.toNat).toNat : Nat)]]) hc
  dsimp only at hv1 hc1 hk1
  subst hv1
  have hx1 := hk1.cells hc_new (by simp)
  have hxl1 := hcells_lt hx1
  have hcl1 := hcells_lt hc1
  have hK1 : Keeps [] H H1 := (Keeps.app [] H _).trans hk1
  obtain ⟨A1, hA1⟩ : ∃ A, A = UInt8.ofNat o.toNat :: intE c := ⟨_, rfl⟩
  have hA1' : V.int .u8 ((UInt8.ofNat o.toNat).toNat : Nat) :: bV (intE c) = bV A1 := by rw [hA1]; rfl
  have hn1 : 1 + (intE c).length = A1.length := by rw [hA1, List.length_cons, Nat.add_comm]
  have ha1 : hcells (H1 ++ [.cells 0 true (bV A1)]) H1.length 0 = some (true, bV A1) := hc_new
  obtain ⟨c2, r2, z2, H2, e2, hc2, hx2, hxl2, hcl2, hK2, hs2⟩ := doc_step (rInt_at hq) (hK1.snoc [.cells 0 true (bV A1)]) hK1.1 ha1
  obtain ⟨A2, hA2⟩ : ∃ A, A = A1 ++ intE q := ⟨_, rfl⟩
  obtain ⟨hA2', hn2, ha2, hKa2⟩ := hs2 A2 hA2
  obtain ⟨c3, r3, z3, H3, e3, hc3, hx3, hxl3, hcl3, hK3, hs3⟩ := doc_step (rInt_at hf) hKa2 hK1.1 ha2
  obtain ⟨A3, hA3⟩ : ∃ A, A = A2 ++ intE f := ⟨_, rfl⟩
  obtain ⟨hA3', hn3, ha3, hKa3⟩ := hs3 A3 hA3
  obtain ⟨c4, r4, z4, H4, e4, hc4, hx4, hxl4, hcl4, hK4, hs4⟩ := doc_step (rInt_at ht) hKa3 hK1.1 ha3
  obtain ⟨A4, hA4⟩ : ∃ A, A = A3 ++ intE t := ⟨_, rfl⟩
  obtain ⟨hA4', hn4, ha4, hKa4⟩ := hs4 A4 hA4
  obtain ⟨c5, r5, z5, H5, e5, hc5, hx5, hxl5, hcl5, hK5, hs5⟩ := doc_step (rNum_at (n := l.length) (by omega)) hKa4 hK1.1 ha4
  obtain ⟨A5, hA5⟩ : ∃ A, A = A4 ++ numE l.length := ⟨_, rfl⟩
  obtain ⟨hA5', hn5, ha5, hKa5⟩ := hs5 A5 hA5
  have hcmd : Hid (A5 ++ textsE l = cmdE o c q f t l) := ⟨by rw [hA5, hA4, hA3, hA2, hA1]; unfold cmdE; simp only [List.append_assoc,List.cons_append,List.nil_append]⟩
  have hle5 : A5.length <= 100 := by omega
  have hm1 : ¬ (intE c).length = 0 := by omega
  have hm2 : ¬ (intE q).length = 0 := by omega
  have hm3 : ¬ (intE f).length = 0 := by omega
  have hm4 : ¬ (intE t).length = 0 := by omega
  have hm5 : ¬ (numE l.length).length = 0 := by omega
  have hd1 : ¬ A1.length <= 1 := by omega
  have hd2 : ¬ A2.length <= A1.length := by omega
  have hd3 : ¬ A3.length <= A2.length := by omega
  have hd4 : ¬ A4.length <= A3.length := by omega
  have hd5 : ¬ A5.length <= A4.length := by omega
  have hM1 : A1.length * 1 <= 35184372088832 /\ A1.length <= 35184372088832 := by omega
  have hM2 : A2.length * 1 <= 35184372088832 /\ A2.length <= 35184372088832 := by omega
  have hM3 : A3.length * 1 <= 35184372088832 /\ A3.length <= 35184372088832 := by omega
  have hM4 : A4.length * 1 <= 35184372088832 /\ A4.length <= 35184372088832 := by omega
  have hM5 : A5.length * 1 <= 35184372088832 /\ A5.length <= 35184372088832 := by omega
  have hb1' := Hid.mk hK1.1
  have ha5' := Hid.mk ha5
  have hKa5' := Hid.mk hKa5
  clear hs2 hs3 hs4 hs5 hA1 hA2 hA3 hA4 hA5 ha1 ha2 ha3 ha4 ha5 hK1 hK2 hK3 hK4 hK5 hKa2 hKa3 hKa4 hKa5 hk1 hb1 hz1
  obtain ⟨a, cap, z, rfl, h1, _, h2⟩ := hr
  (refine Ok.body body38 pin38 ?_; simp only [c38,Try.f38,Option.getD_some,nslot38,List.append_nil,List.map,List.replicate,List.length_cons,List.length_nil,Nat.reduceAdd,Nat.reduceSub,List.cons_append,List.nil_append])
  (repeat' (first | (simp -implicitDefEqProofs (maxSteps := 1000000) (disch := first | assumption | omega | (simp only [ZDI]; omega)) only [*,lenV,bV_take,bV_len,List.drop_zero,Nat.zero_add,Nat.mul_one,G38,Za,Zb,Zc,Zd,Ze,Zf,Zg,Zh,Zi,Zj,Zk,Zl,Zm,Zn,Zo,Ja,Jb,Jc,J6,Jd,Je,J7,J8,Jf,Jg,Jh,Ji,Jj,Jk,J9,Jl,Jm,wr,Jn,JA,JB,Jo,Jp,Jq,Jr,Js,Jt,Ju,Jv,Jw,Jx,Jy,Jz,J0,J1,J2,J3,J4,J5,reduceCtorEq,JC,JD,JE,JF,JG,JH,JI,JJ]) | ((with_reducible (first | apply Ok.br | apply Ok.gd | apply Ok.ld)) <;> (intro g; (try simp only [ZGS] at g); try (exfalso; omega)))))
  refine Ok.unroll ?_
  (repeat' (first | (simp -implicitDefEqProofs (maxSteps := 1000000) (disch := first | assumption | omega | (simp only [ZDI]; omega)) only [*,lenV,bV_take,bV_len,List.drop_zero,Nat.zero_add,Nat.mul_one,G38,Za,Zb,Zc,Zd,Ze,Zf,Zg,Zh,Zi,Zj,Zk,Zl,Zm,Zn,Zo,Ja,Jb,Jc,J6,Jd,Je,J7,J8,Jf,Jg,Jh,Ji,Jj,Jk,J9,Jl,Jm,wr,Jn,JA,JB,Jo,Jp,Jq,Jr,Js,Jt,Ju,Jv,Jw,Jx,Jy,Jz,J0,J1,J2,J3,J4,J5,reduceCtorEq,JC,JD,JE,JF,JG,JH,JI,JJ]) | ((with_reducible (first | apply Ok.br | apply Ok.gd | apply Ok.ld)) <;> (intro g; (try simp only [ZGS] at g); try (exfalso; omega)))))
  refine Ok.unroll ?_
  (repeat' (first | (simp -implicitDefEqProofs (maxSteps := 1000000) (disch := first | assumption | omega | (simp only [ZDI]; omega)) only [*,lenV,bV_take,bV_len,List.drop_zero,Nat.zero_add,Nat.mul_one,G38,Za,Zb,Zc,Zd,Ze,Zf,Zg,Zh,Zi,Zj,Zk,Zl,Zm,Zn,Zo,Ja,Jb,Jc,J6,Jd,Je,J7,J8,Jf,Jg,Jh,Ji,Jj,Jk,J9,Jl,Jm,wr,Jn,JA,JB,Jo,Jp,Jq,Jr,Js,Jt,Ju,Jv,Jw,Jx,Jy,Jz,J0,J1,J2,J3,J4,J5,reduceCtorEq,JC,JD,JE,JF,JG,JH,JI,JJ]) | ((with_reducible (first | apply Ok.br | apply Ok.gd | apply Ok.ld)) <;> (intro g; (try simp only [ZGS] at g); try (exfalso; omega)))))
  refine Ok.unroll ?_
  (repeat' (first | (simp -implicitDefEqProofs (maxSteps := 1000000) (disch := first | assumption | omega | (simp only [ZDI]; omega)) only [*,lenV,bV_take,bV_len,List.drop_zero,Nat.zero_add,Nat.mul_one,G38,Za,Zb,Zc,Zd,Ze,Zf,Zg,Zh,Zi,Zj,Zk,Zl,Zm,Zn,Zo,Ja,Jb,Jc,J6,Jd,Je,J7,J8,Jf,Jg,Jh,Ji,Jj,Jk,J9,Jl,Jm,wr,Jn,JA,JB,Jo,Jp,Jq,Jr,Js,Jt,Ju,Jv,Jw,Jx,Jy,Jz,J0,J1,J2,J3,J4,J5,reduceCtorEq,JC,JD,JE,JF,JG,JH,JI,JJ]) | ((with_reducible (first | apply Ok.br | apply Ok.gd | apply Ok.ld)) <;> (intro g; (try simp only [ZGS] at g); try (exfalso; omega)))))
  refine Ok.unroll ?_
  (repeat' (first | (simp -implicitDefEqProofs (maxSteps := 1000000) (disch := first | assumption | omega | (simp only [ZDI]; omega)) only [*,lenV,bV_take,bV_len,List.drop_zero,Nat.zero_add,Nat.mul_one,G38,Za,Zb,Zc,Zd,Ze,Zf,Zg,Zh,Zi,Zj,Zk,Zl,Zm,Zn,Zo,Ja,Jb,Jc,J6,Jd,Je,J7,J8,Jf,Jg,Jh,Ji,Jj,Jk,J9,Jl,Jm,wr,Jn,JA,JB,Jo,Jp,Jq,Jr,Js,Jt,Ju,Jv,Jw,Jx,Jy,Jz,J0,J1,J2,J3,J4,J5,reduceCtorEq,JC,JD,JE,JF,JG,JH,JI,JJ]) | ((with_reducible (first | apply Ok.br | apply Ok.gd | apply Ok.ld)) <;> (intro g; (try simp only [ZGS] at g); try (exfalso; omega)))))
  refine Ok.unroll ?_
  (repeat' (first | (simp -implicitDefEqProofs (maxSteps := 1000000) (disch := first | assumption | omega | (simp only [ZDI]; omega)) only [*,lenV,bV_take,bV_len,List.drop_zero,Nat.zero_add,Nat.mul_one,G38,Za,Zb,Zc,Zd,Ze,Zf,Zg,Zh,Zi,Zj,Zk,Zl,Zm,Zn,Zo,Ja,Jb,Jc,J6,Jd,Je,J7,J8,Jf,Jg,Jh,Ji,Jj,Jk,J9,Jl,Jm,wr,Jn,JA,JB,Jo,Jp,Jq,Jr,Js,Jt,Ju,Jv,Jw,Jx,Jy,Jz,J0,J1,J2,J3,J4,J5,reduceCtorEq,JC,JD,JE,JF,JG,JH,JI,JJ]) | ((with_reducible (first | apply Ok.br | apply Ok.gd | apply Ok.ld)) <;> (intro g; (try simp only [ZGS] at g); try (exfalso; omega)))))
  clear e1 hc1 hx1 hxl1 hcl1 hA1' hn1 e2 hc2 hx2 hxl2 hcl2 hA2' hn2 e3 hc3 hx3 hxl3 hcl3 hA3' hn3 e4 hc4 hx4 hxl4 hcl4 hA4' hn4 e5 hc5 hx5 hcl5 hA5' hn5 hm1 hm2 hm3 hm4 hm5 hd1 hd2 hd3 hd4 hd5 hM1 hM2 hM3 hM4 hM5 hwo hu
  refine Ok.loop [BF, BF, BF, BT, BF, BF, BF, BT, BF, BF, BF, BF, BF, BF, BF, BF, BF, BF, BF, BF, BF, BF, BF, BF, BF, BF, BF, BF, BF, BF, BF, BF, BF, BF, BF, BF, BF, BF, BF, BF, BF, BT, BT, BT, BT, BT, BT, BT, BT, BT, BF] (fun n s2 => ∃ (i q' : Nat) (A : List UInt8) (y1 y2 : Nat × List V), n = l.length - i /\ i <= l.length /\ tv s2.e 41 = .v (.int .i64 i) /\ tv s2.e 3 = .v (.sl (.at H1.length q' 0) A.length A.length 1) /\ s2.l = [y1, y2] /\ A = A5 ++ textsE (l.take i) /\ hcells s2.h H1.length q' = some (true, bV A) /\ Keeps [] H s2.h)
    (fun y s2 => y = .exit 2 /\ ∃ (q' : Nat) (A : List UInt8) (y1 y2 : Nat × List V), tv s2.e 3 = .v (.sl (.at H1.length q' 0) A.length A.length 1) /\ s2.l = [y1, y2] /\ A = A5 ++ textsE l /\ hcells s2.h H1.length q' = some (true, bV A) /\ Keeps [] H s2.h)
    (l.length - 0) ⟨0, _, A5, _, _, rfl, Nat.zero_le _, rfl, rfl, rfl, by simp [textsE], ha5'.out, hKa5'.out⟩ ?_ ?_
  · intro n ⟨e', l', g⟩ hW ⟨i, q', A, y1, y2, hm, hi, h41, h3, k2, hA, hcA, hkg⟩
    dsimp only at hW h41 h3 k2 hcA hkg
    subst l'
    rw [hW.spread]
    simp only [spread_t,spread_f,spread_n,Nat.zero_add,Nat.reduceAdd,h41,h3]
    clear hW hQ'
    by_cases hlt : i < l.length
    · have hlt' : (i : Int) < (l.length : Int) := by omega
      have g1 : 0 <= (i : Int) /\ (i : Int) < (l.length : Int) := by omega
      rcases h2 with rfl | ⟨bb, qq, oo, rw, full, rfl, hbc, hfull⟩
      · simp at hlt
      · obtain ⟨s, hs⟩ : ∃ k, l[i]? = some k := ⟨_, List.getElem?_eq_getElem hlt⟩
        have hf := hfull i _ hs
        have hbc2 := hkg.cells hbc (by simp)
        have hrl := textsE_len (l.take i)
        have hsm := sumE_at hs
        have hsz : sumE (l.take i) <= sumE l := by omega
        rw [List.length_take] at hrl
        have hte := textE_len s
        have htp : 0 < (textE s).length := by unfold textE; rw [List.length_append]; have := numE_pos s.size; omega
        have hAl : A.length <= 100 + 2 * 1000000000 + 5000 := by rw [hA, List.length_append]; omega
        obtain ⟨c6, r6, z6, H6, e6, hc6, hx6, hxl6, hcl6, hK6, hs6⟩ := doc_step (rText_at (s := s) (by omega)) hkg hb1'.out hcA
        obtain ⟨A6, hA6⟩ : ∃ B, B = A ++ textE s := ⟨_, rfl⟩
        obtain ⟨hA6', hn6, ha6, hKa6⟩ := hs6 A6 hA6
        have hAn : Hid (A6 = A5 ++ textsE (l.take (i + 1))) := ⟨by rw [hA6, hA, List.append_assoc, textsE_snoc hs]⟩
        have ha6' := Hid.mk ha6
        have hKa6' := Hid.mk hKa6
        have hm6 : ¬ (textE s).length = 0 := by omega
        have hd6 : ¬ A6.length <= A.length := by omega
        have hM6 : A6.length * 1 <= 35184372088832 /\ A6.length <= 35184372088832 := by omega
        clear hfull hs hbc hs6 ha6 hKa6 hK6 hA6 hA hcA hkg hrl hsm hsz hte
        (repeat' (first | (simp -implicitDefEqProofs (maxSteps := 1000000) (disch := first | assumption | omega | (simp only [ZDI]; omega)) only [*,lenV,bV_take,bV_len,List.drop_zero,Nat.zero_add,Nat.mul_one,G38,Za,Zb,Zc,Zd,Ze,Zf,Zg,Zh,Zi,Zj,Zk,Zl,Zm,Zn,Zo,Ja,Jb,Jc,J6,Jd,Je,J7,J8,Jf,Jg,Jh,Ji,Jj,Jk,J9,Jl,Jm,wr,Jn,JA,JB,Jo,Jp,Jq,Jr,Js,Jt,Ju,Jv,Jw,Jx,Jy,Jz,J0,J1,J2,J3,J4,J5,reduceCtorEq,JC,JD,JE,JF,JG,JH,JI,JJ]) | ((with_reducible (first | apply Ok.br | apply Ok.gd | apply Ok.ld)) <;> (intro g; (try simp only [ZGS] at g); try (exfalso; omega)))))
        exact Turn.next (l.length - (i + 1)) (by omega) ⟨rfl, i + 1, _, A6, _, _, rfl, by omega, rfl, rfl, rfl, hAn.out, ha6'.out, hKa6'.out⟩
    · have hlt' : ¬ (i : Int) < (l.length : Int) := by omega
      rw [List.take_of_length_le (by omega)] at hA
      have hA' := Hid.mk hA
      have hc' := Hid.mk hcA
      have hk' := Hid.mk hkg
      clear hA hcA hkg
      (repeat' (first | (simp -implicitDefEqProofs (maxSteps := 1000000) (disch := first | assumption | omega | (simp only [ZDI]; omega)) only [*,lenV,G38,Za,Zb,Zc,Zd,Ze,Zf,Zg,Zh,Zi,Zj,Zk,Zl,Zm,Zn,Zo,Ja,Jb,Jc,J6,Jd,Je,J7,J8,Jf,Jg,Jh,Ji,Jj,Jk,J9,Jl,Jm,wr,Jn,JA,JB,Jo,Jp,Jq,Jr,Js,Jt,Ju,Jv,Jw,Jx,Jy,Jz,J0,J1,J2,J3,J4,J5,reduceCtorEq,JC,JD,JE,JF,JG,JH,JI,JJ]) | ((with_reducible (first | apply Ok.br | apply Ok.gd | apply Ok.ld)) <;> (intro g; (try simp only [ZGS] at g); try (exfalso; omega)))))
      exact Turn.exit ⟨rfl, rfl, q', A, _, _, rfl, rfl, hA'.out, hc'.out, hk'.out⟩
  · intro y ⟨e', l', g⟩ hW ⟨hy, q', A, y1, y2, h3, k2, hA, hcA, hkg⟩
    dsimp only at hW h3 k2 hcA hkg
    subst l' hy
    rw [hW.spread]
    clear hW
    simp only [spread_t,spread_f,spread_n,Nat.zero_add,Nat.reduceAdd,h3]
    have hq := Hid.mk (hQ'.out (.sl (.at H1.length q' 0) A.length A.length 1, g) ⟨H1.length, q', 1, by rw [<- hcmd.out, <- hA], .inr rfl, by rw [<- hcmd.out, <- hA]; exact hcA, hb1'.out, hkg⟩)
    clear hQ' hcA hkg hA
    (repeat' (first | (simp -implicitDefEqProofs (maxSteps := 1000000) (disch := first | assumption | omega | (simp only [ZDI]; omega)) only [*,G38,Za,Zb,Zc,Zd,Ze,Zf,Zg,Zh,Zi,Zj,Zk,Zl,Zm,Zn,Zo,Ja,Jb,Jc,J6,Jd,Je,J7,J8,Jf,Jg,Jh,Ji,Jj,Jk,J9,Jl,Jm,wr,Jn,JA,JB,Jo,Jp,Jq,Jr,Js,Jt,Ju,Jv,Jw,Jx,Jy,Jz,J0,J1,J2,J3,J4,J5,reduceCtorEq,JC,JD,JE,JF,JG,JH,JI,JJ]) | ((with_reducible (first | apply Ok.br | apply Ok.gd | apply Ok.ld)) <;> (intro g; (try simp only [ZGS] at g); try (exfalso; omega)))))
    exact hq.out
end Go.Ev
set_option maxRecDepth 100000
namespace Go.Ev
open Go.Ev renaming exPure -> Ja, ofValue -> Jb, cellsV -> Jc, load -> Jd, store -> Je, binOp -> Jf, intOp -> Jg, rdV -> Jh, vsame -> Ji, vsames -> Jj, makeSliceV -> Jk, resV -> Jl, isCell -> Jm, nilCheckV -> Jn, allV -> Jo, builtinV -> Jp, lenV -> Jq, indexAddrV -> Jr, unOp -> Js, minmaxV -> Jt, minmax -> Ju, sliceV -> Jv, asInt -> Jw, appendV -> Jx, forkB -> Jy, roY -> Jz, rwB -> J0, copyV -> J1, clearV -> J2, convV -> J3, sliceCells -> J4, shift -> J5
open Bool renaming true -> BT, false -> BF
open Nat renaming reduceEqDiff -> J6, reduceLT -> J7, reduceAdd -> J8, reduceBEq -> J9, reduceSub -> JA, reduceMul -> JB, reduceLeDiff -> JJ
open Int renaming reduceLT -> JC, reduceLE -> JD, reduceAdd -> JE, reduceSub -> JF, reduceNeg -> JG, reduceToNat -> JH, reduceEq -> JI
open Go.Proofs
def KeptAt (H : Heap) (p : Nat) (v : V) (bs : List UInt8) : Prop := (bs = [] /\ v = .sl .nil 0 0 0) \/ ∃ b, b ≠ p /\ v = .sl (.at b 0 0) bs.length bs.length 1 /\ hcells H b 0 = some (true, bV bs)
structure RdAt (H : Heap) (p : Nat) (v : V) (bs : List UInt8) (st : Option (List UInt8)) : Prop where
  kept : KeptAt H p v bs
  cells : ∃ k : Nat, k <= bs.length /\ (∀ r, st = some r -> r = bs.drop k) /\ hcells H p 0 = some (true, [v, .int .i64 k, .bool st.isNone])
  room : bs.length < 35184372088832
theorem KeptAt.form {H : Heap} {p : Nat} {v : V} {bs : List UInt8} (h : KeptAt H p v bs) : ∃ a c z, v = .sl a bs.length c z := by
  rcases h with ⟨rfl, rfl⟩ | ⟨b, _, rfl, _⟩
  · exact ⟨_, _, _, rfl⟩
  · exact ⟨_, _, _, rfl⟩
theorem KeptAt.keep {H H' : Heap} {p : Nat} {v : V} {bs : List UInt8} (h : KeptAt H p v bs) (hk : Keeps [p] H H') : KeptAt H' p v bs := by
  rcases h with h | ⟨b, h1, h2, h3⟩
  · exact .inl h
  · exact .inr ⟨b, h1, h2, hk.cells h3 (by simpa using h1)⟩
theorem RdAt.keep {H H' : Heap} {p : Nat} {v : V} {bs : List UInt8} {st : Option (List UInt8)} (h : RdAt H p v bs st) (hk : Keeps [] H H') : RdAt H' p v bs st := by
  obtain ⟨k, h1, h2, h3⟩ := h.cells
  exact ⟨h.kept.keep (hk.mono fun _ _ h => by simp at h), ⟨k, h1, h2, hk.cells h3 (by simp)⟩, h.room⟩
def leftN : Option (List UInt8) -> Nat
  | none => 0
  | some r => r.length
theorem rdBad_at {H : Heap} {p : Nat} {v : V} {bs : List UInt8} {st : Option (List UInt8)} (h : RdAt H p v bs st) : D X (.fn 43 []) [.ptr p 0 0] H = some (.bool st.isNone, H) := by
  obtain ⟨k, _, _, h1⟩ := h.cells
  clear h
  generalize st.isNone = q at h1 ⊢
  refine Ok.eq ?_
  (refine Ok.body body43 pin43 ?_; simp only [c43,Try.f43,Option.getD_some,nslot43,List.append_nil,List.map,List.replicate,List.length_cons,List.length_nil,Nat.reduceAdd,Nat.reduceSub,List.cons_append,List.nil_append])
  (repeat' (first | (simp -implicitDefEqProofs (maxSteps := 1000000) (disch := first | assumption | omega | (simp only [ZDI]; omega)) only [*,G43,Za,Zb,Zc,Zd,Ze,Zf,Zg,Zh,Zi,Zj,Zk,Zl,Zm,Zn,Zo,Ja,Jb,Jc,J6,Jd,Je,J7,J8,Jf,Jg,Jh,Ji,Jj,Jk,J9,Jl,Jm,wr,Jn,JA,JB,Jo,Jp,Jq,Jr,Js,Jt,Ju,Jv,Jw,Jx,Jy,Jz,J0,J1,J2,J3,J4,J5,reduceCtorEq,JC,JD,JE,JF,JG,JH,JI,JJ]) | ((with_reducible (first | apply Ok.br | apply Ok.gd | apply Ok.ld)) <;> (intro g; (try simp only [ZGS] at g); try (exfalso; omega)))))
theorem rdLeft_at {H : Heap} {p : Nat} {v : V} {bs : List UInt8} {st : Option (List UInt8)} (h : RdAt H p v bs st) : D X (.fn 42 []) [.ptr p 0 0] H = some (.int .i64 (leftN st : Nat), H) := by
  have hb := rdBad_at h
  obtain ⟨k, hk, hr, h1⟩ := h.cells
  obtain ⟨a, c, z, rfl⟩ := h.kept.form
  have hroom := h.room
  clear h
  refine Ok.eq ?_
  cases st with
  | none =>
    simp only [Option.isNone_none] at hb h1
    clear hr
    show Ev.Ok (D X (.fn 42 []) [.ptr p 0 0] H) fun x => x = (.int .i64 0, H)
    (refine Ok.body body42 pin42 ?_; simp only [c42,Try.f42,Option.getD_some,nslot42,List.append_nil,List.map,List.replicate,List.length_cons,List.length_nil,Nat.reduceAdd,Nat.reduceSub,List.cons_append,List.nil_append])
    (repeat' (first | (simp -implicitDefEqProofs (maxSteps := 1000000) (disch := first | assumption | omega | (simp only [ZDI]; omega)) only [*,G42,Za,Zb,Zc,Zd,Ze,Zf,Zg,Zh,Zi,Zj,Zk,Zl,Zm,Zn,Zo,Ja,Jb,Jc,J6,Jd,Je,J7,J8,Jf,Jg,Jh,Ji,Jj,Jk,J9,Jl,Jm,wr,Jn,JA,JB,Jo,Jp,Jq,Jr,Js,Jt,Ju,Jv,Jw,Jx,Jy,Jz,J0,J1,J2,J3,J4,J5,reduceCtorEq,JC,JD,JE,JF,JG,JH,JI,JJ]) | ((with_reducible (first | apply Ok.br | apply Ok.gd | apply Ok.ld)) <;> (intro g; (try simp only [ZGS] at g); try (exfalso; omega)))))
  | some r =>
    simp only [Option.isNone_some] at hb h1
    have e := hr r rfl
    subst e
    have hl : (bs.length : Int) - (k : Int) = ((leftN (some (bs.drop k)) : Nat) : Int) := by
      show _ = (((bs.drop k).length : Nat) : Int)
      rw [List.length_drop]; omega
    generalize leftN (some (bs.drop k)) = m at hl ⊢
    clear hr
    (refine Ok.body body42 pin42 ?_; simp only [c42,Try.f42,Option.getD_some,nslot42,List.append_nil,List.map,List.replicate,List.length_cons,List.length_nil,Nat.reduceAdd,Nat.reduceSub,List.cons_append,List.nil_append])
    (repeat' (first | (simp -implicitDefEqProofs (maxSteps := 1000000) (disch := first | assumption | omega | (simp only [ZDI]; omega)) only [*,lenV,G42,Za,Zb,Zc,Zd,Ze,Zf,Zg,Zh,Zi,Zj,Zk,Zl,Zm,Zn,Zo,Ja,Jb,Jc,J6,Jd,Je,J7,J8,Jf,Jg,Jh,Ji,Jj,Jk,J9,Jl,Jm,wr,Jn,JA,JB,Jo,Jp,Jq,Jr,Js,Jt,Ju,Jv,Jw,Jx,Jy,Jz,J0,J1,J2,J3,J4,J5,reduceCtorEq,JC,JD,JE,JF,JG,JH,JI,JJ]) | ((with_reducible (first | apply Ok.br | apply Ok.gd | apply Ok.ld)) <;> (intro g; (try simp only [ZGS] at g); try (exfalso; omega)))))
theorem rdFail_at {H : Heap} {p : Nat} {v : V} {bs : List UInt8} {st : Option (List UInt8)} (h : RdAt H p v bs st) : D X (.fn 84 []) [.ptr p 0 0] H = some (.tup [], H.set p (.cells 0 true [v, .int .i64 bs.length, .bool true])) := by
  obtain ⟨k, hk, hr, h1⟩ := h.cells
  obtain ⟨a, c, z, rfl⟩ := h.kept.form
  have hp := hcells_lt h1
  clear h hr
  generalize st.isNone = q at h1
  refine Ok.eq ?_
  (refine Ok.body body84 pin84 ?_; simp only [c84,Try.f84,Option.getD_some,nslot84,List.append_nil,List.map,List.replicate,List.length_cons,List.length_nil,Nat.reduceAdd,Nat.reduceSub,List.cons_append,List.nil_append])
  (repeat' (first | (simp -implicitDefEqProofs (maxSteps := 1000000) (disch := first | assumption | omega | (simp only [ZDI]; omega)) only [*,lenV,G84,Za,Zb,Zc,Zd,Ze,Zf,Zg,Zh,Zi,Zj,Zk,Zl,Zm,Zn,Zo,Ja,Jb,Jc,J6,Jd,Je,J7,J8,Jf,Jg,Jh,Ji,Jj,Jk,J9,Jl,Jm,wr,Jn,JA,JB,Jo,Jp,Jq,Jr,Js,Jt,Ju,Jv,Jw,Jx,Jy,Jz,J0,J1,J2,J3,J4,J5,reduceCtorEq,JC,JD,JE,JF,JG,JH,JI,JJ]) | ((with_reducible (first | apply Ok.br | apply Ok.gd | apply Ok.ld)) <;> (intro g; (try simp only [ZGS] at g); try (exfalso; omega)))))
theorem RdAt.fail {H : Heap} {p : Nat} {v : V} {bs : List UInt8} {st : Option (List UInt8)} (h : RdAt H p v bs st) : RdAt (H.set p (.cells 0 true [v, .int .i64 bs.length, .bool true])) p v bs none /\ Keeps [p] H (H.set p (.cells 0 true [v, .int .i64 bs.length, .bool true])) := by
  obtain ⟨k, hk, hr, h1⟩ := h.cells
  have hK : Keeps [p] H (H.set p (.cells 0 true [v, .int .i64 bs.length, .bool true])) := (Keeps.refl _ _).set (.inl (by simp)) _
  exact ⟨⟨h.kept.keep hK, ⟨bs.length, Nat.le_refl _, (fun r h => by cases h), hcells_set_eq (hcells_lt h1)⟩, h.room⟩, hK⟩
abbrev Dec (α : Type) := List UInt8 -> Option (α × List UInt8)
def Took {α : Type} (dec : Dec α) (d : α) (f : α -> V) (p : Nat) (v : V) (bs : List UInt8) (st : Option (List UInt8)) (H : Heap) (y : V × Heap) : Prop :=
  y.1 = f (((st.bind dec).map (·.1)).getD d) /\ RdAt y.2 p v bs ((st.bind dec).map (·.2)) /\ Keeps [p] H y.2
def byteD : Dec UInt8
  | [] => none
  | c :: r => some (c, r)
set_option maxHeartbeats 4000000 in
theorem rdByte_at {H : Heap} {p : Nat} {v : V} {bs : List UInt8} {st : Option (List UInt8)} (h : RdAt H p v bs st) : Ev.Ok (D X (.fn 69 []) [.ptr p 0 0] H) (Took byteD 0 (fun c => .int .u8 (c.toNat : Nat)) p v bs st H) := by
  refine Ok.aim fun Q hQ => ?_
  have hQ' := Hid.mk hQ
  clear hQ
  have hl := rdLeft_at h
  have hf := rdFail_at h
  obtain ⟨f1, f2⟩ := h.fail
  by_cases hz : leftN st = 0
  · have hst : st.bind byteD = none := by
      cases st with
      | none => rfl
      | some r =>
        have : r = [] := List.length_eq_zero_iff.1 hz
        subst this; rfl
    have hfin : Hid (Q (.int .u8 0, H.set p (.cells 0 true [v, .int .i64 bs.length, .bool true]))) := ⟨hQ'.out _ ⟨by rw [hst]; rfl, by rw [hst]; exact f1, f2⟩⟩
    rw [hz] at hl
    clear hQ' h f1 f2 hst hz
    (refine Ok.body body69 pin69 ?_; simp only [c69,Try.f69,Option.getD_some,nslot69,List.append_nil,List.map,List.replicate,List.length_cons,List.length_nil,Nat.reduceAdd,Nat.reduceSub,List.cons_append,List.nil_append])
    (repeat' (first | (simp -implicitDefEqProofs (maxSteps := 1000000) (disch := first | assumption | omega | (simp only [ZDI]; omega)) only [*,G69,Za,Zb,Zc,Zd,Ze,Zf,Zg,Zh,Zi,Zj,Zk,Zl,Zm,Zn,Zo,Ja,Jb,Jc,J6,Jd,Je,J7,J8,Jf,Jg,Jh,Ji,Jj,Jk,J9,Jl,Jm,wr,Jn,JA,JB,Jo,Jp,Jq,Jr,Js,Jt,Ju,Jv,Jw,Jx,Jy,Jz,J0,J1,J2,J3,J4,J5,reduceCtorEq,JC,JD,JE,JF,JG,JH,JI,JJ]) | ((with_reducible (first | apply Ok.br | apply Ok.gd | apply Ok.ld)) <;> (intro g; (try simp only [ZGS] at g); try (exfalso; omega)))))
    exact hfin.out
  · cases st with
    | none => exact absurd rfl hz
    | some r =>
      cases r with
      | nil => exact absurd rfl hz
      | cons c r =>
        obtain ⟨k, hk, hr, h1⟩ := h.cells
        have hroom := h.room
        have hr := hr _ rfl
        have hget : bs[k]? = some c := by
          have := congrArg (fun l => l[0]?) hr
          simp only [List.getElem?_cons_zero,List.getElem?_drop,Nat.add_zero] at this
          exact this.symm
        have hrest : r = bs.drop (k + 1) := by
          have := congrArg (fun l => l.drop 1) hr
          simpa [List.drop_drop] using this
        have hklt : k < bs.length := (List.getElem?_eq_some_iff.1 hget).1
        rcases h.kept with ⟨e, _⟩ | ⟨b, hbp, hv, hbc⟩
        · subst e; simp at hget
        · have hkept := h.kept
          subst hv
          have hp := hcells_lt h1
          have hb := hcells_lt hbc
          have hcell : (bV bs)[k]? = some (.int .u8 (c.toNat : Nat)) := by unfold bV; rw [List.getElem?_map, hget]; rfl
          have hK : Keeps [p] H (H.set p (.cells 0 true [.sl (.at b 0 0) bs.length bs.length 1, .int .i64 ((k + 1 : Nat) : Int), .bool false])) := (Keeps.refl _ _).set (.inl (by simp)) _
          have hfin : Hid (Q (.int .u8 (c.toNat : Nat), H.set p (.cells 0 true [.sl (.at b 0 0) bs.length bs.length 1, .int .i64 ((k + 1 : Nat) : Int), .bool false]))) :=
            ⟨hQ'.out _ ⟨rfl, ⟨hkept.keep hK, ⟨k + 1, by omega, (fun r' e => by cases e; exact hrest), hcells_set_eq hp⟩, hroom⟩, hK⟩⟩
          have hL : ¬ ((leftN (some (c :: r)) : Nat) : Int) = 0 := by omega
          generalize leftN (some (c :: r)) = m at hl hL
          simp only [Option.isNone_some] at h1
          have hk1 : (k : Int) + 1 = ((k + 1 : Nat) : Int) := by omega
          have hk2 : ((k + 1 : Nat) : Int) - 1 = (k : Int) := by omega
          have hle : bs.length <= (bV bs).length := by rw [bV_len]; exact Nat.le_refl _
          have g1 : 0 <= (k : Int) /\ (k : Int) < (bs.length : Int) := by omega
          have hblen : (bV bs).length = bs.length := bV_len bs
          clear hQ' h f1 f2 hr hget hrest hkept hK hz hf
          (refine Ok.body body69 pin69 ?_; simp only [c69,Try.f69,Option.getD_some,nslot69,List.append_nil,List.map,List.replicate,List.length_cons,List.length_nil,Nat.reduceAdd,Nat.reduceSub,List.cons_append,List.nil_append])
          (repeat' (first | (simp -implicitDefEqProofs (maxSteps := 1000000) (disch := first | assumption | omega | (simp only [ZDI]; omega)) only [*,lenV,Nat.zero_add,Nat.mul_one,G69,Za,Zb,Zc,Zd,Ze,Zf,Zg,Zh,Zi,Zj,Zk,Zl,Zm,Zn,Zo,Ja,Jb,Jc,J6,Jd,Je,J7,J8,Jf,Jg,Jh,Ji,Jj,Jk,J9,Jl,Jm,wr,Jn,JA,JB,Jo,Jp,Jq,Jr,Js,Jt,Ju,Jv,Jw,Jx,Jy,Jz,J0,J1,J2,J3,J4,J5,reduceCtorEq,JC,JD,JE,JF,JG,JH,JI,JJ]) | ((with_reducible (first | apply Ok.br | apply Ok.gd | apply Ok.ld)) <;> (intro g; (try simp only [ZGS] at g); try (exfalso; omega)))))
          exact hfin.out
end Go.Ev
set_option maxRecDepth 100000
namespace Go.Ev
open Go.Ev renaming exPure -> Ja, ofValue -> Jb, cellsV -> Jc, load -> Jd, store -> Je, binOp -> Jf, intOp -> Jg, rdV -> Jh, vsame -> Ji, vsames -> Jj, makeSliceV -> Jk, resV -> Jl, isCell -> Jm, nilCheckV -> Jn, allV -> Jo, builtinV -> Jp, lenV -> Jq, indexAddrV -> Jr, unOp -> Js, minmaxV -> Jt, minmax -> Ju, sliceV -> Jv, asInt -> Jw, appendV -> Jx, forkB -> Jy, roY -> Jz, rwB -> J0, copyV -> J1, clearV -> J2, convV -> J3, sliceCells -> J4, shift -> J5
open Bool renaming true -> BT, false -> BF
open Nat renaming reduceEqDiff -> J6, reduceLT -> J7, reduceAdd -> J8, reduceBEq -> J9, reduceSub -> JA, reduceMul -> JB, reduceLeDiff -> JJ
open Int renaming reduceLT -> JC, reduceLE -> JD, reduceAdd -> JE, reduceSub -> JF, reduceNeg -> JG, reduceToNat -> JH, reduceEq -> JI
open Go.Proofs
def numF : Bool -> Nat -> List UInt8 -> Option (Nat × List UInt8)
  | _, _, [] => none
  | f, n, c :: r => if (f = true /\ c.toNat = 128) \/ 144115188075855872 <= n then none else if c.toNat < 128 then some (n * 128 + c.toNat % 128, r) else numF false (n * 128 + c.toNat % 128) r
def numD : Dec Nat := numF true 0
theorem shl7 {n : Nat} (h : n < 144115188075855872) : IntKind.u64.wrap ((n : Int) * 2 ^ min 7 IntKind.u64.bits) = ((n * 128 : Nat) : Int) := by
  have : (n : Int) * 2 ^ min 7 IntKind.u64.bits = ((n * 128 : Nat) : Int) := by
    show (n : Int) * 2 ^ 7 = _
    omega
  rw [this, wrapU (by omega)]
theorem shr57 (n : Nat) : (n : Int).fdiv (2 ^ min 57 IntKind.u64.bits) = ((n / 144115188075855872 : Nat) : Int) := by
  show (n : Int).fdiv (2 ^ 57) = _
  rw [Int.fdiv_eq_ediv_of_nonneg _ (by decide)]
  omega
theorem or7 {n c : Nat} (h : n < 144115188075855872) (hc : c < 128) : IntKind.u64.wrap ((BitVec.ofInt IntKind.u64.bits ((n * 128 : Nat) : Int) ||| BitVec.ofInt IntKind.u64.bits (c : Int)).toNat : Nat) = ((n * 128 + c : Nat) : Int) := by
  have e : (BitVec.ofInt IntKind.u64.bits ((n * 128 : Nat) : Int) ||| BitVec.ofInt IntKind.u64.bits (c : Int)).toNat = n * 128 + c := by
    show (BitVec.ofInt 64 ((n * 128 : Nat) : Int) ||| BitVec.ofInt 64 (c : Int)).toNat = _
    rw [BitVec.toNat_or, BitVec.ofInt_natCast, BitVec.ofInt_natCast, BitVec.toNat_ofNat, BitVec.toNat_ofNat, Nat.mod_eq_of_lt (by omega), Nat.mod_eq_of_lt (by omega), Nat.mul_comm n 128]
    exact (Nat.two_pow_add_eq_or_of_lt (i := 7) hc n).symm
  rw [e, wrapU (by omega)]
set_option maxHeartbeats 8000000 in
theorem rdNum_at {H : Heap} {p : Nat} {v : V} {bs : List UInt8} {st : Option (List UInt8)} (h : RdAt H p v bs st) : Ev.Ok (D X (.fn 73 []) [.ptr p 0 0] H) (Took numD 0 (fun n => .int .u64 (n : Nat)) p v bs st H) := by
  refine Ok.aim fun Q hQ => ?_
  have hQ' := Hid.mk hQ
  clear hQ
  (refine Ok.body body73 pin73 ?_; simp only [c73,Try.f73,Option.getD_some,nslot73,List.append_nil,List.map,List.replicate,List.length_cons,List.length_nil,Nat.reduceAdd,Nat.reduceSub,List.cons_append,List.nil_append])
  (repeat' (first | (simp -implicitDefEqProofs (maxSteps := 1000000) (disch := first | assumption | omega | (simp only [ZDI]; omega)) only [*,G73,Za,Zb,Zc,Zd,Ze,Zf,Zg,Zh,Zi,Zj,Zk,Zl,Zm,Zn,Zo,Ja,Jb,Jc,J6,Jd,Je,J7,J8,Jf,Jg,Jh,Ji,Jj,Jk,J9,Jl,Jm,wr,Jn,JA,JB,Jo,Jp,Jq,Jr,Js,Jt,Ju,Jv,Jw,Jx,Jy,Jz,J0,J1,J2,J3,J4,J5,reduceCtorEq,JC,JD,JE,JF,JG,JH,JI,JJ]) | ((with_reducible (first | apply Ok.br | apply Ok.gd | apply Ok.ld)) <;> (intro g; (try simp only [ZGS] at g); try (exfalso; omega)))))
  refine Ok.loop [BF, BF, BT, BT, BT, BT, BT, BT, BT, BT, BT, BT, BT, BT, BT, BT, BT, BT, BT, BT, BT, BT, BT, BT, BT, BT, BT, BT, BT, BT, BT, BT, BT] (fun k s2 => ∃ (st' : Option (List UInt8)) (n : Nat) (f : Bool), k = leftN st' /\ tv s2.e 3 = .v (.int .u64 (n : Nat)) /\ tv s2.e 4 = .v (.bool f) /\ s2.l = [] /\ RdAt s2.h p v bs st' /\ Keeps [p] H s2.h /\ st'.bind (numF f n) = st.bind numD)
    (fun y s2 => y = .ret /\ s2.l = [] /\ tv s2.e 2 = .v (.int .u64 ((((st.bind numD).map (·.1)).getD 0 : Nat) : Int)) /\ RdAt s2.h p v bs ((st.bind numD).map (·.2)) /\ Keeps [p] H s2.h)
    (leftN st) ⟨st, 0, true, rfl, rfl, rfl, rfl, h, .refl _ _, rfl⟩ ?_ ?_
  · intro k ⟨e', l', g⟩ hW ⟨st', n, f, hm, h3, h4, k2, hrd, hk, hnum⟩
    dsimp only at hW h3 h4 k2 hrd hk
    subst l'
    rw [hW.spread]
    simp only [spread_t,spread_f,spread_n,Nat.zero_add,Nat.reduceAdd,h3,h4]
    clear hW hQ' h
    obtain ⟨⟨vb, g1⟩, eB, hv, hrd1, hk1⟩ := rdByte_at hrd
    dsimp only at hv hrd1 hk1
    have eBad := rdBad_at hrd1
    have eFail := rdFail_at hrd1
    obtain ⟨f1, f2⟩ := hrd1.fail
    have hkf := Hid.mk (hk.trans (hk1.trans f2))
    have hkk := Hid.mk (hk.trans hk1)
    have hf1 := Hid.mk f1
    clear f1 f2 hk hk1 hrd
    cases st' with
    | none =>
      simp only [Option.bind_none,Option.map_none,Option.getD_none,Option.isNone_none] at hv hrd1 eBad eFail hnum
      subst hv
      have hn0 : Hid (st.bind numD = none) := ⟨hnum.symm⟩
      clear hrd1 hnum
      (repeat' (first | (simp -implicitDefEqProofs (maxSteps := 1000000) (disch := first | assumption | omega | (simp only [ZDI]; omega)) only [*,shr57,G73,Za,Zb,Zc,Zd,Ze,Zf,Zg,Zh,Zi,Zj,Zk,Zl,Zm,Zn,Zo,Ja,Jb,Jc,J6,Jd,Je,J7,J8,Jf,Jg,Jh,Ji,Jj,Jk,J9,Jl,Jm,wr,Jn,JA,JB,Jo,Jp,Jq,Jr,Js,Jt,Ju,Jv,Jw,Jx,Jy,Jz,J0,J1,J2,J3,J4,J5,reduceCtorEq,JC,JD,JE,JF,JG,JH,JI,JJ]) | ((with_reducible (first | apply Ok.br | apply Ok.gd | apply Ok.ld)) <;> (intro g; (try simp only [ZGS] at g); try (exfalso; omega)))))
      exact Turn.ret ⟨rfl, rfl, rfl, by rw [hn0.out]; rfl, by rw [hn0.out]; exact hf1.out, hkf.out⟩
    | some l =>
      cases l with
      | nil =>
        simp only [Option.bind_some,byteD,numF,Option.map_none,Option.getD_none,Option.isNone_none] at hv hrd1 eBad eFail hnum
        subst hv
        have hn0 : Hid (st.bind numD = none) := ⟨hnum.symm⟩
        clear hrd1 hnum
        (repeat' (first | (simp -implicitDefEqProofs (maxSteps := 1000000) (disch := first | assumption | omega | (simp only [ZDI]; omega)) only [*,shr57,G73,Za,Zb,Zc,Zd,Ze,Zf,Zg,Zh,Zi,Zj,Zk,Zl,Zm,Zn,Zo,Ja,Jb,Jc,J6,Jd,Je,J7,J8,Jf,Jg,Jh,Ji,Jj,Jk,J9,Jl,Jm,wr,Jn,JA,JB,Jo,Jp,Jq,Jr,Js,Jt,Ju,Jv,Jw,Jx,Jy,Jz,J0,J1,J2,J3,J4,J5,reduceCtorEq,JC,JD,JE,JF,JG,JH,JI,JJ]) | ((with_reducible (first | apply Ok.br | apply Ok.gd | apply Ok.ld)) <;> (intro g; (try simp only [ZGS] at g); try (exfalso; omega)))))
        exact Turn.ret ⟨rfl, rfl, rfl, by rw [hn0.out]; rfl, by rw [hn0.out]; exact hf1.out, hkf.out⟩
      | cons c r =>
        simp only [Option.bind_some,byteD,Option.map_some,Option.getD_some,Option.isNone_some] at hv hrd1 eBad eFail hnum
        subst hv
        have hrd1' := Hid.mk hrd1
        have hc256 : c.toNat < 256 := UInt8.toNat_lt c
        have h127 : IntKind.u8.wrap ((BitVec.ofInt IntKind.u8.bits ((c.toNat : Nat) : Int) &&& BitVec.ofInt IntKind.u8.bits 127).toNat : Nat) = ((c.toNat % 128 : Nat) : Int) := by rw [and127 (by omega)]; omega
        have hcv : IntKind.u64.wrap ((c.toNat % 128 : Nat) : Int) = ((c.toNat % 128 : Nat) : Int) := wrapU (by omega)
        rw [numF] at hnum
        clear hrd1
        have hleft : leftN (some (c :: r)) = leftN (some r) + 1 := rfl
        by_cases hb : (f = true /\ c.toNat = 128)
        · rw [if_pos (.inl hb)] at hnum
          have hn0 : Hid (st.bind numD = none) := ⟨hnum.symm⟩
          obtain ⟨rfl, hc⟩ := hb
          have hc' : ((c.toNat : Nat) : Int) = 128 := by omega
          clear hnum hc hcv h127
          (repeat' (first | (simp -implicitDefEqProofs (maxSteps := 1000000) (disch := first | assumption | omega | (simp only [ZDI]; omega)) only [*,shr57,G73,Za,Zb,Zc,Zd,Ze,Zf,Zg,Zh,Zi,Zj,Zk,Zl,Zm,Zn,Zo,Ja,Jb,Jc,J6,Jd,Je,J7,J8,Jf,Jg,Jh,Ji,Jj,Jk,J9,Jl,Jm,wr,Jn,JA,JB,Jo,Jp,Jq,Jr,Js,Jt,Ju,Jv,Jw,Jx,Jy,Jz,J0,J1,J2,J3,J4,J5,reduceCtorEq,JC,JD,JE,JF,JG,JH,JI,JJ]) | ((with_reducible (first | apply Ok.br | apply Ok.gd | apply Ok.ld)) <;> (intro g; (try simp only [ZGS] at g); try (exfalso; omega)))))
          exact Turn.ret ⟨rfl, rfl, rfl, by rw [hn0.out]; rfl, by rw [hn0.out]; exact hf1.out, hkf.out⟩
        · have hbc : f = false \/ (f = true /\ ¬ ((c.toNat : Nat) : Int) = 128) := by
            cases f with
            | false => exact .inl rfl
            | true => exact .inr ⟨rfl, fun e => hb ⟨rfl, by omega⟩⟩
          by_cases hn : 144115188075855872 <= n
          · rw [if_pos (.inr hn)] at hnum
            have hn0 : Hid (st.bind numD = none) := ⟨hnum.symm⟩
            have hn1 : (0 : Int) < ((n / 144115188075855872 : Nat) : Int) := by omega
            clear hnum hcv h127 hb
            rcases hbc with rfl | ⟨rfl, hc'⟩
            · (repeat' (first | (simp -implicitDefEqProofs (maxSteps := 1000000) (disch := first | assumption | omega | (simp only [ZDI]; omega)) only [*,shr57,G73,Za,Zb,Zc,Zd,Ze,Zf,Zg,Zh,Zi,Zj,Zk,Zl,Zm,Zn,Zo,Ja,Jb,Jc,J6,Jd,Je,J7,J8,Jf,Jg,Jh,Ji,Jj,Jk,J9,Jl,Jm,wr,Jn,JA,JB,Jo,Jp,Jq,Jr,Js,Jt,Ju,Jv,Jw,Jx,Jy,Jz,J0,J1,J2,J3,J4,J5,reduceCtorEq,JC,JD,JE,JF,JG,JH,JI,JJ]) | ((with_reducible (first | apply Ok.br | apply Ok.gd | apply Ok.ld)) <;> (intro g; (try simp only [ZGS] at g); try (exfalso; omega)))))
              exact Turn.ret ⟨rfl, rfl, rfl, by rw [hn0.out]; rfl, by rw [hn0.out]; exact hf1.out, hkf.out⟩
            · (repeat' (first | (simp -implicitDefEqProofs (maxSteps := 1000000) (disch := first | assumption | omega | (simp only [ZDI]; omega)) only [*,shr57,G73,Za,Zb,Zc,Zd,Ze,Zf,Zg,Zh,Zi,Zj,Zk,Zl,Zm,Zn,Zo,Ja,Jb,Jc,J6,Jd,Je,J7,J8,Jf,Jg,Jh,Ji,Jj,Jk,J9,Jl,Jm,wr,Jn,JA,JB,Jo,Jp,Jq,Jr,Js,Jt,Ju,Jv,Jw,Jx,Jy,Jz,J0,J1,J2,J3,J4,J5,reduceCtorEq,JC,JD,JE,JF,JG,JH,JI,JJ]) | ((with_reducible (first | apply Ok.br | apply Ok.gd | apply Ok.ld)) <;> (intro g; (try simp only [ZGS] at g); try (exfalso; omega)))))
              exact Turn.ret ⟨rfl, rfl, rfl, by rw [hn0.out]; rfl, by rw [hn0.out]; exact hf1.out, hkf.out⟩
          · rw [if_neg (by rintro (h | h); exact hb h; exact hn h)] at hnum
            have hn1 : ¬ (0 : Int) < ((n / 144115188075855872 : Nat) : Int) := by omega
            have h7 := shl7 (n := n) (by omega)
            have hor := or7 (n := n) (c := c.toNat % 128) (by omega) (by omega)
            by_cases hlt : c.toNat < 128
            · rw [if_pos hlt] at hnum
              have hn0 : Hid (st.bind numD = some (n * 128 + c.toNat % 128, r)) := ⟨hnum.symm⟩
              have hlt' : ((c.toNat : Nat) : Int) < 128 := by omega
              clear hnum hb hlt
              rcases hbc with rfl | ⟨rfl, hc'⟩
              · (repeat' (first | (simp -implicitDefEqProofs (maxSteps := 1000000) (disch := first | assumption | omega | (simp only [ZDI]; omega)) only [*,shr57,G73,Za,Zb,Zc,Zd,Ze,Zf,Zg,Zh,Zi,Zj,Zk,Zl,Zm,Zn,Zo,Ja,Jb,Jc,J6,Jd,Je,J7,J8,Jf,Jg,Jh,Ji,Jj,Jk,J9,Jl,Jm,wr,Jn,JA,JB,Jo,Jp,Jq,Jr,Js,Jt,Ju,Jv,Jw,Jx,Jy,Jz,J0,J1,J2,J3,J4,J5,reduceCtorEq,JC,JD,JE,JF,JG,JH,JI,JJ]) | ((with_reducible (first | apply Ok.br | apply Ok.gd | apply Ok.ld)) <;> (intro g; (try simp only [ZGS] at g); try (exfalso; omega)))))
                exact Turn.ret ⟨rfl, rfl, rfl, by rw [hn0.out]; rfl, by rw [hn0.out]; exact hrd1'.out, hkk.out⟩
              · (repeat' (first | (simp -implicitDefEqProofs (maxSteps := 1000000) (disch := first | assumption | omega | (simp only [ZDI]; omega)) only [*,shr57,G73,Za,Zb,Zc,Zd,Ze,Zf,Zg,Zh,Zi,Zj,Zk,Zl,Zm,Zn,Zo,Ja,Jb,Jc,J6,Jd,Je,J7,J8,Jf,Jg,Jh,Ji,Jj,Jk,J9,Jl,Jm,wr,Jn,JA,JB,Jo,Jp,Jq,Jr,Js,Jt,Ju,Jv,Jw,Jx,Jy,Jz,J0,J1,J2,J3,J4,J5,reduceCtorEq,JC,JD,JE,JF,JG,JH,JI,JJ]) | ((with_reducible (first | apply Ok.br | apply Ok.gd | apply Ok.ld)) <;> (intro g; (try simp only [ZGS] at g); try (exfalso; omega)))))
                exact Turn.ret ⟨rfl, rfl, rfl, by rw [hn0.out]; rfl, by rw [hn0.out]; exact hrd1'.out, hkk.out⟩
            · rw [if_neg hlt] at hnum
              have hn0 := Hid.mk hnum
              have hlt' : ¬ ((c.toNat : Nat) : Int) < 128 := by omega
              clear hnum hb hlt
              rcases hbc with rfl | ⟨rfl, hc'⟩
              · (repeat' (first | (simp -implicitDefEqProofs (maxSteps := 1000000) (disch := first | assumption | omega | (simp only [ZDI]; omega)) only [*,shr57,G73,Za,Zb,Zc,Zd,Ze,Zf,Zg,Zh,Zi,Zj,Zk,Zl,Zm,Zn,Zo,Ja,Jb,Jc,J6,Jd,Je,J7,J8,Jf,Jg,Jh,Ji,Jj,Jk,J9,Jl,Jm,wr,Jn,JA,JB,Jo,Jp,Jq,Jr,Js,Jt,Ju,Jv,Jw,Jx,Jy,Jz,J0,J1,J2,J3,J4,J5,reduceCtorEq,JC,JD,JE,JF,JG,JH,JI,JJ]) | ((with_reducible (first | apply Ok.br | apply Ok.gd | apply Ok.ld)) <;> (intro g; (try simp only [ZGS] at g); try (exfalso; omega)))))
                exact Turn.next (leftN (some r)) (by omega) ⟨rfl, some r, n * 128 + c.toNat % 128, false, rfl, rfl, rfl, rfl, hrd1'.out, hkk.out, hn0.out⟩
              · (repeat' (first | (simp -implicitDefEqProofs (maxSteps := 1000000) (disch := first | assumption | omega | (simp only [ZDI]; omega)) only [*,shr57,G73,Za,Zb,Zc,Zd,Ze,Zf,Zg,Zh,Zi,Zj,Zk,Zl,Zm,Zn,Zo,Ja,Jb,Jc,J6,Jd,Je,J7,J8,Jf,Jg,Jh,Ji,Jj,Jk,J9,Jl,Jm,wr,Jn,JA,JB,Jo,Jp,Jq,Jr,Js,Jt,Ju,Jv,Jw,Jx,Jy,Jz,J0,J1,J2,J3,J4,J5,reduceCtorEq,JC,JD,JE,JF,JG,JH,JI,JJ]) | ((with_reducible (first | apply Ok.br | apply Ok.gd | apply Ok.ld)) <;> (intro g; (try simp only [ZGS] at g); try (exfalso; omega)))))
                exact Turn.next (leftN (some r)) (by omega) ⟨rfl, some r, n * 128 + c.toNat % 128, false, rfl, rfl, rfl, rfl, hrd1'.out, hkk.out, hn0.out⟩
  · intro y ⟨e', l', g⟩ hW ⟨hy, k2, h2, hrd, hk⟩
    dsimp only at hW h2 k2 hrd hk
    subst l' hy
    rw [hW.spread]
    clear hW
    simp only [spread_t,spread_f,spread_n,Nat.zero_add,Nat.reduceAdd,h2]
    have hq := Hid.mk (hQ'.out (.int .u64 ((((st.bind numD).map (·.1)).getD 0 : Nat) : Int), g) ⟨rfl, hrd, hk⟩)
    clear hQ' hrd hk h
    generalize ((st.bind numD).map (·.1)).getD 0 = m at hq
    (repeat' (first | (simp -implicitDefEqProofs (maxSteps := 1000000) (disch := first | assumption | omega | (simp only [ZDI]; omega)) only [*,G73,Za,Zb,Zc,Zd,Ze,Zf,Zg,Zh,Zi,Zj,Zk,Zl,Zm,Zn,Zo,Ja,Jb,Jc,J6,Jd,Je,J7,J8,Jf,Jg,Jh,Ji,Jj,Jk,J9,Jl,Jm,wr,Jn,JA,JB,Jo,Jp,Jq,Jr,Js,Jt,Ju,Jv,Jw,Jx,Jy,Jz,J0,J1,J2,J3,J4,J5,reduceCtorEq,JC,JD,JE,JF,JG,JH,JI,JJ]) | ((with_reducible (first | apply Ok.br | apply Ok.gd | apply Ok.ld)) <;> (intro g; (try simp only [ZGS] at g); try (exfalso; omega)))))
    exact hq.out
end Go.Ev
set_option maxRecDepth 100000
namespace Go.Ev
open Go.Ev renaming exPure -> Ja, ofValue -> Jb, cellsV -> Jc, load -> Jd, store -> Je, binOp -> Jf, intOp -> Jg, rdV -> Jh, vsame -> Ji, vsames -> Jj, makeSliceV -> Jk, resV -> Jl, isCell -> Jm, nilCheckV -> Jn, allV -> Jo, builtinV -> Jp, lenV -> Jq, indexAddrV -> Jr, unOp -> Js, minmaxV -> Jt, minmax -> Ju, sliceV -> Jv, asInt -> Jw, appendV -> Jx, forkB -> Jy, roY -> Jz, rwB -> J0, copyV -> J1, clearV -> J2, convV -> J3, sliceCells -> J4, shift -> J5
open Bool renaming true -> BT, false -> BF
open Nat renaming reduceEqDiff -> J6, reduceLT -> J7, reduceAdd -> J8, reduceBEq -> J9, reduceSub -> JA, reduceMul -> JB, reduceLeDiff -> JJ
open Int renaming reduceLT -> JC, reduceLE -> JD, reduceAdd -> JE, reduceSub -> JF, reduceNeg -> JG, reduceToNat -> JH, reduceEq -> JI
open Go.Proofs
def intD : Dec Int := fun l => (byteD l).bind fun x => (numD x.2).bind fun y => if 1 < x.1.toNat \/ 9223372036854775808 <= y.1 then none else some (if x.1.toNat = 1 then -(y.1 : Int) - 1 else y.1, y.2)
def textD : Dec ByteArray := fun l => (numD l).bind fun x => if 1048576 < x.1 \/ x.2.length < x.1 then none else some (⟨(x.2.take x.1).toArray⟩, x.2.drop x.1)
theorem notI {n : Nat} (h : n < 9223372036854775808) : IntKind.i64.wrap ((BitVec.ofInt IntKind.i64.bits (if IntKind.i64.signed = true then -1 else IntKind.i64.max) ^^^ BitVec.ofInt IntKind.i64.bits (n : Int)).toNat : Nat) = -(n : Int) - 1 := by
  have e1 : BitVec.ofInt IntKind.i64.bits (if IntKind.i64.signed = true then -1 else IntKind.i64.max) = BitVec.allOnes 64 := by
    show BitVec.ofInt 64 (-1) = BitVec.allOnes 64
    decide
  have e3 : (BitVec.ofInt IntKind.i64.bits (if IntKind.i64.signed = true then -1 else IntKind.i64.max) ^^^ BitVec.ofInt IntKind.i64.bits (n : Int)).toNat = 18446744073709551615 - n := by
    rw [e1]
    show (BitVec.allOnes 64 ^^^ BitVec.ofInt 64 (n : Int)).toNat = _
    rw [BitVec.allOnes_xor, BitVec.toNat_not, BitVec.ofInt_natCast, BitVec.toNat_ofNat]
    omega
  rw [e3]
  unfold IntKind.wrap
  simp [IntKind.bits, IntKind.signed]
  omega
set_option maxHeartbeats 8000000 in
theorem rdInt_at {H : Heap} {p : Nat} {v : V} {bs : List UInt8} {st : Option (List UInt8)} (h : RdAt H p v bs st) : Ev.Ok (D X (.fn 70 []) [.ptr p 0 0] H) (Took intD 0 (fun n => .int .i64 n) p v bs st H) := by
  refine Ok.aim fun Q hQ => ?_
  have hQ' := Hid.mk hQ
  clear hQ
  obtain ⟨⟨vb, g1⟩, eB, hv, hrd1, hk1⟩ := rdByte_at h
  dsimp only at hv hrd1 hk1
  obtain ⟨⟨vn, g2⟩, eN, hvn, hrd2, hk2⟩ := rdNum_at hrd1
  dsimp only at hvn hrd2 hk2
  have eBad := rdBad_at hrd2
  have eFail := rdFail_at hrd2
  obtain ⟨f1, f2⟩ := hrd2.fail
  have hI : st.bind intD = (st.bind byteD).bind fun x => (numD x.2).bind fun y => if 1 < x.1.toNat \/ 9223372036854775808 <= y.1 then none else some (if x.1.toNat = 1 then -(y.1 : Int) - 1 else y.1, y.2) := by cases st <;> rfl
  have hbad : st.bind intD = none -> Hid (Q (.int .i64 0, g2.set p (.cells 0 true [v, .int .i64 bs.length, .bool true]))) := fun e => ⟨hQ'.out _ ⟨by rw [e]; rfl, by rw [e]; exact f1, (hk1.trans hk2).trans f2⟩⟩
  have hgood : ∀ n r, st.bind intD = some (n, r) -> RdAt g2 p v bs (some r) -> Hid (Q (.int .i64 n, g2)) := fun n r e e2 => ⟨hQ'.out _ ⟨by rw [e]; rfl, by rw [e]; exact e2, hk1.trans hk2⟩⟩
  clear hQ' hrd1 hk1 hk2 f1 f2
  cases hx : st.bind byteD with
  | none =>
    rw [hx] at hI
    simp only [hx,Option.map_none,Option.bind_none,Option.getD_none,Option.isNone_none] at hv hvn hrd2 eBad
    subst hv hvn
    have hq := hbad hI
    clear hbad hgood hI hrd2 hx h
    (refine Ok.body body70 pin70 ?_; simp only [c70,Try.f70,Option.getD_some,nslot70,List.append_nil,List.map,List.replicate,List.length_cons,List.length_nil,Nat.reduceAdd,Nat.reduceSub,List.cons_append,List.nil_append])
    (repeat' (first | (simp -implicitDefEqProofs (maxSteps := 1000000) (disch := first | assumption | omega | (simp only [ZDI]; omega)) only [*,G70,Za,Zb,Zc,Zd,Ze,Zf,Zg,Zh,Zi,Zj,Zk,Zl,Zm,Zn,Zo,Ja,Jb,Jc,J6,Jd,Je,J7,J8,Jf,Jg,Jh,Ji,Jj,Jk,J9,Jl,Jm,wr,Jn,JA,JB,Jo,Jp,Jq,Jr,Js,Jt,Ju,Jv,Jw,Jx,Jy,Jz,J0,J1,J2,J3,J4,J5,reduceCtorEq,JC,JD,JE,JF,JG,JH,JI,JJ]) | ((with_reducible (first | apply Ok.br | apply Ok.gd | apply Ok.ld)) <;> (intro g; (try simp only [ZGS] at g); try (exfalso; omega)))))
    exact hq.out
  | some x =>
    obtain ⟨c, r⟩ := x
    simp only [hx,Option.bind_some] at hI
    simp only [hx,Option.map_some,Option.bind_some,Option.getD_some] at hv hvn hrd2 eBad
    subst hv
    cases hy : numD r with
    | none =>
      simp only [hy,Option.bind_none,Option.map_none,Option.getD_none,Option.isNone_none] at hI hvn hrd2 eBad
      subst hvn
      have hq := hbad hI
      clear hbad hgood hI hrd2 hx h hy
      (refine Ok.body body70 pin70 ?_; simp only [c70,Try.f70,Option.getD_some,nslot70,List.append_nil,List.map,List.replicate,List.length_cons,List.length_nil,Nat.reduceAdd,Nat.reduceSub,List.cons_append,List.nil_append])
      (repeat' (first | (simp -implicitDefEqProofs (maxSteps := 1000000) (disch := first | assumption | omega | (simp only [ZDI]; omega)) only [*,G70,Za,Zb,Zc,Zd,Ze,Zf,Zg,Zh,Zi,Zj,Zk,Zl,Zm,Zn,Zo,Ja,Jb,Jc,J6,Jd,Je,J7,J8,Jf,Jg,Jh,Ji,Jj,Jk,J9,Jl,Jm,wr,Jn,JA,JB,Jo,Jp,Jq,Jr,Js,Jt,Ju,Jv,Jw,Jx,Jy,Jz,J0,J1,J2,J3,J4,J5,reduceCtorEq,JC,JD,JE,JF,JG,JH,JI,JJ]) | ((with_reducible (first | apply Ok.br | apply Ok.gd | apply Ok.ld)) <;> (intro g; (try simp only [ZGS] at g); try (exfalso; omega)))))
      exact hq.out
    | some y =>
      obtain ⟨n, r'⟩ := y
      simp only [hy,Option.bind_some,Option.map_some,Option.getD_some,Option.isNone_some] at hI hvn hrd2 eBad
      subst hvn
      by_cases h1 : 1 < c.toNat
      · have h1' : (1 : Int) < ((c.toNat : Nat) : Int) := by omega
        rw [if_pos (.inl h1)] at hI
        have hq := hbad hI
        clear hbad hgood hI hrd2 hx h hy h1
        (refine Ok.body body70 pin70 ?_; simp only [c70,Try.f70,Option.getD_some,nslot70,List.append_nil,List.map,List.replicate,List.length_cons,List.length_nil,Nat.reduceAdd,Nat.reduceSub,List.cons_append,List.nil_append])
        (repeat' (first | (simp -implicitDefEqProofs (maxSteps := 1000000) (disch := first | assumption | omega | (simp only [ZDI]; omega)) only [*,G70,Za,Zb,Zc,Zd,Ze,Zf,Zg,Zh,Zi,Zj,Zk,Zl,Zm,Zn,Zo,Ja,Jb,Jc,J6,Jd,Je,J7,J8,Jf,Jg,Jh,Ji,Jj,Jk,J9,Jl,Jm,wr,Jn,JA,JB,Jo,Jp,Jq,Jr,Js,Jt,Ju,Jv,Jw,Jx,Jy,Jz,J0,J1,J2,J3,J4,J5,reduceCtorEq,JC,JD,JE,JF,JG,JH,JI,JJ]) | ((with_reducible (first | apply Ok.br | apply Ok.gd | apply Ok.ld)) <;> (intro g; (try simp only [ZGS] at g); try (exfalso; omega)))))
        exact hq.out
      · have h1' : ¬ (1 : Int) < ((c.toNat : Nat) : Int) := by omega
        by_cases h2 : 9223372036854775808 <= n
        · have h2' : (9223372036854775808 : Int) <= (n : Int) := by omega
          rw [if_pos (.inr h2)] at hI
          have hq := hbad hI
          clear hbad hgood hI hrd2 hx h hy h1 h2
          (refine Ok.body body70 pin70 ?_; simp only [c70,Try.f70,Option.getD_some,nslot70,List.append_nil,List.map,List.replicate,List.length_cons,List.length_nil,Nat.reduceAdd,Nat.reduceSub,List.cons_append,List.nil_append])
          (repeat' (first | (simp -implicitDefEqProofs (maxSteps := 1000000) (disch := first | assumption | omega | (simp only [ZDI]; omega)) only [*,G70,Za,Zb,Zc,Zd,Ze,Zf,Zg,Zh,Zi,Zj,Zk,Zl,Zm,Zn,Zo,Ja,Jb,Jc,J6,Jd,Je,J7,J8,Jf,Jg,Jh,Ji,Jj,Jk,J9,Jl,Jm,wr,Jn,JA,JB,Jo,Jp,Jq,Jr,Js,Jt,Ju,Jv,Jw,Jx,Jy,Jz,J0,J1,J2,J3,J4,J5,reduceCtorEq,JC,JD,JE,JF,JG,JH,JI,JJ]) | ((with_reducible (first | apply Ok.br | apply Ok.gd | apply Ok.ld)) <;> (intro g; (try simp only [ZGS] at g); try (exfalso; omega)))))
          exact hq.out
        · have h2' : ¬ (9223372036854775808 : Int) <= (n : Int) := by omega
          rw [if_neg (by omega)] at hI
          have hw : IntKind.i64.wrap (n : Int) = (n : Int) := wrapI (by omega)
          have hno := notI (n := n) (by omega)
          by_cases h3 : c.toNat = 1
          · have h3' : ((c.toNat : Nat) : Int) = 1 := by omega
            rw [if_pos h3] at hI
            have hq := hgood _ _ hI hrd2
            clear hbad hgood hI hrd2 hx h hy h1 h2 h3 h1'
            (refine Ok.body body70 pin70 ?_; simp only [c70,Try.f70,Option.getD_some,nslot70,List.append_nil,List.map,List.replicate,List.length_cons,List.length_nil,Nat.reduceAdd,Nat.reduceSub,List.cons_append,List.nil_append])
            (repeat' (first | (simp -implicitDefEqProofs (maxSteps := 1000000) (disch := first | assumption | omega | (simp only [ZDI]; omega)) only [*,G70,Za,Zb,Zc,Zd,Ze,Zf,Zg,Zh,Zi,Zj,Zk,Zl,Zm,Zn,Zo,Ja,Jb,Jc,J6,Jd,Je,J7,J8,Jf,Jg,Jh,Ji,Jj,Jk,J9,Jl,Jm,wr,Jn,JA,JB,Jo,Jp,Jq,Jr,Js,Jt,Ju,Jv,Jw,Jx,Jy,Jz,J0,J1,J2,J3,J4,J5,reduceCtorEq,JC,JD,JE,JF,JG,JH,JI,JJ]) | ((with_reducible (first | apply Ok.br | apply Ok.gd | apply Ok.ld)) <;> (intro g; (try simp only [ZGS] at g); try (exfalso; omega)))))
            exact hq.out
          · have h3' : ¬ ((c.toNat : Nat) : Int) = 1 := by omega
            rw [if_neg h3] at hI
            have hq := hgood _ _ hI hrd2
            clear hbad hgood hI hrd2 hx h hy h1 h2 h3
            (refine Ok.body body70 pin70 ?_; simp only [c70,Try.f70,Option.getD_some,nslot70,List.append_nil,List.map,List.replicate,List.length_cons,List.length_nil,Nat.reduceAdd,Nat.reduceSub,List.cons_append,List.nil_append])
            (repeat' (first | (simp -implicitDefEqProofs (maxSteps := 1000000) (disch := first | assumption | omega | (simp only [ZDI]; omega)) only [*,G70,Za,Zb,Zc,Zd,Ze,Zf,Zg,Zh,Zi,Zj,Zk,Zl,Zm,Zn,Zo,Ja,Jb,Jc,J6,Jd,Je,J7,J8,Jf,Jg,Jh,Ji,Jj,Jk,J9,Jl,Jm,wr,Jn,JA,JB,Jo,Jp,Jq,Jr,Js,Jt,Ju,Jv,Jw,Jx,Jy,Jz,J0,J1,J2,J3,J4,J5,reduceCtorEq,JC,JD,JE,JF,JG,JH,JI,JJ]) | ((with_reducible (first | apply Ok.br | apply Ok.gd | apply Ok.ld)) <;> (intro g; (try simp only [ZGS] at g); try (exfalso; omega)))))
            exact hq.out
end Go.Ev
set_option maxRecDepth 100000
namespace Go.Ev
open Go.Ev renaming exPure -> Ja, ofValue -> Jb, cellsV -> Jc, load -> Jd, store -> Je, binOp -> Jf, intOp -> Jg, rdV -> Jh, vsame -> Ji, vsames -> Jj, makeSliceV -> Jk, resV -> Jl, isCell -> Jm, nilCheckV -> Jn, allV -> Jo, builtinV -> Jp, lenV -> Jq, indexAddrV -> Jr, unOp -> Js, minmaxV -> Jt, minmax -> Ju, sliceV -> Jv, asInt -> Jw, appendV -> Jx, forkB -> Jy, roY -> Jz, rwB -> J0, copyV -> J1, clearV -> J2, convV -> J3, sliceCells -> J4, shift -> J5
open Bool renaming true -> BT, false -> BF
open Nat renaming reduceEqDiff -> J6, reduceLT -> J7, reduceAdd -> J8, reduceBEq -> J9, reduceSub -> JA, reduceMul -> JB, reduceLeDiff -> JJ
open Int renaming reduceLT -> JC, reduceLE -> JD, reduceAdd -> JE, reduceSub -> JF, reduceNeg -> JG, reduceToNat -> JH, reduceEq -> JI
open Go.Proofs
theorem optArr_s {α : Type} (a : α) : (some a).toArray = #[a] := rfl
theorem optArr_n {α : Type} : (none : Option α).toArray = #[] := rfl
theorem toBytes_bV : ∀ l : List UInt8, toBytes (bV l) = some l
  | [] => rfl
  | c :: l => by
    show toBytes (V.int .u8 (c.toNat : Nat) :: bV l) = _
    rw [toBytes, toBytes_bV l]
    show some (UInt8.ofNat ((c.toNat : Nat) : Int).toNat :: l) = _
    rw [Int.toNat_natCast, UInt8.ofNat_toNat]
theorem bV_cut (l : List UInt8) (k n : Nat) : ((bV l).drop k).take n = bV ((l.drop k).take n) := by
  unfold bV
  rw [List.map_take, List.map_drop]
theorem bV_cut0 (l : List UInt8) (n : Nat) : (bV l).take n = bV (l.take n) := by
  unfold bV
  rw [List.map_take]
theorem numF_short : ∀ (l : List UInt8) (f : Bool) (n m : Nat) (r : List UInt8), numF f n l = some (m, r) -> r.length < l.length
  | [], f, n, m, r, h => by simp [numF] at h
  | c :: l, f, n, m, r, h => by
    rw [numF] at h
    split at h
    · cases h
    · split at h
      · cases h; simp
      · have := numF_short l _ _ _ _ h
        simp; omega
set_option maxHeartbeats 8000000 in
theorem rdText_at {H : Heap} {p : Nat} {v : V} {bs : List UInt8} {st : Option (List UInt8)} (h : RdAt H p v bs st) : Ev.Ok (D X (.fn 72 []) [.ptr p 0 0] H) (Took textD ⟨#[]⟩ .str p v bs st H) := by
  refine Ok.aim fun Q hQ => ?_
  have hQ' := Hid.mk hQ
  clear hQ
  obtain ⟨⟨vn, g2⟩, eN, hvn, hrd2, hk2⟩ := rdNum_at h
  dsimp only at hvn hrd2 hk2
  have eBad := rdBad_at hrd2
  have eLeft := rdLeft_at hrd2
  have eFail := rdFail_at hrd2
  obtain ⟨f1, f2⟩ := hrd2.fail
  have hI : st.bind textD = (st.bind numD).bind fun x => if 1048576 < x.1 \/ x.2.length < x.1 then none else some (⟨(x.2.take x.1).toArray⟩, x.2.drop x.1) := by cases st <;> rfl
  cases hx : st.bind numD with
  | none =>
    rw [hx] at hI
    have hI' : st.bind textD = none := hI
    simp only [hx,Option.map_none,Option.getD_none,Option.isNone_none,leftN] at hvn hrd2 eBad eLeft
    subst hvn
    have hq : Hid (Q (.str ⟨#[]⟩, g2)) := ⟨hQ'.out _ ⟨by rw [hI']; rfl, by rw [hI']; exact hrd2, hk2⟩⟩
    have hw0 := wrapU (n := 0) (by omega)
    clear hQ' hrd2 hk2 f1 f2 hI hI' hx h
    (refine Ok.body body72 pin72 ?_; simp only [c72,Try.f72,Option.getD_some,nslot72,List.append_nil,List.map,List.replicate,List.length_cons,List.length_nil,Nat.reduceAdd,Nat.reduceSub,List.cons_append,List.nil_append])
    (repeat' (first | (simp -implicitDefEqProofs (maxSteps := 1000000) (disch := first | assumption | omega | (simp only [ZDI]; omega)) only [*,G72,Za,Zb,Zc,Zd,Ze,Zf,Zg,Zh,Zi,Zj,Zk,Zl,Zm,Zn,Zo,Ja,Jb,Jc,J6,Jd,Je,J7,J8,Jf,Jg,Jh,Ji,Jj,Jk,J9,Jl,Jm,wr,Jn,JA,JB,Jo,Jp,Jq,Jr,Js,Jt,Ju,Jv,Jw,Jx,Jy,Jz,J0,J1,J2,J3,J4,J5,reduceCtorEq,JC,JD,JE,JF,JG,JH,JI,JJ]) | ((with_reducible (first | apply Ok.br | apply Ok.gd | apply Ok.ld)) <;> (intro g; (try simp only [ZGS] at g); try (exfalso; omega)))))
    exact hq.out
  | some x =>
    obtain ⟨n, r⟩ := x
    simp only [hx,Option.bind_some] at hI
    simp only [hx,Option.map_some,Option.getD_some,Option.isNone_some,leftN] at hvn hrd2 eBad eLeft
    subst hvn
    have hroom := hrd2.room
    obtain ⟨k, hkl, hkr, hcell⟩ := hrd2.cells
    have hkr := hkr r rfl
    have hrl : r.length = bs.length - k := by rw [hkr, List.length_drop]
    have hwl := wrapU (n := (r.length : Int)) (by omega)
    by_cases hbig : 1048576 < n \/ r.length < n
    · rw [if_pos hbig] at hI
      have hq : Hid (Q (.str ⟨#[]⟩, g2.set p (.cells 0 true [v, .int .i64 bs.length, .bool true]))) := ⟨hQ'.out _ ⟨by rw [hI]; rfl, by rw [hI]; exact f1, hk2.trans f2⟩⟩
      clear hQ' hrd2 hk2 f1 f2 hI hx h hkr hcell hkl hrl
      by_cases h1 : 1048576 < n
      · have h1' : (1048576 : Int) < (n : Int) := by omega
        clear hbig h1
        (refine Ok.body body72 pin72 ?_; simp only [c72,Try.f72,Option.getD_some,nslot72,List.append_nil,List.map,List.replicate,List.length_cons,List.length_nil,Nat.reduceAdd,Nat.reduceSub,List.cons_append,List.nil_append])
        (repeat' (first | (simp -implicitDefEqProofs (maxSteps := 1000000) (disch := first | assumption | omega | (simp only [ZDI]; omega)) only [*,G72,Za,Zb,Zc,Zd,Ze,Zf,Zg,Zh,Zi,Zj,Zk,Zl,Zm,Zn,Zo,Ja,Jb,Jc,J6,Jd,Je,J7,J8,Jf,Jg,Jh,Ji,Jj,Jk,J9,Jl,Jm,wr,Jn,JA,JB,Jo,Jp,Jq,Jr,Js,Jt,Ju,Jv,Jw,Jx,Jy,Jz,J0,J1,J2,J3,J4,J5,reduceCtorEq,JC,JD,JE,JF,JG,JH,JI,JJ]) | ((with_reducible (first | apply Ok.br | apply Ok.gd | apply Ok.ld)) <;> (intro g; (try simp only [ZGS] at g); try (exfalso; omega)))))
        exact hq.out
      · have h1' : ¬ (1048576 : Int) < (n : Int) := by omega
        have h2' : (r.length : Int) < (n : Int) := by omega
        clear hbig h1
        (refine Ok.body body72 pin72 ?_; simp only [c72,Try.f72,Option.getD_some,nslot72,List.append_nil,List.map,List.replicate,List.length_cons,List.length_nil,Nat.reduceAdd,Nat.reduceSub,List.cons_append,List.nil_append])
        (repeat' (first | (simp -implicitDefEqProofs (maxSteps := 1000000) (disch := first | assumption | omega | (simp only [ZDI]; omega)) only [*,G72,Za,Zb,Zc,Zd,Ze,Zf,Zg,Zh,Zi,Zj,Zk,Zl,Zm,Zn,Zo,Ja,Jb,Jc,J6,Jd,Je,J7,J8,Jf,Jg,Jh,Ji,Jj,Jk,J9,Jl,Jm,wr,Jn,JA,JB,Jo,Jp,Jq,Jr,Js,Jt,Ju,Jv,Jw,Jx,Jy,Jz,J0,J1,J2,J3,J4,J5,reduceCtorEq,JC,JD,JE,JF,JG,JH,JI,JJ]) | ((with_reducible (first | apply Ok.br | apply Ok.gd | apply Ok.ld)) <;> (intro g; (try simp only [ZGS] at g); try (exfalso; omega)))))
        exact hq.out
    · rw [if_neg hbig] at hI
      have h1' : ¬ (1048576 : Int) < (n : Int) := by omega
      have h2' : ¬ (r.length : Int) < (n : Int) := by omega
      have hwn : IntKind.i64.wrap (n : Int) = (n : Int) := wrapI (by omega)
      rcases hrd2.kept with ⟨e, _⟩ | ⟨b, hbp, hv, hbc⟩
      · exfalso
        have h3 : st = some bs \/ st = none \/ ∃ r, st = some r := by
          cases st with
          | none => exact .inr (.inl rfl)
          | some r => exact .inr (.inr ⟨r, rfl⟩)
        obtain ⟨k0, _, h4, _⟩ := h.cells
        rcases h3 with h3 | h3 | ⟨r0, h3⟩
        · rw [h3, e] at hx; simp [numD, numF] at hx
        · rw [h3] at hx; cases hx
        · have := h4 _ h3
          rw [e, List.drop_nil] at this
          rw [h3, this] at hx; simp [numD, numF] at hx
      · have hkept := hrd2.kept
        subst hv
        have hp := hcells_lt hcell
        have hb := hcells_lt hbc
        have hK : Keeps [p] g2 (g2.set p (.cells 0 true [.sl (.at b 0 0) bs.length bs.length 1, .int .i64 ((k + n : Nat) : Int), .bool false])) := (Keeps.refl _ _).set (.inl (by simp)) _
        have hrd : RdAt (g2.set p (.cells 0 true [.sl (.at b 0 0) bs.length bs.length 1, .int .i64 ((k + n : Nat) : Int), .bool false])) p (.sl (.at b 0 0) bs.length bs.length 1) bs (some (r.drop n)) :=
          ⟨hkept.keep hK, ⟨k + n, by omega, fun r' e => by cases e; rw [hkr, List.drop_drop], hcells_set_eq hp⟩, hroom⟩
        have hq : Hid (Q (.str ⟨(r.take n).toArray⟩, g2.set p (.cells 0 true [.sl (.at b 0 0) bs.length bs.length 1, .int .i64 ((k + n : Nat) : Int), .bool false]))) :=
          ⟨hQ'.out _ ⟨by rw [hI]; rfl, by rw [hI]; exact hrd, hk2.trans hK⟩⟩
        have hsl : (bs.drop k).take n = r.take n := by rw [hkr]
        have hk1 : (k : Int) + (n : Int) = ((k + n : Nat) : Int) := by omega
        have hk2' : ((k + n : Nat) : Int) - (n : Int) = (k : Int) := by omega
        have hblen : (bV bs).length = bs.length := bV_len bs
        have hle : k + n <= bs.length := by omega
        simp only [Option.isNone_some] at hcell
        have hcut := bV_cut bs k n
        rw [hsl] at hcut
        have hcut0 := bV_cut0 bs n
        have htb := toBytes_bV (r.take n)
        have hkn : k + n - k = n := by omega
        have hk0 : ¬ k = 0 := by
          obtain ⟨k0, _, h4, _⟩ := h.cells
          cases st with
          | none => cases hx
          | some r0 =>
            have h5 := numF_short _ _ _ _ _ hx
            rw [h4 _ rfl, List.length_drop] at h5
            omega
        clear hQ' hrd2 hk2 f1 f2 hI hx h hkr hrl hkept hK hrd hsl hbig
        by_cases hn0 : n = 0
        · have ht0 : r.take n = [] := by rw [hn0]; rfl
          rw [ht0] at hq
          have hz2 : decide (n = 0) = true := decide_eq_true hn0
          have hle0 : k + n <= k := by omega
          clear hcut hcut0 htb ht0
          by_cases hkk : k < bs.length
          · clear hle0 hn0
            (refine Ok.body body72 pin72 ?_; simp only [c72,Try.f72,Option.getD_some,nslot72,List.append_nil,List.map,List.replicate,List.length_cons,List.length_nil,Nat.reduceAdd,Nat.reduceSub,List.cons_append,List.nil_append])
            (repeat' (first | (simp -implicitDefEqProofs (maxSteps := 1000000) (disch := first | assumption | omega | (simp only [ZDI]; omega)) only [*,lenV,SA.add,optArr_s,optArr_n,Array.toList_append,toBytes,G72,Za,Zb,Zc,Zd,Ze,Zf,Zg,Zh,Zi,Zj,Zk,Zl,Zm,Zn,Zo,Ja,Jb,Jc,J6,Jd,Je,J7,J8,Jf,Jg,Jh,Ji,Jj,Jk,J9,Jl,Jm,wr,Jn,JA,JB,Jo,Jp,Jq,Jr,Js,Jt,Ju,Jv,Jw,Jx,Jy,Jz,J0,J1,J2,J3,J4,J5,reduceCtorEq,JC,JD,JE,JF,JG,JH,JI,JJ]) | ((with_reducible (first | apply Ok.br | apply Ok.gd | apply Ok.ld)) <;> (intro g; (try simp only [ZGS] at g); try (exfalso; omega)))))
            exact hq.out
          · clear hn0
            (refine Ok.body body72 pin72 ?_; simp only [c72,Try.f72,Option.getD_some,nslot72,List.append_nil,List.map,List.replicate,List.length_cons,List.length_nil,Nat.reduceAdd,Nat.reduceSub,List.cons_append,List.nil_append])
            (repeat' (first | (simp -implicitDefEqProofs (maxSteps := 1000000) (disch := first | assumption | omega | (simp only [ZDI]; omega)) only [*,lenV,SA.add,optArr_s,optArr_n,Array.toList_append,toBytes,G72,Za,Zb,Zc,Zd,Ze,Zf,Zg,Zh,Zi,Zj,Zk,Zl,Zm,Zn,Zo,Ja,Jb,Jc,J6,Jd,Je,J7,J8,Jf,Jg,Jh,Ji,Jj,Jk,J9,Jl,Jm,wr,Jn,JA,JB,Jo,Jp,Jq,Jr,Js,Jt,Ju,Jv,Jw,Jx,Jy,Jz,J0,J1,J2,J3,J4,J5,reduceCtorEq,JC,JD,JE,JF,JG,JH,JI,JJ]) | ((with_reducible (first | apply Ok.br | apply Ok.gd | apply Ok.ld)) <;> (intro g; (try simp only [ZGS] at g); try (exfalso; omega)))))
            exact hq.out
        · have hkk : k < bs.length := by omega
          (refine Ok.body body72 pin72 ?_; simp only [c72,Try.f72,Option.getD_some,nslot72,List.append_nil,List.map,List.replicate,List.length_cons,List.length_nil,Nat.reduceAdd,Nat.reduceSub,List.cons_append,List.nil_append])
          (repeat' (first | (simp -implicitDefEqProofs (maxSteps := 1000000) (disch := first | assumption | omega | (simp only [ZDI]; omega)) only [*,lenV,SA.add,optArr_s,optArr_n,Array.toList_append,G72,Za,Zb,Zc,Zd,Ze,Zf,Zg,Zh,Zi,Zj,Zk,Zl,Zm,Zn,Zo,Ja,Jb,Jc,J6,Jd,Je,J7,J8,Jf,Jg,Jh,Ji,Jj,Jk,J9,Jl,Jm,wr,Jn,JA,JB,Jo,Jp,Jq,Jr,Js,Jt,Ju,Jv,Jw,Jx,Jy,Jz,J0,J1,J2,J3,J4,J5,reduceCtorEq,JC,JD,JE,JF,JG,JH,JI,JJ]) | ((with_reducible (first | apply Ok.br | apply Ok.gd | apply Ok.ld)) <;> (intro g; (try simp only [ZGS] at g); try (exfalso; omega)))))
          exact hq.out
end Go.Ev
set_option maxRecDepth 100000
namespace Go.Ev
open Go.Proofs
def manyD {α : Type} (d : Dec α) : Nat -> Dec (List α)
  | 0, l => some ([], l)
  | n + 1, l => (d l).bind fun x => (manyD d n x.2).map fun y => (x.1 :: y.1, y.2)
def listD {α : Type} (d : Dec α) : Dec (List α) := fun l => (numD l).bind fun x => if 4096 < x.1 \/ x.2.length < x.1 then none else manyD d x.1 x.2
def GroS {α : Type} (H h : Heap) (v : V) (xs : List α) (f : α -> List V) (z : Nat) : Prop := (xs = [] /\ v = .sl .nil 0 0 0) \/ ∃ b g, H.length <= b /\ 0 < xs.length /\ v = .sl (.at b g 0) xs.length xs.length z /\ hcells h b g = some (true, xs.flatMap f)
theorem flatS_len {α : Type} {f : α -> List V} {z : Nat} (h : ∀ a, (f a).length = z) : ∀ xs : List α, (xs.flatMap f).length = xs.length * z
  | [] => by simp
  | x :: xs => by rw [List.flatMap_cons, List.length_append, h, flatS_len h xs, List.length_cons, Nat.succ_mul]; omega
theorem RdAt.grow {H g g' : Heap} {p : Nat} {v : V} {bs : List UInt8} {st0 st : Option (List UInt8)} (h0 : RdAt H p v bs st0) (h : RdAt g p v bs st) (hk : ∀ i, i < H.length -> g'[i]? = g[i]?) : RdAt g' p v bs st := by
  have hc : ∀ b q x, b < H.length -> hcells g b q = some x -> hcells g' b q = some x := fun b q x hb e => by
    unfold hcells at e ⊢
    rw [hk b hb]; exact e
  obtain ⟨k0, _, _, hp⟩ := h0.cells
  obtain ⟨k, h1, h2, h3⟩ := h.cells
  refine ⟨?_, ⟨k, h1, h2, hc _ _ _ (hcells_lt hp) h3⟩, h.room⟩
  rcases h0.kept with ⟨e1, e2⟩ | ⟨b, e1, e2, e3⟩
  · exact .inl ⟨e1, e2⟩
  · rcases h.kept with ⟨e4, e5⟩ | ⟨b', e4, e5, e6⟩
    · exact .inl ⟨e4, e5⟩
    · rw [e2] at e5
      cases e5
      exact .inr ⟨b, e1, e2, hc _ _ _ (hcells_lt e3) e6⟩
def Listed {α : Type} (H : Heap) (p : Nat) (v : V) (bs : List UInt8) (t : Option (List α × List UInt8)) (f : α -> List V) (z : Nat) (y : V × Heap) : Prop :=
  ((t = none /\ y.1 = .sl .nil 0 0 0) \/ ∃ xs r, t = some (xs, r) /\ GroS H y.2 y.1 xs f z) /\ RdAt y.2 p v bs (t.map (·.2)) /\ Keeps [p] H y.2
def Fetch {α : Type} (dec : Dec α) (f : α -> V) (p : Nat) (v : V) (bs : List UInt8) (st : Option (List UInt8)) (H : Heap) (y : V × Heap) : Prop :=
  ∃ k, y.1 = f k /\ (∀ x, st.bind dec = some x -> k = x.1) /\ RdAt y.2 p v bs ((st.bind dec).map (·.2)) /\ Keeps [p] H y.2
theorem Took.got {α : Type} {dec : Dec α} {d : α} {f : α -> V} {p : Nat} {v : V} {bs : List UInt8} {st : Option (List UInt8)} {H : Heap} {y : V × Heap} (h : Took dec d f p v bs st H y) : Fetch dec f p v bs st H y :=
  ⟨_, h.1, fun x e => by rw [e]; rfl, h.2.1, h.2.2⟩
theorem rdTextG_at {H : Heap} {p : Nat} {v : V} {bs : List UInt8} {st : Option (List UInt8)} (h : RdAt H p v bs st) : Ev.Ok (D X (.fn 72 []) [.ptr p 0 0] H) (Fetch textD .str p v bs st H) :=
  (rdText_at h).mono fun _ h => h.got
end Go.Ev
set_option maxRecDepth 100000
namespace Go.Ev
open Go.Ev renaming exPure -> Ja, ofValue -> Jb, cellsV -> Jc, load -> Jd, store -> Je, binOp -> Jf, intOp -> Jg, rdV -> Jh, vsame -> Ji, vsames -> Jj, makeSliceV -> Jk, resV -> Jl, isCell -> Jm, nilCheckV -> Jn, allV -> Jo, builtinV -> Jp, lenV -> Jq, indexAddrV -> Jr, unOp -> Js, minmaxV -> Jt, minmax -> Ju, sliceV -> Jv, asInt -> Jw, appendV -> Jx, forkB -> Jy, roY -> Jz, rwB -> J0, copyV -> J1, clearV -> J2, convV -> J3, sliceCells -> J4, shift -> J5
open Bool renaming true -> BT, false -> BF
open Nat renaming reduceEqDiff -> J6, reduceLT -> J7, reduceAdd -> J8, reduceBEq -> J9, reduceSub -> JA, reduceMul -> JB, reduceLeDiff -> JJ
open Int renaming reduceLT -> JC, reduceLE -> JD, reduceAdd -> JE, reduceSub -> JF, reduceNeg -> JG, reduceToNat -> JH, reduceEq -> JI
open Go.Proofs
set_option maxHeartbeats 16000000 in
theorem getTexts_at {H : Heap} {p : Nat} {v : V} {bs : List UInt8} {st : Option (List UInt8)} (h : RdAt H p v bs st) : Ev.Ok (D X (.fn 71 []) [.ptr p 0 0, .fn 72 []] H) (Listed H p v bs (st.bind (listD textD)) (fun s : ByteArray => [V.str s]) 1) := by
  refine Ok.aim fun Q hQ => ?_
  have hQ' := Hid.mk hQ
  clear hQ
  obtain ⟨⟨vn, g1⟩, eN, hvn, hrd1, hk1⟩ := rdNum_at h
  dsimp only at hvn hrd1 hk1
  have eBad1 := rdBad_at hrd1
  have eLeft := rdLeft_at hrd1
  have eFail := rdFail_at hrd1
  obtain ⟨f1, f2⟩ := hrd1.fail
  have eBadF := rdBad_at f1
  simp only [Option.isNone_none] at eBadF
  have hI : st.bind (listD textD) = (st.bind numD).bind fun x => if 4096 < x.1 \/ x.2.length < x.1 then none else manyD textD x.1 x.2 := by cases st <;> rfl
  have hbad : ∀ g, st.bind (listD textD) = none -> RdAt g p v bs none -> Keeps [p] H g -> Hid (Q (.sl .nil 0 0 0, g)) := fun g e h1 h2 => ⟨hQ'.out _ ⟨.inl ⟨e, rfl⟩, by rw [e]; exact h1, h2⟩⟩
  cases hx : st.bind numD with
  | none =>
    rw [hx] at hI
    simp only [hx,Option.map_none,Option.getD_none,Option.isNone_none,leftN] at hvn hrd1 eBad1 eLeft
    subst hvn
    have hq := hbad _ hI hrd1 hk1
    have hw0 := wrapU (n := 0) (by omega)
    clear hQ' hrd1 hk1 f1 f2 hI hx h hbad eFail eBadF
    (refine Ok.body body71 pin71 ?_; simp only [c71,Try.f71,Option.getD_some,nslot71,List.append_nil,List.map,List.replicate,List.length_cons,List.length_nil,Nat.reduceAdd,Nat.reduceSub,List.cons_append,List.nil_append])
    (repeat' (first | (simp -implicitDefEqProofs (maxSteps := 1000000) (disch := first | assumption | omega | (simp only [ZDI]; omega)) only [*,G71,Za,Zb,Zc,Zd,Ze,Zf,Zg,Zh,Zi,Zj,Zk,Zl,Zm,Zn,Zo,Ja,Jb,Jc,J6,Jd,Je,J7,J8,Jf,Jg,Jh,Ji,Jj,Jk,J9,Jl,Jm,wr,Jn,JA,JB,Jo,Jp,Jq,Jr,Js,Jt,Ju,Jv,Jw,Jx,Jy,Jz,J0,J1,J2,J3,J4,J5,reduceCtorEq,JC,JD,JE,JF,JG,JH,JI,JJ]) | ((with_reducible (first | apply Ok.br | apply Ok.gd | apply Ok.ld)) <;> (intro g; (try simp only [ZGS] at g); try (exfalso; omega)))))
    refine Ok.unroll ?_
    (repeat' (first | (simp -implicitDefEqProofs (maxSteps := 1000000) (disch := first | assumption | omega | (simp only [ZDI]; omega)) only [*,G71,Za,Zb,Zc,Zd,Ze,Zf,Zg,Zh,Zi,Zj,Zk,Zl,Zm,Zn,Zo,Ja,Jb,Jc,J6,Jd,Je,J7,J8,Jf,Jg,Jh,Ji,Jj,Jk,J9,Jl,Jm,wr,Jn,JA,JB,Jo,Jp,Jq,Jr,Js,Jt,Ju,Jv,Jw,Jx,Jy,Jz,J0,J1,J2,J3,J4,J5,reduceCtorEq,JC,JD,JE,JF,JG,JH,JI,JJ]) | ((with_reducible (first | apply Ok.br | apply Ok.gd | apply Ok.ld)) <;> (intro g; (try simp only [ZGS] at g); try (exfalso; omega)))))
    exact hq.out
  | some x =>
    obtain ⟨n, r⟩ := x
    simp only [hx,Option.bind_some] at hI
    simp only [hx,Option.map_some,Option.getD_some,Option.isNone_some,leftN] at hvn hrd1 eBad1 eLeft
    subst hvn
    have hroom := hrd1.room
    obtain ⟨k, hkl, hkr, hcell⟩ := hrd1.cells
    have hkr := hkr r rfl
    have hrl : r.length = bs.length - k := by rw [hkr, List.length_drop]
    have hwl := wrapU (n := (r.length : Int)) (by omega)
    by_cases hbig : 4096 < n \/ r.length < n
    · rw [if_pos hbig] at hI
      have hq := hbad _ hI f1 (hk1.trans f2)
      have hn1 : (0 : Int) < (n : Int) := by omega
      clear hQ' hrd1 hk1 f1 f2 hI hx h hkr hcell hkl hrl hbad eBad1
      by_cases h1 : 4096 < n
      · have h1' : (4096 : Int) < (n : Int) := by omega
        clear hbig h1
        (refine Ok.body body71 pin71 ?_; simp only [c71,Try.f71,Option.getD_some,nslot71,List.append_nil,List.map,List.replicate,List.length_cons,List.length_nil,Nat.reduceAdd,Nat.reduceSub,List.cons_append,List.nil_append])
        (repeat' (first | (simp -implicitDefEqProofs (maxSteps := 1000000) (disch := first | assumption | omega | (simp only [ZDI]; omega)) only [*,G71,Za,Zb,Zc,Zd,Ze,Zf,Zg,Zh,Zi,Zj,Zk,Zl,Zm,Zn,Zo,Ja,Jb,Jc,J6,Jd,Je,J7,J8,Jf,Jg,Jh,Ji,Jj,Jk,J9,Jl,Jm,wr,Jn,JA,JB,Jo,Jp,Jq,Jr,Js,Jt,Ju,Jv,Jw,Jx,Jy,Jz,J0,J1,J2,J3,J4,J5,reduceCtorEq,JC,JD,JE,JF,JG,JH,JI,JJ]) | ((with_reducible (first | apply Ok.br | apply Ok.gd | apply Ok.ld)) <;> (intro g; (try simp only [ZGS] at g); try (exfalso; omega)))))
        refine Ok.unroll ?_
        (repeat' (first | (simp -implicitDefEqProofs (maxSteps := 1000000) (disch := first | assumption | omega | (simp only [ZDI]; omega)) only [*,G71,Za,Zb,Zc,Zd,Ze,Zf,Zg,Zh,Zi,Zj,Zk,Zl,Zm,Zn,Zo,Ja,Jb,Jc,J6,Jd,Je,J7,J8,Jf,Jg,Jh,Ji,Jj,Jk,J9,Jl,Jm,wr,Jn,JA,JB,Jo,Jp,Jq,Jr,Js,Jt,Ju,Jv,Jw,Jx,Jy,Jz,J0,J1,J2,J3,J4,J5,reduceCtorEq,JC,JD,JE,JF,JG,JH,JI,JJ]) | ((with_reducible (first | apply Ok.br | apply Ok.gd | apply Ok.ld)) <;> (intro g; (try simp only [ZGS] at g); try (exfalso; omega)))))
        exact hq.out
      · have h1' : ¬ (4096 : Int) < (n : Int) := by omega
        have h2' : (r.length : Int) < (n : Int) := by omega
        clear hbig h1
        (refine Ok.body body71 pin71 ?_; simp only [c71,Try.f71,Option.getD_some,nslot71,List.append_nil,List.map,List.replicate,List.length_cons,List.length_nil,Nat.reduceAdd,Nat.reduceSub,List.cons_append,List.nil_append])
        (repeat' (first | (simp -implicitDefEqProofs (maxSteps := 1000000) (disch := first | assumption | omega | (simp only [ZDI]; omega)) only [*,G71,Za,Zb,Zc,Zd,Ze,Zf,Zg,Zh,Zi,Zj,Zk,Zl,Zm,Zn,Zo,Ja,Jb,Jc,J6,Jd,Je,J7,J8,Jf,Jg,Jh,Ji,Jj,Jk,J9,Jl,Jm,wr,Jn,JA,JB,Jo,Jp,Jq,Jr,Js,Jt,Ju,Jv,Jw,Jx,Jy,Jz,J0,J1,J2,J3,J4,J5,reduceCtorEq,JC,JD,JE,JF,JG,JH,JI,JJ]) | ((with_reducible (first | apply Ok.br | apply Ok.gd | apply Ok.ld)) <;> (intro g; (try simp only [ZGS] at g); try (exfalso; omega)))))
        refine Ok.unroll ?_
        (repeat' (first | (simp -implicitDefEqProofs (maxSteps := 1000000) (disch := first | assumption | omega | (simp only [ZDI]; omega)) only [*,G71,Za,Zb,Zc,Zd,Ze,Zf,Zg,Zh,Zi,Zj,Zk,Zl,Zm,Zn,Zo,Ja,Jb,Jc,J6,Jd,Je,J7,J8,Jf,Jg,Jh,Ji,Jj,Jk,J9,Jl,Jm,wr,Jn,JA,JB,Jo,Jp,Jq,Jr,Js,Jt,Ju,Jv,Jw,Jx,Jy,Jz,J0,J1,J2,J3,J4,J5,reduceCtorEq,JC,JD,JE,JF,JG,JH,JI,JJ]) | ((with_reducible (first | apply Ok.br | apply Ok.gd | apply Ok.ld)) <;> (intro g; (try simp only [ZGS] at g); try (exfalso; omega)))))
        exact hq.out
    · rw [if_neg hbig] at hI
      have h1' : ¬ (4096 : Int) < (n : Int) := by omega
      have h2' : ¬ (r.length : Int) < (n : Int) := by omega
      have hn : n <= 4096 := by omega
      have hk1' := Hid.mk hk1
      have h0 := Hid.mk h
      have hrd1' := Hid.mk hrd1
      have hI' := Hid.mk hI
      have hbad' := Hid.mk hbad
      clear hrd1 hk1 f1 f2 hI hx h hkr hcell hkl hrl hbad eBad1 eBadF eFail hbig
      (refine Ok.body body71 pin71 ?_; simp only [c71,Try.f71,Option.getD_some,nslot71,List.append_nil,List.map,List.replicate,List.length_cons,List.length_nil,Nat.reduceAdd,Nat.reduceSub,List.cons_append,List.nil_append])
      (repeat' (first | (simp -implicitDefEqProofs (maxSteps := 1000000) (disch := first | assumption | omega | (simp only [ZDI]; omega)) only [*,G71,Za,Zb,Zc,Zd,Ze,Zf,Zg,Zh,Zi,Zj,Zk,Zl,Zm,Zn,Zo,Ja,Jb,Jc,J6,Jd,Je,J7,J8,Jf,Jg,Jh,Ji,Jj,Jk,J9,Jl,Jm,wr,Jn,JA,JB,Jo,Jp,Jq,Jr,Js,Jt,Ju,Jv,Jw,Jx,Jy,Jz,J0,J1,J2,J3,J4,J5,reduceCtorEq,JC,JD,JE,JF,JG,JH,JI,JJ]) | ((with_reducible (first | apply Ok.br | apply Ok.gd | apply Ok.ld)) <;> (intro g; (try simp only [ZGS] at g); try (exfalso; omega)))))
      clear eN eLeft hwl h1' h2'
      refine Ok.loop [BF, BF, BF, BF, BF, BF, BT, BT, BF, BF, BF, BF, BF, BF, BF, BF, BF, BF, BF, BF, BF, BT, BT, BT, BT, BT, BT, BT, BT, BT, BT, BT, BT, BT, BT, BT, BT, BF, BF, BF] (fun m s2 => ∃ (i : Nat) (st' : Option (List UInt8)) (w : Nat) (q : List V), m = n - i /\ i <= n /\ tv s2.e 7 = .v (.int .u64 (i : Nat)) /\ s2.l = [(w, q)] /\ RdAt s2.h p v bs st' /\ Keeps [p] H s2.h /\
          ((st' = none /\ manyD textD n r = none) \/ ∃ r' xs vv, st' = some r' /\ tv s2.e 6 = .v vv /\ GroS H s2.h vv xs (fun s : ByteArray => [V.str s]) 1 /\ xs.length = i /\ manyD textD n r = (manyD textD (n - i) r').map fun y => (xs ++ y.1, y.2)))
        (fun y s2 => y = .exit 0 /\ ∃ (w : Nat) (q : List V), s2.l = [(w, q)] /\ RdAt s2.h p v bs ((manyD textD n r).map (·.2)) /\ Keeps [p] H s2.h /\
          (manyD textD n r = none \/ ∃ xs r' vv, manyD textD n r = some (xs, r') /\ tv s2.e 6 = .v vv /\ GroS H s2.h vv xs (fun s : ByteArray => [V.str s]) 1))
        (n - 0) ⟨0, some r, 0, [], rfl, Nat.zero_le _, rfl, rfl, hrd1'.out, hk1'.out, .inr ⟨r, [], _, rfl, rfl, .inl ⟨rfl, rfl⟩, rfl, by rw [Nat.sub_zero]; cases manyD textD n r <;> rfl⟩⟩ ?_ ?_
      · intro m ⟨e', l', g⟩ hW ⟨i, st', w, q, hm, hi, h7, k2, hrd, hk, hcase⟩
        dsimp only at hW h7 k2 hrd hk hcase
        subst l'
        rw [hW.spread]
        have eBad := rdBad_at hrd
        by_cases hlt : i < n
        · have hlt' : (i : Int) < (n : Int) := by omega
          rcases hcase with ⟨rfl, hnone⟩ | ⟨r', xs, vv, rfl, h6, hgro, hxl, hmany⟩
          · simp only [spread_t,spread_f,spread_n,Nat.zero_add,Nat.reduceAdd,h7]
            clear hW hQ'
            simp only [Option.isNone_none] at eBad
            have hT := Hid.mk hnone
            have hrdd := Hid.mk hrd
            have hkd := Hid.mk hk
            clear hnone hrd hk
            (repeat' (first | (simp -implicitDefEqProofs (maxSteps := 1000000) (disch := first | assumption | omega | (simp only [ZDI]; omega)) only [*,G71,Za,Zb,Zc,Zd,Ze,Zf,Zg,Zh,Zi,Zj,Zk,Zl,Zm,Zn,Zo,Ja,Jb,Jc,J6,Jd,Je,J7,J8,Jf,Jg,Jh,Ji,Jj,Jk,J9,Jl,Jm,wr,Jn,JA,JB,Jo,Jp,Jq,Jr,Js,Jt,Ju,Jv,Jw,Jx,Jy,Jz,J0,J1,J2,J3,J4,J5,reduceCtorEq,JC,JD,JE,JF,JG,JH,JI,JJ]) | ((with_reducible (first | apply Ok.br | apply Ok.gd | apply Ok.ld)) <;> (intro g; (try simp only [ZGS] at g); try (exfalso; omega)))))
            exact Turn.exit ⟨rfl, rfl, w, q, rfl, by rw [hT.out]; exact hrdd.out, hkd.out, .inl hT.out⟩
          · simp only [spread_t,spread_f,spread_n,Nat.zero_add,Nat.reduceAdd,h7,h6]
            clear hW hQ'
            simp only [Option.isNone_some] at eBad
            obtain ⟨⟨vk, g2⟩, eG, x, hv, hxk, hrd2, hk2⟩ := rdTextG_at hrd
            dsimp only at hv hrd2 hk2
            subst hv
            obtain ⟨kp, _, _, hpc⟩ := h0.out.cells
            have hpl := hcells_lt hpc
            have hkk := hk.trans hk2
            have hwi : IntKind.u64.wrap ((i : Int) + 1) = ((i + 1 : Nat) : Int) := by rw [wrapU (by omega)]; omega
            have hnext : ∀ vv2 g3, (∀ j, j < H.length -> g3[j]? = g2[j]?) -> H.length <= g3.length -> GroS H g3 vv2 (xs ++ [x]) (fun s : ByteArray => [V.str s]) 1 -> ∃ st2, RdAt g3 p v bs st2 /\ Keeps [p] H g3 /\
                ((st2 = none /\ manyD textD n r = none) \/ ∃ r2 ys, st2 = some r2 /\ GroS H g3 vv2 ys (fun s : ByteArray => [V.str s]) 1 /\ ys.length = i + 1 /\ manyD textD n r = (manyD textD (n - (i + 1)) r2).map fun y => (ys ++ y.1, y.2)) := by
              intro vv2 g3 hg hgl hgro2
              refine ⟨_, h0.out.grow hrd2 hg, ⟨hgl, fun j hj hF => (hg j hj).trans (hkk.2 j hj hF)⟩, ?_⟩
              have e1 : n - i = (n - (i + 1)) + 1 := by omega
              rw [e1, manyD] at hmany
              cases hd : textD r' with
              | none =>
                left
                rw [hmany, hd]
                exact ⟨by show Option.map _ (textD r') = none; rw [hd]; rfl, rfl⟩
              | some z =>
                right
                have hxz := hxk z hd
                refine ⟨z.2, xs ++ [x], by show Option.map _ (textD r') = _; rw [hd]; rfl, hgro2, by simp [hxl], ?_⟩
                rw [hmany, hd, hxz]
                simp only [Option.bind_some,Option.map_map,Function.comp_def,List.append_assoc,List.cons_append,List.nil_append]
            have hnext' := Hid.mk hnext
            have hbk : ∀ b, H.length <= b -> b ∉ [p] := fun b hb => by simp; omega
            have hHl := hkk.1
            rcases hgro with ⟨rfl, rfl⟩ | ⟨b, q0, hb, hxs, rfl, hc⟩
            · clear hnext hrd hk hrd2 hk2 hkk hmany hxk
              (repeat' (first | (simp -implicitDefEqProofs (maxSteps := 1000000) (disch := first | assumption | omega | (simp only [ZDI]; omega)) only [*,lenV,G71,Za,Zb,Zc,Zd,Ze,Zf,Zg,Zh,Zi,Zj,Zk,Zl,Zm,Zn,Zo,Ja,Jb,Jc,J6,Jd,Je,J7,J8,Jf,Jg,Jh,Ji,Jj,Jk,J9,Jl,Jm,wr,Jn,JA,JB,Jo,Jp,Jq,Jr,Js,Jt,Ju,Jv,Jw,Jx,Jy,Jz,J0,J1,J2,J3,J4,J5,reduceCtorEq,JC,JD,JE,JF,JG,JH,JI,JJ]) | ((with_reducible (first | apply Ok.br | apply Ok.gd | apply Ok.ld)) <;> (intro g; (try simp only [ZGS] at g); try (exfalso; omega)))))
              obtain ⟨st2, a1, a2, a3⟩ := hnext'.out (.sl (.at g2.length 0 0) 1 1 1) (g2 ++ [.cells 0 true ((fun s : ByteArray => [V.str s]) x)]) (fun j hj => List.getElem?_append_left (by omega)) (by simp; omega) (.inr ⟨g2.length, 0, hHl, by simp, rfl, hc_new⟩)
              refine Turn.next (n - (i + 1)) (by omega) ⟨rfl, i + 1, st2, _, _, rfl, by omega, rfl, rfl, a1, a2, ?_⟩
              rcases a3 with a3 | ⟨r2, ys, a4, a5, a6, a7⟩
              · exact .inl a3
              · exact .inr ⟨r2, ys, _, a4, rfl, a5, a6, a7⟩
            · have hc2 := hk2.cells hc (hbk b hb)
              have hbl := hcells_lt hc2
              have hfl : (xs.flatMap (fun s : ByteArray => [V.str s])).length = xs.length * 1 := flatS_len (f := (fun s : ByteArray => [V.str s])) (z := 1) (fun _ => rfl) xs
              have htk : (xs.flatMap (fun s : ByteArray => [V.str s])).take (xs.length * 1) = xs.flatMap (fun s : ByteArray => [V.str s]) := List.take_of_length_le (by rw [hfl]; exact Nat.le_refl _)
              have htk1 := htk
              rw [Nat.mul_one] at htk1
              have hn1 : ¬ (xs.length + 1 <= xs.length) := by omega
              have hL : (xs.length + 1) * 16 <= 35184372088832 /\ xs.length + 1 <= 35184372088832 := by omega
              clear hnext hrd hk hrd2 hk2 hkk hmany hc hxk hxl
              (repeat' (first | (simp -implicitDefEqProofs (maxSteps := 1000000) (disch := first | assumption | omega | (simp only [ZDI]; omega)) only [*,lenV,List.drop_zero,Nat.mul_one,Nat.zero_add,G71,Za,Zb,Zc,Zd,Ze,Zf,Zg,Zh,Zi,Zj,Zk,Zl,Zm,Zn,Zo,Ja,Jb,Jc,J6,Jd,Je,J7,J8,Jf,Jg,Jh,Ji,Jj,Jk,J9,Jl,Jm,wr,Jn,JA,JB,Jo,Jp,Jq,Jr,Js,Jt,Ju,Jv,Jw,Jx,Jy,Jz,J0,J1,J2,J3,J4,J5,reduceCtorEq,JC,JD,JE,JF,JG,JH,JI,JJ]) | ((with_reducible (first | apply Ok.br | apply Ok.gd | apply Ok.ld)) <;> (intro g; (try simp only [ZGS] at g); try (exfalso; omega)))))
              obtain ⟨st2, a1, a2, a3⟩ := hnext'.out (.sl (.at b (q0 + 1) 0) (xs.length + 1) (xs.length + 1) 1) (g2.set b (.cells (q0 + 1) true (xs.flatMap (fun s : ByteArray => [V.str s]) ++ (fun s : ByteArray => [V.str s]) x))) (fun j hj => List.getElem?_set_ne (by omega)) (by simp; omega)
                (.inr ⟨b, q0 + 1, hb, by simp, by simp, by rw [hcells_set_eq hbl, List.flatMap_append]; simp⟩)
              refine Turn.next (n - (i + 1)) (by omega) ⟨rfl, i + 1, st2, _, _, rfl, by omega, rfl, rfl, a1, a2, ?_⟩
              rcases a3 with a3 | ⟨r2, ys, a4, a5, a6, a7⟩
              · exact .inl a3
              · exact .inr ⟨r2, ys, _, a4, rfl, a5, a6, a7⟩
        · have hlt' : ¬ (i : Int) < (n : Int) := by omega
          have hpost : Hid (RdAt g p v bs ((manyD textD n r).map (·.2)) /\ (manyD textD n r = none \/ ∃ xs r' vv, manyD textD n r = some (xs, r') /\ tv e' 6 = .v vv /\ GroS H g vv xs (fun s : ByteArray => [V.str s]) 1)) := by
            refine ⟨?_⟩
            rcases hcase with ⟨rfl, hnone⟩ | ⟨r', xs, vv, rfl, h6, hgro, hxl, hmany⟩
            · rw [hnone]; exact ⟨hrd, .inl rfl⟩
            · have e0 : n - i = 0 := by omega
              rw [e0, manyD] at hmany
              rw [hmany]
              exact ⟨hrd, .inr ⟨xs, r', vv, by simp, h6, hgro⟩⟩
          have hkd := Hid.mk hk
          simp only [spread_t,spread_f,spread_n,Nat.zero_add,Nat.reduceAdd,h7]
          clear hW hQ' hcase hrd hk
          (repeat' (first | (simp -implicitDefEqProofs (maxSteps := 1000000) (disch := first | assumption | omega | (simp only [ZDI]; omega)) only [*,G71,Za,Zb,Zc,Zd,Ze,Zf,Zg,Zh,Zi,Zj,Zk,Zl,Zm,Zn,Zo,Ja,Jb,Jc,J6,Jd,Je,J7,J8,Jf,Jg,Jh,Ji,Jj,Jk,J9,Jl,Jm,wr,Jn,JA,JB,Jo,Jp,Jq,Jr,Js,Jt,Ju,Jv,Jw,Jx,Jy,Jz,J0,J1,J2,J3,J4,J5,reduceCtorEq,JC,JD,JE,JF,JG,JH,JI,JJ]) | ((with_reducible (first | apply Ok.br | apply Ok.gd | apply Ok.ld)) <;> (intro g; (try simp only [ZGS] at g); try (exfalso; omega)))))
          exact Turn.exit ⟨rfl, rfl, w, q, rfl, hpost.out.1, hkd.out, hpost.out.2⟩
      · intro y ⟨e', l', g⟩ hW ⟨hy, w, q, k2, hrd, hk, hcase⟩
        dsimp only at hW k2 hrd hk hcase
        subst l' hy
        rw [hW.spread]
        clear hW
        have eBad := rdBad_at hrd
        rcases hcase with hnone | ⟨xs, r', vv, hsome, h6, hgro⟩
        · simp only [hnone,Option.map_none,Option.isNone_none] at eBad hrd
          simp only [spread_t,spread_f,spread_n,Nat.zero_add,Nat.reduceAdd]
          have hq := hbad'.out _ (hI'.out.trans hnone) hrd hk
          clear hQ' hrd hk hnone
          (repeat' (first | (simp -implicitDefEqProofs (maxSteps := 1000000) (disch := first | assumption | omega | (simp only [ZDI]; omega)) only [*,G71,Za,Zb,Zc,Zd,Ze,Zf,Zg,Zh,Zi,Zj,Zk,Zl,Zm,Zn,Zo,Ja,Jb,Jc,J6,Jd,Je,J7,J8,Jf,Jg,Jh,Ji,Jj,Jk,J9,Jl,Jm,wr,Jn,JA,JB,Jo,Jp,Jq,Jr,Js,Jt,Ju,Jv,Jw,Jx,Jy,Jz,J0,J1,J2,J3,J4,J5,reduceCtorEq,JC,JD,JE,JF,JG,JH,JI,JJ]) | ((with_reducible (first | apply Ok.br | apply Ok.gd | apply Ok.ld)) <;> (intro g; (try simp only [ZGS] at g); try (exfalso; omega)))))
          exact hq.out
        · simp only [hsome,Option.map_some,Option.isNone_some] at eBad hrd
          simp only [spread_t,spread_f,spread_n,Nat.zero_add,Nat.reduceAdd,h6]
          have hq : Hid (Q (vv, g)) := ⟨hQ'.out _ ⟨.inr ⟨xs, r', hI'.out.trans hsome, hgro⟩, by rw [hI'.out, hsome]; exact hrd, hk⟩⟩
          clear hQ' hrd hk hsome hgro
          (repeat' (first | (simp -implicitDefEqProofs (maxSteps := 1000000) (disch := first | assumption | omega | (simp only [ZDI]; omega)) only [*,G71,Za,Zb,Zc,Zd,Ze,Zf,Zg,Zh,Zi,Zj,Zk,Zl,Zm,Zn,Zo,Ja,Jb,Jc,J6,Jd,Je,J7,J8,Jf,Jg,Jh,Ji,Jj,Jk,J9,Jl,Jm,wr,Jn,JA,JB,Jo,Jp,Jq,Jr,Js,Jt,Ju,Jv,Jw,Jx,Jy,Jz,J0,J1,J2,J3,J4,J5,reduceCtorEq,JC,JD,JE,JF,JG,JH,JI,JJ]) | ((with_reducible (first | apply Ok.br | apply Ok.gd | apply Ok.ld)) <;> (intro g; (try simp only [ZGS] at g); try (exfalso; omega)))))
          exact hq.out
end Go.Ev
set_option maxRecDepth 100000
namespace Go.Ev
open Go.Ev renaming exPure -> Ja, ofValue -> Jb, cellsV -> Jc, load -> Jd, store -> Je, binOp -> Jf, intOp -> Jg, rdV -> Jh, vsame -> Ji, vsames -> Jj, makeSliceV -> Jk, resV -> Jl, isCell -> Jm, nilCheckV -> Jn, allV -> Jo, builtinV -> Jp, lenV -> Jq, indexAddrV -> Jr, unOp -> Js, minmaxV -> Jt, minmax -> Ju, sliceV -> Jv, asInt -> Jw, appendV -> Jx, forkB -> Jy, roY -> Jz, rwB -> J0, copyV -> J1, clearV -> J2, convV -> J3, sliceCells -> J4, shift -> J5
open Bool renaming true -> BT, false -> BF
open Nat renaming reduceEqDiff -> J6, reduceLT -> J7, reduceAdd -> J8, reduceBEq -> J9, reduceSub -> JA, reduceMul -> JB, reduceLeDiff -> JJ
open Int renaming reduceLT -> JC, reduceLE -> JD, reduceAdd -> JE, reduceSub -> JF, reduceNeg -> JG, reduceToNat -> JH, reduceEq -> JI
open Go.Proofs
def vl {α : Type} (x : Option (α × List UInt8)) (d : α) : α := (x.map (·.1)).getD d
def rs {α : Type} (x : Option (α × List UInt8)) : Option (List UInt8) := x.map (·.2)
theorem took_step {α : Type} {dec : Dec α} {d : α} {f : α -> V} {fn : V} {args : List V} {H g : Heap} {p : Nat} {v : V} {bs : List UInt8} {st0 st : Option (List UInt8)}
    (hF : ∀ G, RdAt G p v bs st -> Ev.Ok (D X fn args G) (Took dec d f p v bs st G)) (h : RdAt H p v bs st0) (hrd : RdAt g p v bs st) (hk : Keeps [p] H g) {cs : List V} (hc : hcells g H.length 0 = some (true, cs)) (cs' : List V) :
    ∃ x a g', x = st.bind dec /\ a = vl x d /\ D X fn args (g.set H.length (.cells 0 true cs')) = some (f a, g') /\ RdAt g' p v bs (rs x) /\ Keeps [p] H g' /\ hcells g' H.length 0 = some (true, cs') /\ H.length < g'.length /\ Keeps [p, H.length] g g' := by
  obtain ⟨kp, _, _, hp⟩ := h.cells
  have hpl := hcells_lt hp
  have hcl := hcells_lt hc
  have h1 : RdAt (g.set H.length (.cells 0 true cs')) p v bs st := h.grow hrd fun i hi => List.getElem?_set_ne (by omega)
  obtain ⟨⟨w, g'⟩, e, hv, hr, hk2⟩ := hF _ h1
  dsimp only at hv hr hk2
  subst hv
  have hc' := hk2.cells (hcells_set_eq hcl) (by simp; omega)
  exact ⟨_, _, g', rfl, rfl, e, hr, (hk.set (.inr (Nat.le_refl _)) _).trans ⟨hk2.1, hk2.2⟩, hc', hcells_lt hc', ((Keeps.refl [p, H.length] g).set (.inl (by simp)) _).trans ⟨hk2.1, fun i hi hF => hk2.2 i hi fun e => hF (by simp at e; simp [e])⟩⟩
theorem GroS.keep {α : Type} {H h h' : Heap} {v : V} {xs : List α} {f : α -> List V} {z p : Nat} (hg : GroS H h v xs f z) (hk : Keeps [p] h h') (hp : p < H.length) : GroS H h' v xs f z := by
  rcases hg with hg | ⟨b, g, h1, h2, h3, h4⟩
  · exact .inl hg
  · exact .inr ⟨b, g, h1, h2, h3, hk.cells h4 (by simp; omega)⟩
theorem GroS.set {α : Type} {H h : Heap} {v : V} {xs : List α} {f : α -> List V} {z i : Nat} (hg : GroS H h v xs f z) (hi : i < H.length) (x : Blk) : GroS H (h.set i x) v xs f z := by
  rcases hg with hg | ⟨b, g, h1, h2, h3, h4⟩
  · exact .inl hg
  · exact .inr ⟨b, g, h1, h2, h3, by rw [hcells_set_ne (by omega)]; exact h4⟩
theorem GroS.low {α : Type} {H0 H h : Heap} {v : V} {xs : List α} {f : α -> List V} {z : Nat} (hg : GroS H h v xs f z) (hl : H0.length <= H.length) : GroS H0 h v xs f z := by
  rcases hg with hg | ⟨b, g, h1, h2, h3, h4⟩
  · exact .inl hg
  · exact .inr ⟨b, g, by omega, h2, h3, h4⟩
theorem manyD_len {α : Type} {d : Dec α} : ∀ {n : Nat} {l : List UInt8} {xs : List α} {r : List UInt8}, manyD d n l = some (xs, r) -> xs.length = n
  | 0, l, xs, r, h => by cases h; rfl
  | n + 1, l, xs, r, h => by
    rw [manyD] at h
    cases hd : d l with
    | none => rw [hd] at h; cases h
    | some x =>
      rw [hd, Option.bind_some] at h
      cases hm : manyD d n x.2 with
      | none => rw [hm] at h; cases h
      | some y =>
        rw [hm] at h
        cases h
        rw [List.length_cons, manyD_len (xs := y.1) (r := y.2) hm]
theorem listD_len {α : Type} {d : Dec α} {st : Option (List UInt8)} {xs : List α} {r : List UInt8} (h : st.bind (listD d) = some (xs, r)) : xs.length <= 4096 := by
  cases st with
  | none => cases h
  | some l =>
    rw [Option.bind_some, listD] at h
    cases hn : numD l with
    | none => rw [hn] at h; cases h
    | some x =>
      rw [hn, Option.bind_some] at h
      split at h
      · cases h
      · have := manyD_len h; omega
theorem GroS.strs {H h : Heap} {v : V} {xs : List ByteArray} (hg : GroS H h v xs (fun s => [V.str s]) 1) (hl : xs.length <= 4096) : StrsAt h v xs := by
  rcases hg with ⟨rfl, rfl⟩ | ⟨b, g, h1, h2, h3, h4⟩
  · exact ⟨.nil, 0, 0, rfl, by simp, trivial, .inl rfl⟩
  · refine ⟨_, _, _, h3, by omega, trivial, .inr ⟨b, g, 0, _, _, rfl, h4, fun i s hs => ?_⟩⟩
    rw [Nat.zero_add]
    have : ∀ (l : List ByteArray) (j : Nat), l[j]? = some s -> (l.flatMap fun s => [V.str s])[j]? = some (.str s) := by
      intro l
      induction l with
      | nil => intro j hj; simp at hj
      | cons y l ih =>
        intro j hj
        rw [List.flatMap_cons]
        cases j with
        | zero => simp at hj; subst hj; rfl
        | succ j => simpa using ih j (by simpa using hj)
    exact this xs i hs
abbrev CmT := Int × Int × Int × Int × Int × List ByteArray
def cmdD : Dec CmT := fun l => (byteD l).bind fun x0 => (intD x0.2).bind fun x1 => (intD x1.2).bind fun x2 => (intD x2.2).bind fun x3 => (intD x3.2).bind fun x4 => (listD textD x4.2).bind fun x5 => some ((((x0.1.toNat : Nat) : Int), x1.1, x2.1, x3.1, x4.1, x5.1), x5.2)
def CmdTook (p : Nat) (v : V) (bs : List UInt8) (st : Option (List UInt8)) (H : Heap) (y : V × Heap) : Prop :=
  ∃ o c q f t dv dl, y.1 = .agg (cmV o c q f t dv) /\ GroS H y.2 dv dl (fun s => [V.str s]) 1 /\ ((st.bind cmdD = none /\ o = 0 /\ c = 0 /\ q = 0 /\ f = 0 /\ t = 0 /\ dv = .sl .nil 0 0 0 /\ dl = []) \/ ∃ r, st.bind cmdD = some ((o, c, q, f, t, dl), r) /\ dl.length <= 4096) /\ RdAt y.2 p v bs ((st.bind cmdD).map (·.2)) /\ Keeps [p] H y.2
theorem cmdD_run {st : Option (List UInt8)} {x0 : Option (UInt8 × List UInt8)} {x1 x2 x3 x4 : Option (Int × List UInt8)} {x5 : Option (List ByteArray × List UInt8)} (h0 : x0 = st.bind byteD) (h1 : x1 = (rs x0).bind intD) (h2 : x2 = (rs x1).bind intD) (h3 : x3 = (rs x2).bind intD) (h4 : x4 = (rs x3).bind intD) (h5 : x5 = (rs x4).bind (listD textD)) :
    st.bind cmdD = x5.map fun y => (((((vl x0 0).toNat : Nat) : Int), vl x1 0, vl x2 0, vl x3 0, vl x4 0, y.1), y.2) := by
  have e : st.bind cmdD = x0.bind fun x0 => (intD x0.2).bind fun x1 => (intD x1.2).bind fun x2 => (intD x2.2).bind fun x3 => (intD x3.2).bind fun x4 => (listD textD x4.2).bind fun x5 => some ((((x0.1.toNat : Nat) : Int), x1.1, x2.1, x3.1, x4.1, x5.1), x5.2) := by rw [h0]; cases st <;> rfl
  rw [e]
  clear e h0
  cases x0 with
  | none => subst h1; cases h2; cases h3; cases h4; subst h5; rfl
  | some x0 =>
    simp only [rs,Option.map_some,Option.bind_some] at h1 ⊢
    rw [<- h1]
    cases x1 with
    | none => cases h2; cases h3; cases h4; subst h5; rfl
    | some x1 =>
      simp only [rs,Option.map_some,Option.bind_some] at h2 ⊢
      rw [<- h2]
      cases x2 with
      | none => cases h3; cases h4; subst h5; rfl
      | some x2 =>
        simp only [rs,Option.map_some,Option.bind_some] at h3 ⊢
        rw [<- h3]
        cases x3 with
        | none => cases h4; subst h5; rfl
        | some x3 =>
          simp only [rs,Option.map_some,Option.bind_some] at h4 ⊢
          rw [<- h4]
          cases x4 with
          | none => subst h5; rfl
          | some x4 =>
            simp only [rs,Option.map_some,Option.bind_some] at h5 ⊢
            rw [<- h5]
            cases x5 <;> rfl
set_option maxHeartbeats 16000000 in
theorem rdCmd_at {H : Heap} {p : Nat} {v : V} {bs : List UInt8} {st : Option (List UInt8)} (h : RdAt H p v bs st) : Ev.Ok (D X (.fn 40 []) [.ptr p 0 0] H) (CmdTook p v bs st H) := by
  refine Ok.aim fun Q hQ => ?_
  have hQ' := Hid.mk hQ
  clear hQ
  obtain ⟨kp, _, _, hp⟩ := h.cells
  have hpl := hcells_lt hp
  obtain ⟨⟨w0, g0⟩, e0, hv0, r0, k0⟩ := rdByte_at (h.keep (Keeps.app [] H [.cells 0 true [.int .i64 0, .int .i64 0, .int .i64 0, .int .i64 0, .int .i64 0, .sl .nil 0 0 0]]))
  dsimp only at hv0 r0 k0
  have c0 := k0.cells hc_new (by simp; omega)
  have l0 := hcells_lt c0
  obtain ⟨x0, hx0⟩ : ∃ x, x = st.bind byteD := ⟨_, rfl⟩
  obtain ⟨a0, ha0⟩ : ∃ a, a = (vl x0 0).toNat := ⟨_, rfl⟩
  have hb0 : a0 < 256 := by rw [ha0]; exact UInt8.toNat_lt _
  rw [<- hx0] at hv0 r0
  change w0 = .int .u8 (((vl x0 0).toNat : Nat) : Int) at hv0
  change RdAt g0 p v bs (rs x0) at r0
  rw [<- ha0] at hv0
  subst hv0
  obtain ⟨x1, a1, g1, hx1, ha1, e1, r1, k1, c1, l1, _⟩ := took_step (fun G hG => rdInt_at hG) h r0 ((Keeps.app [p] H _).trans k0) c0 [.int .i64 (a0 : Nat), .int .i64 0, .int .i64 0, .int .i64 0, .int .i64 0, .sl .nil 0 0 0]
  obtain ⟨x2, a2, g2, hx2, ha2, e2, r2, k2, c2, l2, _⟩ := took_step (fun G hG => rdInt_at hG) h r1 k1 c1 [.int .i64 (a0 : Nat), .int .i64 a1, .int .i64 0, .int .i64 0, .int .i64 0, .sl .nil 0 0 0]
  obtain ⟨x3, a3, g3, hx3, ha3, e3, r3, k3, c3, l3, _⟩ := took_step (fun G hG => rdInt_at hG) h r2 k2 c2 [.int .i64 (a0 : Nat), .int .i64 a1, .int .i64 a2, .int .i64 0, .int .i64 0, .sl .nil 0 0 0]
  obtain ⟨x4, a4, g4, hx4, ha4, e4, r4, k4, c4, l4, _⟩ := took_step (fun G hG => rdInt_at hG) h r3 k3 c3 [.int .i64 (a0 : Nat), .int .i64 a1, .int .i64 a2, .int .i64 a3, .int .i64 0, .sl .nil 0 0 0]
  have r4' : RdAt (g4.set H.length (.cells 0 true [.int .i64 (a0 : Nat), .int .i64 a1, .int .i64 a2, .int .i64 a3, .int .i64 a4, .sl .nil 0 0 0])) p v bs (rs x4) := h.grow r4 fun i hi => List.getElem?_set_ne (by omega)
  obtain ⟨⟨w5, g5⟩, e5, hv5, r5, k5⟩ := getTexts_at r4'
  obtain ⟨x5, hx5⟩ : ∃ x, x = (rs x4).bind (listD textD) := ⟨_, rfl⟩
  dsimp only at hv5 r5 k5
  rw [<- hx5] at hv5 r5
  have c5 := k5.cells (hcells_set_eq l4) (by simp; omega)
  have l5 := hcells_lt c5
  have K5 : Keeps [p] H g5 := (k4.set (.inr (Nat.le_refl _)) _).trans ⟨k5.1, fun i hi hF => k5.2 i hi hF⟩
  have hrun := cmdD_run hx0 hx1 hx2 hx3 hx4 hx5
  rw [<- ha0, <- ha1, <- ha2, <- ha3, <- ha4] at hrun
  have hsl : ∃ s n c z, w5 = .sl s n c z := by
    rcases hv5 with ⟨_, rfl⟩ | ⟨xs, r, _, ⟨_, rfl⟩ | ⟨b, q, _, _, rfl, _⟩⟩
    · exact ⟨_, _, _, _, rfl⟩
    · exact ⟨_, _, _, _, rfl⟩
    · exact ⟨_, _, _, _, rfl⟩
  have r6 : RdAt (g5.set H.length (.cells 0 true [.int .i64 (a0 : Nat), .int .i64 a1, .int .i64 a2, .int .i64 a3, .int .i64 a4, w5])) p v bs (rs x5) := h.grow r5 fun i hi => List.getElem?_set_ne (by omega)
  have eBad := rdBad_at r6
  have hst : (st.bind cmdD).map (·.2) = rs x5 := by rw [hrun]; cases x5 <;> rfl
  have hfin : ∀ o c q f t dv dl cs, GroS (g4.set H.length (.cells 0 true [.int .i64 (a0 : Nat), .int .i64 a1, .int .i64 a2, .int .i64 a3, .int .i64 a4, .sl .nil 0 0 0])) g5 dv dl (fun s => [V.str s]) 1 -> ((st.bind cmdD = none /\ o = 0 /\ c = 0 /\ q = 0 /\ f = 0 /\ t = 0 /\ dv = .sl .nil 0 0 0 /\ dl = []) \/ ∃ r, st.bind cmdD = some ((o, c, q, f, t, dl), r) /\ dl.length <= 4096) -> Q (.agg (cmV o c q f t dv), g5.set H.length (.cells 0 true cs)) := fun o c q f t dv dl cs z1 z2 =>
    hQ'.out _ ⟨o, c, q, f, t, dv, dl, rfl, (z1.set (by simpa using l4) _).low (by have := k4.1; simp; omega), z2, by rw [hst]; exact h.grow r5 fun i hi => List.getElem?_set_ne (by omega), K5.set (.inr (Nat.le_refl _)) _⟩
  clear r0 r1 r2 r3 r4 r4' r5 r6 k0 k1 k2 k3 k4 k5 K5 hx0 hx1 hx2 hx3 hx4 ha0 ha1 ha2 ha3 ha4 hQ' hst h hp
  cases x5 with
  | none =>
    have hw : w5 = .sl .nil 0 0 0 := by
      rcases hv5 with ⟨_, e⟩ | ⟨xs, r, e, _⟩
      · exact e
      · cases e
    subst hw
    simp only [rs,Option.map_none,Option.isNone_none] at eBad
    have hq : ∀ cs, Q (.agg (cmV 0 0 0 0 0 (.sl .nil 0 0 0)), g5.set H.length (.cells 0 true cs)) := fun cs => hfin 0 0 0 0 0 _ [] cs (.inl ⟨rfl, rfl⟩) (.inl ⟨hrun, rfl, rfl, rfl, rfl, rfl, rfl, rfl⟩)
    have hq' := Hid.mk hq
    clear hfin hrun hq hv5 hsl hx5
    (refine Ok.body body40 pin40 ?_; simp only [c40,Try.f40,Option.getD_some,nslot40,List.append_nil,List.map,List.replicate,List.length_cons,List.length_nil,Nat.reduceAdd,Nat.reduceSub,List.cons_append,List.nil_append])
    (repeat' (first | (simp -implicitDefEqProofs (maxSteps := 1000000) (disch := first | assumption | omega | (simp only [ZDI]; omega)) only [*,lenV,G40,Za,Zb,Zc,Zd,Ze,Zf,Zg,Zh,Zi,Zj,Zk,Zl,Zm,Zn,Zo,Ja,Jb,Jc,J6,Jd,Je,J7,J8,Jf,Jg,Jh,Ji,Jj,Jk,J9,Jl,Jm,wr,Jn,JA,JB,Jo,Jp,Jq,Jr,Js,Jt,Ju,Jv,Jw,Jx,Jy,Jz,J0,J1,J2,J3,J4,J5,reduceCtorEq,JC,JD,JE,JF,JG,JH,JI,JJ]) | ((with_reducible (first | apply Ok.br | apply Ok.gd | apply Ok.ld)) <;> (intro g; (try simp only [ZGS] at g); try (exfalso; omega)))))
    refine Ok.unroll ?_
    (repeat' (first | (simp -implicitDefEqProofs (maxSteps := 1000000) (disch := first | assumption | omega | (simp only [ZDI]; omega)) only [*,lenV,G40,Za,Zb,Zc,Zd,Ze,Zf,Zg,Zh,Zi,Zj,Zk,Zl,Zm,Zn,Zo,Ja,Jb,Jc,J6,Jd,Je,J7,J8,Jf,Jg,Jh,Ji,Jj,Jk,J9,Jl,Jm,wr,Jn,JA,JB,Jo,Jp,Jq,Jr,Js,Jt,Ju,Jv,Jw,Jx,Jy,Jz,J0,J1,J2,J3,J4,J5,reduceCtorEq,JC,JD,JE,JF,JG,JH,JI,JJ]) | ((with_reducible (first | apply Ok.br | apply Ok.gd | apply Ok.ld)) <;> (intro g; (try simp only [ZGS] at g); try (exfalso; omega)))))
    refine Ok.unroll ?_
    (repeat' (first | (simp -implicitDefEqProofs (maxSteps := 1000000) (disch := first | assumption | omega | (simp only [ZDI]; omega)) only [*,lenV,G40,Za,Zb,Zc,Zd,Ze,Zf,Zg,Zh,Zi,Zj,Zk,Zl,Zm,Zn,Zo,Ja,Jb,Jc,J6,Jd,Je,J7,J8,Jf,Jg,Jh,Ji,Jj,Jk,J9,Jl,Jm,wr,Jn,JA,JB,Jo,Jp,Jq,Jr,Js,Jt,Ju,Jv,Jw,Jx,Jy,Jz,J0,J1,J2,J3,J4,J5,reduceCtorEq,JC,JD,JE,JF,JG,JH,JI,JJ]) | ((with_reducible (first | apply Ok.br | apply Ok.gd | apply Ok.ld)) <;> (intro g; (try simp only [ZGS] at g); try (exfalso; omega)))))
    refine Ok.unroll ?_
    (repeat' (first | (simp -implicitDefEqProofs (maxSteps := 1000000) (disch := first | assumption | omega | (simp only [ZDI]; omega)) only [*,lenV,G40,Za,Zb,Zc,Zd,Ze,Zf,Zg,Zh,Zi,Zj,Zk,Zl,Zm,Zn,Zo,Ja,Jb,Jc,J6,Jd,Je,J7,J8,Jf,Jg,Jh,Ji,Jj,Jk,J9,Jl,Jm,wr,Jn,JA,JB,Jo,Jp,Jq,Jr,Js,Jt,Ju,Jv,Jw,Jx,Jy,Jz,J0,J1,J2,J3,J4,J5,reduceCtorEq,JC,JD,JE,JF,JG,JH,JI,JJ]) | ((with_reducible (first | apply Ok.br | apply Ok.gd | apply Ok.ld)) <;> (intro g; (try simp only [ZGS] at g); try (exfalso; omega)))))
    refine Ok.unroll ?_
    (repeat' (first | (simp -implicitDefEqProofs (maxSteps := 1000000) (disch := first | assumption | omega | (simp only [ZDI]; omega)) only [*,lenV,G40,Za,Zb,Zc,Zd,Ze,Zf,Zg,Zh,Zi,Zj,Zk,Zl,Zm,Zn,Zo,Ja,Jb,Jc,J6,Jd,Je,J7,J8,Jf,Jg,Jh,Ji,Jj,Jk,J9,Jl,Jm,wr,Jn,JA,JB,Jo,Jp,Jq,Jr,Js,Jt,Ju,Jv,Jw,Jx,Jy,Jz,J0,J1,J2,J3,J4,J5,reduceCtorEq,JC,JD,JE,JF,JG,JH,JI,JJ]) | ((with_reducible (first | apply Ok.br | apply Ok.gd | apply Ok.ld)) <;> (intro g; (try simp only [ZGS] at g); try (exfalso; omega)))))
    refine Ok.unroll ?_
    (repeat' (first | (simp -implicitDefEqProofs (maxSteps := 1000000) (disch := first | assumption | omega | (simp only [ZDI]; omega)) only [*,lenV,G40,Za,Zb,Zc,Zd,Ze,Zf,Zg,Zh,Zi,Zj,Zk,Zl,Zm,Zn,Zo,Ja,Jb,Jc,J6,Jd,Je,J7,J8,Jf,Jg,Jh,Ji,Jj,Jk,J9,Jl,Jm,wr,Jn,JA,JB,Jo,Jp,Jq,Jr,Js,Jt,Ju,Jv,Jw,Jx,Jy,Jz,J0,J1,J2,J3,J4,J5,reduceCtorEq,JC,JD,JE,JF,JG,JH,JI,JJ]) | ((with_reducible (first | apply Ok.br | apply Ok.gd | apply Ok.ld)) <;> (intro g; (try simp only [ZGS] at g); try (exfalso; omega)))))
    exact hq'.out _
  | some y =>
    obtain ⟨xs, r⟩ := y
    have hg : GroS (g4.set H.length (.cells 0 true [.int .i64 (a0 : Nat), .int .i64 a1, .int .i64 a2, .int .i64 a3, .int .i64 a4, .sl .nil 0 0 0])) g5 w5 xs (fun s => [V.str s]) 1 := by
      rcases hv5 with ⟨e, _⟩ | ⟨xs', r', e, hg⟩
      · cases e
      · cases e; exact hg
    simp only [rs,Option.map_some,Option.isNone_some] at eBad
    have hq : ∀ cs, Q (.agg (cmV (a0 : Nat) a1 a2 a3 a4 w5), g5.set H.length (.cells 0 true cs)) := fun cs => hfin _ _ _ _ _ _ _ cs hg (.inr ⟨r, hrun, listD_len hx5.symm⟩)
    have hq' := Hid.mk hq
    obtain ⟨sa, sn, sc, sz, rfl⟩ := hsl
    clear hfin hrun hq hv5 hx5 hg
    (refine Ok.body body40 pin40 ?_; simp only [c40,Try.f40,Option.getD_some,nslot40,List.append_nil,List.map,List.replicate,List.length_cons,List.length_nil,Nat.reduceAdd,Nat.reduceSub,List.cons_append,List.nil_append])
    (repeat' (first | (simp -implicitDefEqProofs (maxSteps := 1000000) (disch := first | assumption | omega | (simp only [ZDI]; omega)) only [*,lenV,G40,Za,Zb,Zc,Zd,Ze,Zf,Zg,Zh,Zi,Zj,Zk,Zl,Zm,Zn,Zo,Ja,Jb,Jc,J6,Jd,Je,J7,J8,Jf,Jg,Jh,Ji,Jj,Jk,J9,Jl,Jm,wr,Jn,JA,JB,Jo,Jp,Jq,Jr,Js,Jt,Ju,Jv,Jw,Jx,Jy,Jz,J0,J1,J2,J3,J4,J5,reduceCtorEq,JC,JD,JE,JF,JG,JH,JI,JJ]) | ((with_reducible (first | apply Ok.br | apply Ok.gd | apply Ok.ld)) <;> (intro g; (try simp only [ZGS] at g); try (exfalso; omega)))))
    refine Ok.unroll ?_
    (repeat' (first | (simp -implicitDefEqProofs (maxSteps := 1000000) (disch := first | assumption | omega | (simp only [ZDI]; omega)) only [*,lenV,G40,Za,Zb,Zc,Zd,Ze,Zf,Zg,Zh,Zi,Zj,Zk,Zl,Zm,Zn,Zo,Ja,Jb,Jc,J6,Jd,Je,J7,J8,Jf,Jg,Jh,Ji,Jj,Jk,J9,Jl,Jm,wr,Jn,JA,JB,Jo,Jp,Jq,Jr,Js,Jt,Ju,Jv,Jw,Jx,Jy,Jz,J0,J1,J2,J3,J4,J5,reduceCtorEq,JC,JD,JE,JF,JG,JH,JI,JJ]) | ((with_reducible (first | apply Ok.br | apply Ok.gd | apply Ok.ld)) <;> (intro g; (try simp only [ZGS] at g); try (exfalso; omega)))))
    refine Ok.unroll ?_
    (repeat' (first | (simp -implicitDefEqProofs (maxSteps := 1000000) (disch := first | assumption | omega | (simp only [ZDI]; omega)) only [*,lenV,G40,Za,Zb,Zc,Zd,Ze,Zf,Zg,Zh,Zi,Zj,Zk,Zl,Zm,Zn,Zo,Ja,Jb,Jc,J6,Jd,Je,J7,J8,Jf,Jg,Jh,Ji,Jj,Jk,J9,Jl,Jm,wr,Jn,JA,JB,Jo,Jp,Jq,Jr,Js,Jt,Ju,Jv,Jw,Jx,Jy,Jz,J0,J1,J2,J3,J4,J5,reduceCtorEq,JC,JD,JE,JF,JG,JH,JI,JJ]) | ((with_reducible (first | apply Ok.br | apply Ok.gd | apply Ok.ld)) <;> (intro g; (try simp only [ZGS] at g); try (exfalso; omega)))))
    refine Ok.unroll ?_
    (repeat' (first | (simp -implicitDefEqProofs (maxSteps := 1000000) (disch := first | assumption | omega | (simp only [ZDI]; omega)) only [*,lenV,G40,Za,Zb,Zc,Zd,Ze,Zf,Zg,Zh,Zi,Zj,Zk,Zl,Zm,Zn,Zo,Ja,Jb,Jc,J6,Jd,Je,J7,J8,Jf,Jg,Jh,Ji,Jj,Jk,J9,Jl,Jm,wr,Jn,JA,JB,Jo,Jp,Jq,Jr,Js,Jt,Ju,Jv,Jw,Jx,Jy,Jz,J0,J1,J2,J3,J4,J5,reduceCtorEq,JC,JD,JE,JF,JG,JH,JI,JJ]) | ((with_reducible (first | apply Ok.br | apply Ok.gd | apply Ok.ld)) <;> (intro g; (try simp only [ZGS] at g); try (exfalso; omega)))))
    refine Ok.unroll ?_
    (repeat' (first | (simp -implicitDefEqProofs (maxSteps := 1000000) (disch := first | assumption | omega | (simp only [ZDI]; omega)) only [*,lenV,G40,Za,Zb,Zc,Zd,Ze,Zf,Zg,Zh,Zi,Zj,Zk,Zl,Zm,Zn,Zo,Ja,Jb,Jc,J6,Jd,Je,J7,J8,Jf,Jg,Jh,Ji,Jj,Jk,J9,Jl,Jm,wr,Jn,JA,JB,Jo,Jp,Jq,Jr,Js,Jt,Ju,Jv,Jw,Jx,Jy,Jz,J0,J1,J2,J3,J4,J5,reduceCtorEq,JC,JD,JE,JF,JG,JH,JI,JJ]) | ((with_reducible (first | apply Ok.br | apply Ok.gd | apply Ok.ld)) <;> (intro g; (try simp only [ZGS] at g); try (exfalso; omega)))))
    refine Ok.unroll ?_
    (repeat' (first | (simp -implicitDefEqProofs (maxSteps := 1000000) (disch := first | assumption | omega | (simp only [ZDI]; omega)) only [*,lenV,G40,Za,Zb,Zc,Zd,Ze,Zf,Zg,Zh,Zi,Zj,Zk,Zl,Zm,Zn,Zo,Ja,Jb,Jc,J6,Jd,Je,J7,J8,Jf,Jg,Jh,Ji,Jj,Jk,J9,Jl,Jm,wr,Jn,JA,JB,Jo,Jp,Jq,Jr,Js,Jt,Ju,Jv,Jw,Jx,Jy,Jz,J0,J1,J2,J3,J4,J5,reduceCtorEq,JC,JD,JE,JF,JG,JH,JI,JJ]) | ((with_reducible (first | apply Ok.br | apply Ok.gd | apply Ok.ld)) <;> (intro g; (try simp only [ZGS] at g); try (exfalso; omega)))))
    exact hq'.out _
end Go.Ev
set_option maxRecDepth 100000
namespace Go.Ev
open Go.Proofs
theorem ofNat_small {k : Nat} (h : k < 256) : (UInt8.ofNat k).toNat = k := by rw [UInt8.toNat_ofNat']; omega
theorem numF_hi : ∀ (m : Nat) (rest : List UInt8), m < 144115188075855872 -> numF true 0 (hiE m ++ rest) = if m = 0 then numF true 0 rest else numF false m rest := by
  intro m
  induction m using Nat.strongRecOn with
  | ind m ih =>
    intro rest hm
    by_cases h0 : m = 0
    · subst h0; rw [hiE]; simp
    · rw [if_neg h0, hiE, if_neg h0, List.append_assoc, ih (m / 128) (by omega) _ (by omega)]
      have hc : (UInt8.ofNat (m % 128 + 128)).toNat = m % 128 + 128 := ofNat_small (by omega)
      by_cases h1 : m / 128 = 0
      · rw [if_pos h1, List.cons_append, List.nil_append, numF, hc, if_neg (by omega), if_neg (by omega)]
        congr 1; omega
      · rw [if_neg h1, List.cons_append, List.nil_append, numF, hc, if_neg (by simp; omega), if_neg (by omega)]
        congr 1; omega
theorem numD_E {n : Nat} (hn : n < 18446744073709551616) (r : List UInt8) : numD (numE n ++ r) = some (n, r) := by
  unfold numD numE
  rw [List.append_assoc, numF_hi _ _ (by omega)]
  have hc : (UInt8.ofNat (n % 128)).toNat = n % 128 := ofNat_small (by omega)
  by_cases h1 : n / 128 = 0
  · rw [if_pos h1, List.cons_append, List.nil_append, numF, hc, if_neg (by omega), if_pos (by omega)]
    congr 2; omega
  · rw [if_neg h1, List.cons_append, List.nil_append, numF, hc, if_neg (by simp; omega), if_pos (by omega)]
    congr 2; omega
theorem intD_E {n : Int} (hn : In64' n) (r : List UInt8) : intD (intE n ++ r) = some (n, r) := by
  unfold In64' at hn
  unfold intE intD
  by_cases h : n < 0
  · rw [if_pos h]
    simp only [List.cons_append,byteD,Option.bind_some]
    rw [numD_E (by omega)]
    simp only [Option.bind_some]
    rw [if_neg (by have : (1 : UInt8).toNat = 1 := rfl; omega), if_pos (show UInt8.toNat 1 = 1 from rfl)]
    congr 2; omega
  · rw [if_neg h]
    simp only [List.cons_append,byteD,Option.bind_some]
    rw [numD_E (by omega)]
    simp only [Option.bind_some]
    rw [if_neg (by have : (0 : UInt8).toNat = 0 := rfl; omega), if_neg (by decide)]
    congr 2; omega
theorem textD_E {s : ByteArray} (hs : s.size <= 1048576) (r : List UInt8) : textD (textE s ++ r) = some (s, r) := by
  have hl : s.data.toList.length = s.size := by rw [Array.length_toList]; rfl
  unfold textD textE
  rw [List.append_assoc, numD_E (by omega)]
  simp only [Option.bind_some]
  rw [if_neg (by rw [List.length_append, hl]; omega), <- hl, List.take_left, List.drop_left]
theorem manyD_E {α : Type} {d : Dec α} {e : α -> List UInt8} (r : List UInt8) : ∀ (xs : List α), (∀ x ∈ xs, ∀ r, d (e x ++ r) = some (x, r)) -> manyD d xs.length (xs.flatMap e ++ r) = some (xs, r)
  | [], _ => rfl
  | x :: xs, h => by
    rw [List.length_cons, manyD, List.flatMap_cons, List.append_assoc, h x (by simp)]
    simp only [Option.bind_some]
    rw [manyD_E r xs fun y hy => h y (by simp [hy])]
    rfl
theorem flat_pos {α : Type} {e : α -> List UInt8} (he : ∀ x, 0 < (e x).length) : ∀ xs : List α, xs.length <= (xs.flatMap e).length
  | [] => by simp
  | x :: xs => by
    have := flat_pos he xs
    have := he x
    rw [List.flatMap_cons, List.length_append, List.length_cons]; omega
theorem listD_E {α : Type} {d : Dec α} {e : α -> List UInt8} (he : ∀ x, 0 < (e x).length) (r : List UInt8) (xs : List α) (hl : xs.length <= 4096) (h : ∀ x ∈ xs, ∀ r, d (e x ++ r) = some (x, r)) : listD d (numE xs.length ++ (xs.flatMap e ++ r)) = some (xs, r) := by
  unfold listD
  rw [numD_E (by omega)]
  simp only [Option.bind_some]
  rw [if_neg (by have := flat_pos he xs; rw [List.length_append]; omega)]
  exact manyD_E r xs h
theorem textE_pos (s : ByteArray) : 0 < (textE s).length := by unfold textE; rw [List.length_append]; have := numE_pos s.size; omega
theorem cmdD_E {o c q f t : Int} {l : List ByteArray} (ho : 0 <= o /\ o < 256) (hc : In64' c) (hq : In64' q) (hf : In64' f) (ht : In64' t) (hl : l.length <= 4096) (hs : ∀ s ∈ l, s.size <= 1048576) (r : List UInt8) :
    cmdD (cmdE o c q f t l ++ r) = some ((o, c, q, f, t, l), r) := by
  unfold cmdD cmdE textsE
  simp only [List.append_assoc,List.cons_append,List.nil_append,byteD,Option.bind_some]
  rw [intD_E hc]
  simp only [Option.bind_some]
  rw [intD_E hq]
  simp only [Option.bind_some]
  rw [intD_E hf]
  simp only [Option.bind_some]
  rw [intD_E ht]
  simp only [Option.bind_some]
  rw [listD_E textE_pos r l hl fun s h r => textD_E (hs s h) r]
  simp only [Option.bind_some]
  rw [ofNat_small (by omega)]
  congr 3; omega
def Loc {α : Type} (d : Dec α) : Prop := ∀ s v r t, d s = some (v, r) -> d (s ++ t) = some (v, r ++ t)
theorem Loc.cut {α : Type} {d : Dec α} (h : Loc d) {s : List UInt8} {c : UInt8} {x : α} (he : d (s ++ [c]) = some (x, [])) : d s = none := by
  cases hd : d s with
  | none => rfl
  | some y =>
    have := h s y.1 y.2 [c] hd
    rw [he] at this
    simp at this
theorem byteD_loc : Loc byteD := by
  intro s v r t h
  cases s with
  | nil => cases h
  | cons c s => cases h; rfl
theorem numF_loc : ∀ (s : List UInt8) (f : Bool) (n v : Nat) (r t : List UInt8), numF f n s = some (v, r) -> numF f n (s ++ t) = some (v, r ++ t)
  | [], f, n, v, r, t, h => by simp [numF] at h
  | c :: s, f, n, v, r, t, h => by
    rw [numF] at h
    rw [List.cons_append, numF]
    split at h
    · cases h
    · rename_i h1
      rw [if_neg h1]
      split at h
      · rename_i h2; rw [if_pos h2]; cases h; rfl
      · rename_i h2; rw [if_neg h2]; exact numF_loc s _ _ _ _ _ h
theorem numD_loc : Loc numD := fun s v r t h => numF_loc s _ _ v r t h
theorem intD_loc : Loc intD := by
  intro s v r t h
  unfold intD at h ⊢
  cases e1 : byteD s with
  | none => rw [e1] at h; cases h
  | some y1 =>
    rw [e1] at h
    have e1' := byteD_loc s y1.1 y1.2 t e1
    rw [e1']
    simp only [Option.bind_some] at h ⊢
    cases e2 : numD y1.2 with
    | none => rw [e2] at h; cases h
    | some y2 =>
      rw [e2] at h
      have e2' := numD_loc y1.2 y2.1 y2.2 t e2
      rw [e2']
      simp only [Option.bind_some] at h ⊢
      split at h
      · cases h
      · rename_i h1
        rw [if_neg h1]
        cases h; rfl
theorem textD_loc : Loc textD := by
  intro s v r t h
  unfold textD at h ⊢
  cases e1 : numD s with
  | none => rw [e1] at h; cases h
  | some y1 =>
    rw [e1] at h
    rw [numD_loc s y1.1 y1.2 t e1]
    simp only [Option.bind_some] at h ⊢
    split at h
    · cases h
    · rename_i h1
      cases h
      rw [if_neg (by rw [List.length_append]; omega), List.take_append_of_le_length (by omega), List.drop_append_of_le_length (by omega)]
theorem manyD_loc {α : Type} {d : Dec α} (hd : Loc d) : ∀ n, Loc (manyD d n)
  | 0 => by intro s v r t h; cases h; rfl
  | n + 1 => by
    intro s v r t h
    rw [manyD] at h ⊢
    cases e1 : d s with
    | none => rw [e1] at h; cases h
    | some y1 =>
      rw [e1] at h
      rw [hd s y1.1 y1.2 t e1]
      simp only [Option.bind_some] at h ⊢
      cases e : manyD d n y1.2 with
      | none => rw [e] at h; cases h
      | some y =>
        rw [e] at h
        rw [manyD_loc hd n y1.2 y.1 y.2 t e]
        cases h; rfl
theorem listD_loc {α : Type} {d : Dec α} (hd : Loc d) : Loc (listD d) := by
  intro s v r t h
  unfold listD at h ⊢
  cases e1 : numD s with
  | none => rw [e1] at h; cases h
  | some y1 =>
    rw [e1] at h
    rw [numD_loc s y1.1 y1.2 t e1]
    simp only [Option.bind_some] at h ⊢
    split at h
    · cases h
    · rename_i h1
      rw [if_neg (by rw [List.length_append]; omega)]
      exact manyD_loc hd _ _ v r t h
theorem cmdD_loc : Loc cmdD := by
  intro s v r t h
  unfold cmdD at h ⊢
  cases e1 : byteD s with
  | none => rw [e1] at h; cases h
  | some y1 =>
    rw [e1] at h
    have e1' := byteD_loc s y1.1 y1.2 t e1
    rw [e1']
    simp only [Option.bind_some] at h ⊢
    cases e2 : intD y1.2 with
    | none => rw [e2] at h; cases h
    | some y2 =>
      rw [e2] at h
      have e2' := intD_loc y1.2 y2.1 y2.2 t e2
      rw [e2']
      simp only [Option.bind_some] at h ⊢
      cases e3 : intD y2.2 with
      | none => rw [e3] at h; cases h
      | some y3 =>
        rw [e3] at h
        have e3' := intD_loc y2.2 y3.1 y3.2 t e3
        rw [e3']
        simp only [Option.bind_some] at h ⊢
        cases e4 : intD y3.2 with
        | none => rw [e4] at h; cases h
        | some y4 =>
          rw [e4] at h
          have e4' := intD_loc y3.2 y4.1 y4.2 t e4
          rw [e4']
          simp only [Option.bind_some] at h ⊢
          cases e5 : intD y4.2 with
          | none => rw [e5] at h; cases h
          | some y5 =>
            rw [e5] at h
            have e5' := intD_loc y4.2 y5.1 y5.2 t e5
            rw [e5']
            simp only [Option.bind_some] at h ⊢
            cases e6 : listD textD y5.2 with
            | none => rw [e6] at h; cases h
            | some y6 =>
              rw [e6] at h
              have e6' := (listD_loc textD_loc) y5.2 y6.1 y6.2 t e6
              rw [e6']
              simp only [Option.bind_some] at h ⊢
              cases h; rfl
end Go.Ev
set_option maxRecDepth 100000
namespace Go.Ev
open Go.Ev renaming exPure -> Ja, ofValue -> Jb, cellsV -> Jc, load -> Jd, store -> Je, binOp -> Jf, intOp -> Jg, rdV -> Jh, vsame -> Ji, vsames -> Jj, makeSliceV -> Jk, resV -> Jl, isCell -> Jm, nilCheckV -> Jn, allV -> Jo, builtinV -> Jp, lenV -> Jq, indexAddrV -> Jr, unOp -> Js, minmaxV -> Jt, minmax -> Ju, sliceV -> Jv, asInt -> Jw, appendV -> Jx, forkB -> Jy, roY -> Jz, rwB -> J0, copyV -> J1, clearV -> J2, convV -> J3, sliceCells -> J4, shift -> J5
open Bool renaming true -> BT, false -> BF
open Nat renaming reduceEqDiff -> J6, reduceLT -> J7, reduceAdd -> J8, reduceBEq -> J9, reduceSub -> JA, reduceMul -> JB, reduceLeDiff -> JJ
open Int renaming reduceLT -> JC, reduceLE -> JD, reduceAdd -> JE, reduceSub -> JF, reduceNeg -> JG, reduceToNat -> JH, reduceEq -> JI
open Go.Proofs
theorem fits_u8 {h : Heap} {d : Nat} {cs : List V} (hf : Fits X.ty h (d + 1) 5 cs) : ∃ c : UInt8, cs = [.int .u8 (c.toNat : Nat)] := by
  unfold Fits at hf
  rw [ty5] at hf
  obtain ⟨i, rfl, h1⟩ := hf
  simp only [Lit.wf,IntKind.min,IntKind.max,IntKind.signed,IntKind.bits] at h1
  simp at h1
  refine ⟨UInt8.ofNat i.toNat, ?_⟩
  rw [UInt8.toNat_ofNat']
  congr 2
  omega
def BytesIn (H : Heap) (v : V) (bs : List UInt8) : Prop := bs.length <= 9223372036854775807 /\ ((bs = [] /\ (v = .sl .nil 0 0 0 \/ v = .sl .any 0 0 1)) \/ ∃ b cap full, v = .sl (.at b 0 0) bs.length cap 0 /\ hcells H b 0 = some (false, full) /\ bs.length <= full.length /\ full.take bs.length = bV bs)
theorem fits_bytes {h : Heap} {d : Nat} {cs : List V} (hf : Fits X.ty h (d + 2) 64 cs) : ∃ v bs, cs = [v] /\ BytesIn h v bs := by
  unfold Fits at hf
  rw [ty64] at hf
  have hmax : maxLen = 9223372036854775807 := by decide
  rw [hmax] at hf
  rcases hf with rfl | rfl | ⟨b, len, cap, full, rfl, h1, h2, h3, h4, h5, h6⟩
  · exact ⟨_, [], rfl, by simp, .inl ⟨rfl, .inl rfl⟩⟩
  · exact ⟨_, [], rfl, by simp, .inl ⟨rfl, .inr rfl⟩⟩
  · have hsz : (X.ty 5).size = 1 := by rw [ty5]
    rw [hsz] at h5 h6
    have hx : ∀ i, ∃ c : UInt8, i < cap -> full[i]? = some (.int .u8 (c.toNat : Nat)) := by
      intro i
      by_cases hi : i < cap
      · obtain ⟨c, e⟩ := fits_u8 (h6 i hi)
        refine ⟨c, fun _ => ?_⟩
        have := congrArg (fun l => l[0]?) e
        simpa using this
      · exact ⟨0, fun h' => absurd h' hi⟩
    obtain ⟨g, hg⟩ := Classical.axiomOfChoice hx
    have hlen : ((List.range len).map g).length = len := by rw [List.length_map, List.length_range]
    refine ⟨_, (List.range len).map g, rfl, by rw [hlen]; omega, .inr ⟨b, cap, full, by rw [hlen], ?_, by rw [hlen]; omega, ?_⟩⟩
    · unfold hcells; rw [h4]; exact grd_t rfl _
    · rw [hlen]
      refine List.ext_getElem? fun i => ?_
      by_cases hi : i < len
      · rw [List.getElem?_take, if_pos hi, hg i (by omega)]
        unfold bV
        rw [List.getElem?_map, List.getElem?_map, List.getElem?_range hi]
        rfl
      · rw [List.getElem?_take, if_neg hi, List.getElem?_eq_none (by rw [bV_len, hlen]; omega)]
set_option maxHeartbeats 4000000 in
theorem newReader_at {H : Heap} {b g n c z : Nat} {rw : Bool} {full : List V} {bs : List UInt8} (hc : hcells H b g = some (rw, full)) (hn : bs.length = n) (hl : n <= full.length) (ht : full.take n = bV bs) (hpos : 0 < n) (hroom : n < 35184372088832) :
    D X (.fn 39 []) [.sl (.at b g 0) n c z] H = some (.ptr (H.length + 1) 0 0, H ++ [.cells 0 true (bV bs), .cells 0 true [.sl (.at H.length 0 0) n n 1, .int .i64 0, .bool false]]) /\
      RdAt (H ++ [.cells 0 true (bV bs), .cells 0 true [.sl (.at H.length 0 0) n n 1, .int .i64 0, .bool false]]) (H.length + 1) (.sl (.at H.length 0 0) n n 1) bs (some bs) := by
  constructor
  · refine Ok.eq ?_
    have hb := hcells_lt hc
    have hn0 : ¬ n <= 0 := by omega
    have hn1 : ¬ n = 0 := by omega
    have hL : n * 1 <= 35184372088832 /\ n <= 35184372088832 := by omega
    clear hn
    (refine Ok.body body39 pin39 ?_; simp only [c39,Try.f39,Option.getD_some,nslot39,List.append_nil,List.map,List.replicate,List.length_cons,List.length_nil,Nat.reduceAdd,Nat.reduceSub,List.cons_append,List.nil_append])
    (repeat' (first | (simp -implicitDefEqProofs (maxSteps := 1000000) (disch := first | assumption | omega | (simp only [ZDI]; omega)) only [*,lenV,List.drop_zero,Nat.zero_add,Nat.mul_one,G39,Za,Zb,Zc,Zd,Ze,Zf,Zg,Zh,Zi,Zj,Zk,Zl,Zm,Zn,Zo,Ja,Jb,Jc,J6,Jd,Je,J7,J8,Jf,Jg,Jh,Ji,Jj,Jk,J9,Jl,Jm,wr,Jn,JA,JB,Jo,Jp,Jq,Jr,Js,Jt,Ju,Jv,Jw,Jx,Jy,Jz,J0,J1,J2,J3,J4,J5,reduceCtorEq,JC,JD,JE,JF,JG,JH,JI,JJ]) | ((with_reducible (first | apply Ok.br | apply Ok.gd | apply Ok.ld)) <;> (intro g; (try simp only [ZGS] at g); try (exfalso; omega)))))
  · subst hn
    refine ⟨.inr ⟨H.length, by omega, rfl, ?_⟩, ⟨0, Nat.zero_le _, fun r e => by cases e; rfl, hc_new2⟩, hroom⟩
    rw [hcells_ge (Nat.le_refl _), Nat.sub_self]; exact grd_t rfl _
end Go.Ev
set_option maxRecDepth 100000
namespace Go.Ev
open Go.Ev renaming exPure -> Ja, ofValue -> Jb, cellsV -> Jc, load -> Jd, store -> Je, binOp -> Jf, intOp -> Jg, rdV -> Jh, vsame -> Ji, vsames -> Jj, makeSliceV -> Jk, resV -> Jl, isCell -> Jm, nilCheckV -> Jn, allV -> Jo, builtinV -> Jp, lenV -> Jq, indexAddrV -> Jr, unOp -> Js, minmaxV -> Jt, minmax -> Ju, sliceV -> Jv, asInt -> Jw, appendV -> Jx, forkB -> Jy, roY -> Jz, rwB -> J0, copyV -> J1, clearV -> J2, convV -> J3, sliceCells -> J4, shift -> J5
open Bool renaming true -> BT, false -> BF
open Nat renaming reduceEqDiff -> J6, reduceLT -> J7, reduceAdd -> J8, reduceBEq -> J9, reduceSub -> JA, reduceMul -> JB, reduceLeDiff -> JJ
open Int renaming reduceLT -> JC, reduceLE -> JD, reduceAdd -> JE, reduceSub -> JF, reduceNeg -> JG, reduceToNat -> JH, reduceEq -> JI
open Go.Proofs
def textB (s : ByteArray) : Bool := decide ((s.size : Int) <= 4096) && (decide (s.size = 0) || match s.data.toList[s.size - 1]? with | some c => !decide ((c.toNat : Int) = 0) | none => false)
def mayP (o c q f t : Int) (l : List ByteArray) : Prop :=
  ((o = 0 \/ o = 5) /\ c = 0 /\ q = 0 /\ f = 0 /\ t = 0 /\ (l.length : Int) = 0) \/
  ((1 <= o /\ o <= 4) /\ (0 <= c /\ c <= 3) /\ (1 <= q /\ q <= 1099511627776) /\ (0 <= f /\ f < t /\ t <= 256 /\ t - f <= 16) /\ ((o ≠ 2 /\ (l.length : Int) = 0) \/ (o = 2 /\ (l.length : Int) = t - f /\ (l.any fun s => !textB s) = false)))
instance (o c q f t : Int) (l : List ByteArray) : Decidable (mayP o c q f t l) := by unfold mayP; infer_instance
end Go.Ev
set_option maxRecDepth 100000
namespace Go.Ev
open Go.Ev renaming exPure -> Ja, ofValue -> Jb, cellsV -> Jc, load -> Jd, store -> Je, binOp -> Jf, intOp -> Jg, rdV -> Jh, vsame -> Ji, vsames -> Jj, makeSliceV -> Jk, resV -> Jl, isCell -> Jm, nilCheckV -> Jn, allV -> Jo, builtinV -> Jp, lenV -> Jq, indexAddrV -> Jr, unOp -> Js, minmaxV -> Jt, minmax -> Ju, sliceV -> Jv, asInt -> Jw, appendV -> Jx, forkB -> Jy, roY -> Jz, rwB -> J0, copyV -> J1, clearV -> J2, convV -> J3, sliceCells -> J4, shift -> J5
open Bool renaming true -> BT, false -> BF
open Nat renaming reduceEqDiff -> J6, reduceLT -> J7, reduceAdd -> J8, reduceBEq -> J9, reduceSub -> JA, reduceMul -> JB, reduceLeDiff -> JJ
open Int renaming reduceLT -> JC, reduceLE -> JD, reduceAdd -> JE, reduceSub -> JF, reduceNeg -> JG, reduceToNat -> JH, reduceEq -> JI
open Go.Proofs
def lightB : Nat -> Nat -> List ByteArray -> Bool
  | _, _, [] => true
  | i, n, s :: r => cond (decide ((100 : Int) < i)) false (cond (decide ((10000 : Int) < s.size)) false (cond (decide ((100000 : Int) < n)) false (lightB (i + 1) (n + s.size) r)))
theorem lightB_drop {i n : Nat} {l : List ByteArray} {s : ByteArray} (h : l[i]? = some s) : lightB i n (l.drop i) = cond (decide ((100 : Int) < i)) false (cond (decide ((10000 : Int) < s.size)) false (cond (decide ((100000 : Int) < n)) false (lightB (i + 1) (n + s.size) (l.drop (i + 1))))) := by
  have hi := (List.getElem?_eq_some_iff.1 h).1
  rw [List.drop_eq_getElem_cons hi]
  have : l[i] = s := by rw [List.getElem?_eq_getElem hi] at h; exact Option.some.inj h
  rw [this, lightB]
theorem light_at {o c q f t : Int} {v : V} {l : List ByteArray} {h : Heap} (hv : StrsAt h v l) : D X (.fn 15 []) [.agg [.int .i64 o, .int .i64 c, .int .i64 q, .int .i64 f, .int .i64 t, v]] h = some (.bool (lightB 0 0 l), h) := by
  refine Ok.eq ?_
  refine Ok.aim fun Q hQ => ?_
  have hQ' := Hid.mk hQ
  clear hQ
  obtain ⟨a, cap, z, rfl, hl, _, ha⟩ := hv
  have hh := Hid.mk ha
  clear ha
  (refine Ok.body body15 pin15 ?_; simp only [c15,Try.f15,Option.getD_some,nslot15,List.append_nil,List.map,List.replicate,List.length_cons,List.length_nil,Nat.reduceAdd,Nat.reduceSub,List.cons_append,List.nil_append])
  simp -implicitDefEqProofs (maxSteps := 1000000) (disch := first | assumption | omega | (simp only [ZDI]; omega)) only [*,lenV,G15,Za,Zb,Zc,Zd,Ze,Zf,Zg,Zh,Zi,Zj,Zk,Zl,Zm,Zn,Zo,Ja,Jb,Jc,J6,Jd,Je,J7,J8,Jf,Jg,Jh,Ji,Jj,Jk,J9,Jl,Jm,wr,Jn,JA,JB,Jo,Jp,Jq,Jr,Js,Jt,Ju,Jv,Jw,Jx,Jy,Jz,J0,J1,J2,J3,J4,J5,reduceCtorEq,JC,JD,JE,JF,JG,JH,JI,JJ]
  refine Ok.loop [BF, BF, BT, BT, BT, BT, BF, BF, BF, BT, BT, BT, BT, BT, BT, BT, BT, BT, BT, BT, BT, BT, BT, BT, BT, BT, BT, BT, BT, BT] (fun n s => ∃ i m : Nat, n = l.length - i /\ i <= l.length /\ m <= 110000 /\ tv s.e 9 = .v (.int .i64 i) /\ tv s.e 3 = .v (.int .i64 m) /\ s.l = [(1, [.int .i64 o, .int .i64 c, .int .i64 q, .int .i64 f, .int .i64 t, .sl a l.length cap z])] /\ s.h = h /\ lightB 0 0 l = lightB i m (l.drop i))
    (fun x s => s.l = [(1, [.int .i64 o, .int .i64 c, .int .i64 q, .int .i64 f, .int .i64 t, .sl a l.length cap z])] /\ s.h = h /\ ((x = .exit 0 /\ lightB 0 0 l = true) \/ (x = .ret /\ lightB 0 0 l = false /\ tv s.e 2 = .v (.bool false)))) (l.length - 0) ⟨0, 0, rfl, by omega, by omega, rfl, rfl, rfl, rfl, rfl⟩ ?_ ?_
  · intro n ⟨e', l', h'⟩ hW ⟨i, m, hn, hi, hm, h9, h3, h1, h2, hno⟩
    dsimp only at hW h9 h3 h1 h2
    subst l' h'
    rw [hW.spread]
    simp only [spread_t,spread_f,spread_n,Nat.zero_add,Nat.reduceAdd,h9,h3]
    by_cases hlt : i < l.length
    · rcases hh.out with rfl | ⟨b, g, oo, rw, full, rfl, hb, hfull⟩
      · simp at hlt
      · obtain ⟨s, hs⟩ : ∃ s, l[i]? = some s := ⟨_, List.getElem?_eq_getElem hlt⟩
        have hf := hfull i s hs
        have hno' := hno
        rw [lightB_drop hs] at hno'
        have hno2 := Hid.mk hno'
        clear hno hno' hfull
        (repeat' (first | (simp -implicitDefEqProofs (maxSteps := 1000000) (disch := first | assumption | omega | (simp only [ZDI]; omega)) only [*,Int.ofNat_lt,Int.natCast_nonneg,lenV,Int.natCast_zero,G15,Za,Zb,Zc,Zd,Ze,Zf,Zg,Zh,Zi,Zj,Zk,Zl,Zm,Zn,Zo,Ja,Jb,Jc,J6,Jd,Je,J7,J8,Jf,Jg,Jh,Ji,Jj,Jk,J9,Jl,Jm,wr,Jn,JA,JB,Jo,Jp,Jq,Jr,Js,Jt,Ju,Jv,Jw,Jx,Jy,Jz,J0,J1,J2,J3,J4,J5,reduceCtorEq,JC,JD,JE,JF,JG,JH,JI,JJ]) | ((with_reducible (first | apply Ok.br | apply Ok.gd | apply Ok.ld)) <;> (intro g; (try simp only [ZGS] at g); try (exfalso; omega)))))
        all_goals first
          | (refine Turn.ret ⟨rfl, rfl, rfl, .inr ⟨rfl, ?_, rfl⟩⟩; rw [hno2.out]; simp only [*,decide_true,decide_false,cond_true,cond_false]; done)
          | (refine Turn.next (l.length - (i + 1)) (by omega) ⟨rfl, i + 1, m + s.size, rfl, by omega, by omega, rfl, rfl, rfl, rfl, ?_⟩; rw [hno2.out]; simp only [*,decide_false,cond_false])
    · simp -implicitDefEqProofs (maxSteps := 1000000) (disch := first | assumption | omega | (simp only [ZDI]; omega)) only [*,Int.ofNat_lt,G15,Za,Zb,Zc,Zd,Ze,Zf,Zg,Zh,Zi,Zj,Zk,Zl,Zm,Zn,Zo,Ja,Jb,Jc,J6,Jd,Je,J7,J8,Jf,Jg,Jh,Ji,Jj,Jk,J9,Jl,Jm,wr,Jn,JA,JB,Jo,Jp,Jq,Jr,Js,Jt,Ju,Jv,Jw,Jx,Jy,Jz,J0,J1,J2,J3,J4,J5,reduceCtorEq,JC,JD,JE,JF,JG,JH,JI,JJ]
      refine Turn.exit ⟨rfl, rfl, rfl, .inl ⟨rfl, ?_⟩⟩
      rw [List.drop_of_length_le (by omega), lightB]
  · intro x ⟨e', l', h'⟩ hW ⟨h1, h2, hE⟩
    dsimp only at hW h1 h2 hE
    subst l' h'
    rw [hW.spread]
    rcases hE with ⟨rfl, hany⟩ | ⟨rfl, hany, h4⟩
    · simp only [spread_t,spread_f,spread_n,Nat.zero_add,Nat.reduceAdd]
      simp -implicitDefEqProofs (maxSteps := 1000000) (disch := first | assumption | omega | (simp only [ZDI]; omega)) only [*,lenV,G15,Za,Zb,Zc,Zd,Ze,Zf,Zg,Zh,Zi,Zj,Zk,Zl,Zm,Zn,Zo,Ja,Jb,Jc,J6,Jd,Je,J7,J8,Jf,Jg,Jh,Ji,Jj,Jk,J9,Jl,Jm,wr,Jn,JA,JB,Jo,Jp,Jq,Jr,Js,Jt,Ju,Jv,Jw,Jx,Jy,Jz,J0,J1,J2,J3,J4,J5,reduceCtorEq,JC,JD,JE,JF,JG,JH,JI,JJ]
      exact hQ'.out _ (by rw [hany])
    · simp only [spread_t,spread_f,spread_n,Nat.zero_add,Nat.reduceAdd,h4]
      simp -implicitDefEqProofs (maxSteps := 1000000) (disch := first | assumption | omega | (simp only [ZDI]; omega)) only [*,lenV,G15,Za,Zb,Zc,Zd,Ze,Zf,Zg,Zh,Zi,Zj,Zk,Zl,Zm,Zn,Zo,Ja,Jb,Jc,J6,Jd,Je,J7,J8,Jf,Jg,Jh,Ji,Jj,Jk,J9,Jl,Jm,wr,Jn,JA,JB,Jo,Jp,Jq,Jr,Js,Jt,Ju,Jv,Jw,Jx,Jy,Jz,J0,J1,J2,J3,J4,J5,reduceCtorEq,JC,JD,JE,JF,JG,JH,JI,JJ]
      exact hQ'.out _ (by rw [hany])
theorem hcells_old {h : Heap} {l : List Blk} {b g : Nat} (hb : b < h.length) : hcells (h ++ l) b g = hcells h b g := by
  unfold hcells; rw [List.getElem?_append_left hb]
theorem StrsAt.old {h : Heap} {v : V} {l : List ByteArray} (hv : StrsAt h v l) (x : List Blk) : StrsAt (h ++ x) v l := by
  obtain ⟨a, cap, z, rfl, h1, h2, h3⟩ := hv
  refine ⟨a, cap, z, rfl, h1, h2, h3.imp id ?_⟩
  rintro ⟨b, g, o, rw, full, rfl, hb, hf⟩
  refine ⟨b, g, o, rw, full, rfl, ?_, hf⟩
  rw [hcells_old]
  · exact hb
  · unfold hcells at hb
    cases hx : h[b]? with
    | none => rw [hx] at hb; cases hb
    | some y => exact (List.getElem?_eq_some_iff.1 hx).1
end Go.Ev
set_option maxRecDepth 100000
namespace Go.Ev
open Go.Ev renaming exPure -> Ja, ofValue -> Jb, cellsV -> Jc, load -> Jd, store -> Je, binOp -> Jf, intOp -> Jg, rdV -> Jh, vsame -> Ji, vsames -> Jj, makeSliceV -> Jk, resV -> Jl, isCell -> Jm, nilCheckV -> Jn, allV -> Jo, builtinV -> Jp, lenV -> Jq, indexAddrV -> Jr, unOp -> Js, minmaxV -> Jt, minmax -> Ju, sliceV -> Jv, asInt -> Jw, appendV -> Jx, forkB -> Jy, roY -> Jz, rwB -> J0, copyV -> J1, clearV -> J2, convV -> J3, sliceCells -> J4, shift -> J5
open Bool renaming true -> BT, false -> BF
open Nat renaming reduceEqDiff -> J6, reduceLT -> J7, reduceAdd -> J8, reduceBEq -> J9, reduceSub -> JA, reduceMul -> JB, reduceLeDiff -> JJ
open Int renaming reduceLT -> JC, reduceLE -> JD, reduceAdd -> JE, reduceSub -> JF, reduceNeg -> JG, reduceToNat -> JH, reduceEq -> JI
open Go.Proofs
structure Sto where
  a : Int
  b : Int
  fz : Bool
  txt : Nat -> ByteArray
  mrk : Nat -> Nat -> Int
def Sto.n (s : Sto) : Nat := (s.b - s.a).toNat
def Cells (full : List V) (n : Nat) (txt : Nat -> ByteArray) (mrk : Nat -> Nat -> Int) : Prop :=
  full.length = n * 5 /\ ∀ i, i < n -> full[i * 5]? = some (.str (txt i)) /\ ∀ k, k < 4 -> full[i * 5 + 1 + k]? = some (.int .i64 (mrk i k))
structure Sto.Ok (s : Sto) : Prop where
  h0 : 0 <= s.a
  h1 : s.a < s.b
  h2 : s.b <= 256
structure Sto.Fit (s : Sto) (cap z : Nat) : Prop extends s.Ok where
  hc : s.n <= cap
  hz : z = 0 \/ z = 5
def StoreAt (h : Heap) (p c g : Nat) (s : Sto) : Prop :=
  ∃ cap z full, hcells h p 0 = some (true, [.int .i64 s.a, .int .i64 s.b, .bool s.fz, .sl (.at c g 0) s.n cap z]) /\ hcells h c g = some (true, full) /\ Cells full s.n s.txt s.mrk /\ p ≠ c /\ s.Fit cap z
theorem StoreAt.lt {h : Heap} {p c g : Nat} {s : Sto} (hs : StoreAt h p c g s) : p < h.length /\ c < h.length := by
  obtain ⟨cap, z, full, h1, h2, _⟩ := hs
  exact ⟨hcells_lt h1, hcells_lt h2⟩
end Go.Ev
namespace Go.Ev
open Go.Ev renaming exPure -> Ja, ofValue -> Jb, cellsV -> Jc, load -> Jd, store -> Je, binOp -> Jf, intOp -> Jg, rdV -> Jh, vsame -> Ji, vsames -> Jj, makeSliceV -> Jk, resV -> Jl, isCell -> Jm, nilCheckV -> Jn, allV -> Jo, builtinV -> Jp, lenV -> Jq, indexAddrV -> Jr, unOp -> Js, minmaxV -> Jt, minmax -> Ju, sliceV -> Jv, asInt -> Jw, appendV -> Jx, forkB -> Jy, roY -> Jz, rwB -> J0, copyV -> J1, clearV -> J2, convV -> J3, sliceCells -> J4, shift -> J5
open Bool renaming true -> BT, false -> BF
open Nat renaming reduceEqDiff -> J6, reduceLT -> J7, reduceAdd -> J8, reduceBEq -> J9, reduceSub -> JA, reduceMul -> JB, reduceLeDiff -> JJ
open Int renaming reduceLT -> JC, reduceLE -> JD, reduceAdd -> JE, reduceSub -> JF, reduceNeg -> JG, reduceToNat -> JH, reduceEq -> JI
open Go.Proofs
end Go.Ev
set_option maxRecDepth 100000
namespace Go.Ev
open Go.Ev renaming exPure -> Ja, ofValue -> Jb, cellsV -> Jc, load -> Jd, store -> Je, binOp -> Jf, intOp -> Jg, rdV -> Jh, vsame -> Ji, vsames -> Jj, makeSliceV -> Jk, resV -> Jl, isCell -> Jm, nilCheckV -> Jn, allV -> Jo, builtinV -> Jp, lenV -> Jq, indexAddrV -> Jr, unOp -> Js, minmaxV -> Jt, minmax -> Ju, sliceV -> Jv, asInt -> Jw, appendV -> Jx, forkB -> Jy, roY -> Jz, rwB -> J0, copyV -> J1, clearV -> J2, convV -> J3, sliceCells -> J4, shift -> J5
open Bool renaming true -> BT, false -> BF
open Nat renaming reduceEqDiff -> J6, reduceLT -> J7, reduceAdd -> J8, reduceBEq -> J9, reduceSub -> JA, reduceMul -> JB, reduceLeDiff -> JJ
open Int renaming reduceLT -> JC, reduceLE -> JD, reduceAdd -> JE, reduceSub -> JF, reduceNeg -> JG, reduceToNat -> JH, reduceEq -> JI
open Go.Proofs
end Go.Ev
set_option maxRecDepth 100000
namespace Go.Ev
open Go.Ev renaming exPure -> Ja, ofValue -> Jb, cellsV -> Jc, load -> Jd, store -> Je, binOp -> Jf, intOp -> Jg, rdV -> Jh, vsame -> Ji, vsames -> Jj, makeSliceV -> Jk, resV -> Jl, isCell -> Jm, nilCheckV -> Jn, allV -> Jo, builtinV -> Jp, lenV -> Jq, indexAddrV -> Jr, unOp -> Js, minmaxV -> Jt, minmax -> Ju, sliceV -> Jv, asInt -> Jw, appendV -> Jx, forkB -> Jy, roY -> Jz, rwB -> J0, copyV -> J1, clearV -> J2, convV -> J3, sliceCells -> J4, shift -> J5
open Bool renaming true -> BT, false -> BF
open Nat renaming reduceEqDiff -> J6, reduceLT -> J7, reduceAdd -> J8, reduceBEq -> J9, reduceSub -> JA, reduceMul -> JB, reduceLeDiff -> JJ
open Int renaming reduceLT -> JC, reduceLE -> JD, reduceAdd -> JE, reduceSub -> JF, reduceNeg -> JG, reduceToNat -> JH, reduceEq -> JI
open Go.Proofs
structure ApplyRec (r : LoopR) : Prop where
  state : r.state = 0
  pending : r.pending = none
  fn : r.fn = 22
  params : r.params = [68]
  code : (rangesOf c22)[0]? = some (r.assign, r.body)
  lent : r.lent = false
  len : r.e.length = 149
  t2 : tv r.e 2 = .lp 0 1 0
  t3 : tv r.e 3 = .lp 1 1 0
  t6 : tv r.e 6 = .lp 3 1 0
def cmdV (o c q f t : Int) (v : V) : List V := [.int .i64 o, .int .i64 c, .int .i64 q, .int .i64 f, .int .i64 t, v]
def Sto.upd (s : Sto) (j k : Nat) (x : ByteArray) (q : Int) : Sto := { s with txt := fun i => if i = j then x else s.txt i, mrk := fun i k' => if i = j /\ k' = k then q else s.mrk i k' }
theorem Cells.upd {full : List V} {n : Nat} {txt : Nat -> ByteArray} {mrk : Nat -> Nat -> Int} (h : Cells full n txt mrk) {j k : Nat} (hj : j < n) (hk : k < 4) (x : ByteArray) (q : Int) :
    Cells ((full.set (j * 5) (.str x)).set (j * 5 + 1 + k) (.int .i64 q)) n (fun i => if i = j then x else txt i) (fun i k' => if i = j /\ k' = k then q else mrk i k') := by
  obtain ⟨h1, h2⟩ := h
  refine ⟨by simpa using h1, fun i hi => ⟨?_, fun k' hk' => ?_⟩⟩
  · dsimp only
    rw [List.getElem?_set_ne (by omega)]
    by_cases e : i = j
    · subst e
      rw [List.getElem?_set_self (by omega), if_pos rfl]
    · rw [List.getElem?_set_ne (by omega), if_neg e]
      exact (h2 i hi).1
  · dsimp only
    by_cases e : i = j /\ k' = k
    · obtain ⟨rfl, rfl⟩ := e
      rw [List.getElem?_set_self (by rw [List.length_set]; omega), if_pos ⟨rfl, rfl⟩]
    · rw [List.getElem?_set_ne (by omega), List.getElem?_set_ne (by omega), if_neg e]
      exact (h2 i hi).2 k' hk'
end Go.Ev
set_option maxRecDepth 100000
namespace Go.Ev
open Go.Proofs
def Sto.to (s : Sto) (o c q f m : Int) (l : List ByteArray) : Sto :=
  { s with
    txt := fun j => if (o = 2 \/ o = 3) /\ f <= s.a + j /\ s.a + j < m /\ s.mrk j c.toNat < q then (if o = 2 then l.getD (s.a + j - f).toNat ⟨#[]⟩ else ⟨#[]⟩) else s.txt j
    mrk := fun j k => if (o = 2 \/ o = 3) /\ f <= s.a + j /\ s.a + j < m /\ s.mrk j c.toNat < q /\ k = c.toNat then q else s.mrk j k }
theorem Sto.ext' {s s' : Sto} (h1 : s.a = s'.a) (h2 : s.b = s'.b) (h3 : s.fz = s'.fz) (h4 : ∀ j, s.txt j = s'.txt j) (h5 : ∀ j k, s.mrk j k = s'.mrk j k) : s = s' := by
  obtain ⟨a, b, fz, t, m⟩ := s
  obtain ⟨a', b', fz', t', m'⟩ := s'
  simp only at h1 h2 h3 h4 h5
  subst h1 h2 h3
  congr
  · funext j; exact h4 j
  · funext j k; exact h5 j k
def Sto.data (s : Sto) (o f m : Int) : List ByteArray := if o = 1 then (List.range (m - f).toNat).map fun i => s.txt ((f - s.a).toNat + i) else []
def DataAt (H : Heap) (dv : V) (l : List ByteArray) (lo : Nat) : Prop :=
  (l = [] /\ dv = .sl .nil 0 0 0) \/ ∃ db dg, dv = .sl (.at db dg 0) l.length l.length 1 /\ hcells H db dg = some (true, l.map .str) /\ lo <= db
structure ApplyInv (H : Heap) (p cb g L : Nat) (s : Sto) (r : LoopR) (o c q f t : Int) (v : V) (x2 : Nat × List V) (l : List ByteArray) (i : Int) (H' : Heap) : Prop where
  st : StoreAt H' p cb g (s.to o c q f i l)
  rc : ∃ dv x4, loopAt H' L = some { r with l := [(1, [.ptr p 0 0]), (1, cmdV o c q f t v), x2, (1, [.bool true, dv]), x4] } /\ DataAt H' dv (s.data o f i) H.length
  kp : Keeps [cb, L] H H'
section
variable {H : Heap} {p cb g L : Nat} {s : Sto} {r : LoopR} {o c q f t : Int} {v : V} {x2 : Nat × List V} {l : List ByteArray}
theorem DataAt.strs {H : Heap} {dv : V} {l : List ByteArray} {lo : Nat} (h : DataAt H dv l lo) (h2 : l.length <= 9223372036854775807) : StrsAt H dv l := by
  rcases h with ⟨rfl, rfl⟩ | ⟨db, dg, rfl, h3, _⟩
  · exact ⟨_, _, _, rfl, h2, trivial, .inl rfl⟩
  · refine ⟨_, _, _, rfl, h2, trivial, .inr ⟨db, dg, 0, true, _, rfl, h3, fun i s hi => ?_⟩⟩
    rw [Nat.zero_add, List.getElem?_map, hi]; rfl
end
end Go.Ev
set_option maxRecDepth 100000
namespace Go.Ev
open Go.Ev renaming exPure -> Ja, ofValue -> Jb, cellsV -> Jc, load -> Jd, store -> Je, binOp -> Jf, intOp -> Jg, rdV -> Jh, vsame -> Ji, vsames -> Jj, makeSliceV -> Jk, resV -> Jl, isCell -> Jm, nilCheckV -> Jn, allV -> Jo, builtinV -> Jp, lenV -> Jq, indexAddrV -> Jr, unOp -> Js, minmaxV -> Jt, minmax -> Ju, sliceV -> Jv, asInt -> Jw, appendV -> Jx, forkB -> Jy, roY -> Jz, rwB -> J0, copyV -> J1, clearV -> J2, convV -> J3, sliceCells -> J4, shift -> J5
open Bool renaming true -> BT, false -> BF
open Nat renaming reduceEqDiff -> J6, reduceLT -> J7, reduceAdd -> J8, reduceBEq -> J9, reduceSub -> JA, reduceMul -> JB, reduceLeDiff -> JJ
open Int renaming reduceLT -> JC, reduceLE -> JD, reduceAdd -> JE, reduceSub -> JF, reduceNeg -> JG, reduceToNat -> JH, reduceEq -> JI
open Go.Proofs
def Sto.apply (s : Sto) (o c q f t : Int) (l : List ByteArray) : Sto × Bool × List ByteArray × Int :=
  if ¬ mayP o c q f t l then (s, false, [], 1)
  else if (1 <= o /\ o <= 4) /\ (f < s.a \/ s.b < t) then (s, false, [], 9)
  else if s.fz = true \/ o = 0 then (s, false, [], 0)
  else if o = 5 then ({ s with fz := true }, true, [], 0)
  else (s.to o c q f t l, true, s.data o f t, 0)
end Go.Ev
set_option maxRecDepth 100000
namespace Go.Ev
open Go.Ev renaming exPure -> Ja, ofValue -> Jb, cellsV -> Jc, load -> Jd, store -> Je, binOp -> Jf, intOp -> Jg, rdV -> Jh, vsame -> Ji, vsames -> Jj, makeSliceV -> Jk, resV -> Jl, isCell -> Jm, nilCheckV -> Jn, allV -> Jo, builtinV -> Jp, lenV -> Jq, indexAddrV -> Jr, unOp -> Js, minmaxV -> Jt, minmax -> Ju, sliceV -> Jv, asInt -> Jw, appendV -> Jx, forkB -> Jy, roY -> Jz, rwB -> J0, copyV -> J1, clearV -> J2, convV -> J3, sliceCells -> J4, shift -> J5
open Bool renaming true -> BT, false -> BF
open Nat renaming reduceEqDiff -> J6, reduceLT -> J7, reduceAdd -> J8, reduceBEq -> J9, reduceSub -> JA, reduceMul -> JB, reduceLeDiff -> JJ
open Int renaming reduceLT -> JC, reduceLE -> JD, reduceAdd -> JE, reduceSub -> JF, reduceNeg -> JG, reduceToNat -> JH, reduceEq -> JI
open Go.Proofs
theorem strEq_refl (s : ByteArray) : strEq s s = true := by unfold strEq; simp
theorem sameCmd_at {H : Heap} {o c q f t : Int} {va vb : V} {l : List ByteArray} (ha : StrsAt H va l) (hb : StrsAt H vb l) :
    D X (.fn 41 []) [.agg (cmdV o c q f t va), .agg (cmdV o c q f t vb)] H = some (.bool true, H) := by
  refine Ok.eq ?_
  refine Ok.aim fun Q hQ => ?_
  have hQ' := Hid.mk hQ
  clear hQ
  obtain ⟨a, cap, z, rfl, hl, _, ha⟩ := ha
  obtain ⟨a', cap', z', rfl, _, _, hb⟩ := hb
  have ha' := Hid.mk ha
  have hb' := Hid.mk hb
  clear ha hb
  simp only [cmdV]
  (refine Ok.body body41 pin41 ?_; simp only [c41,Try.f41,Option.getD_some,nslot41,List.append_nil,List.map,List.replicate,List.length_cons,List.length_nil,Nat.reduceAdd,Nat.reduceSub,List.cons_append,List.nil_append])
  (repeat' (first | (simp -implicitDefEqProofs (maxSteps := 1000000) (disch := first | assumption | omega | (simp only [ZDI]; omega)) only [*,lenV,eq_self,G41,Za,Zb,Zc,Zd,Ze,Zf,Zg,Zh,Zi,Zj,Zk,Zl,Zm,Zn,Zo,Ja,Jb,Jc,J6,Jd,Je,J7,J8,Jf,Jg,Jh,Ji,Jj,Jk,J9,Jl,Jm,wr,Jn,JA,JB,Jo,Jp,Jq,Jr,Js,Jt,Ju,Jv,Jw,Jx,Jy,Jz,J0,J1,J2,J3,J4,J5,reduceCtorEq,JC,JD,JE,JF,JG,JH,JI,JJ]) | ((with_reducible (first | apply Ok.br | apply Ok.gd | apply Ok.ld)) <;> (intro g; (try simp only [ZGS] at g); try (exfalso; omega)))))
  refine Ok.loop [BF, BF, BF, BF, BT, BT, BF, BF, BF, BF, BF, BF, BF, BF, BF, BF, BF, BF, BF, BF, BF, BF, BF, BF, BF, BF, BF, BF, BF, BF, BF, BF, BF, BF, BF, BF, BF, BF, BF, BF, BF, BF, BF, BF, BF, BF, BF, BF, BF, BF, BF, BT, BT, BT, BT, BT, BT, BT, BT, BT, BT, BT, BT, BT, BT, BT] (fun n s => ∃ i : Nat, n = l.length - i /\ i <= l.length /\ tv s.e 51 = .v (.int .i64 i) /\ s.l = [(1, [.int .i64 o, .int .i64 c, .int .i64 q, .int .i64 f, .int .i64 t, .sl a l.length cap z]), (1, [.int .i64 o, .int .i64 c, .int .i64 q, .int .i64 f, .int .i64 t, .sl a' l.length cap' z'])] /\ s.h = H)
    (fun x s => x = .exit 0 /\ s.l = [(1, [.int .i64 o, .int .i64 c, .int .i64 q, .int .i64 f, .int .i64 t, .sl a l.length cap z]), (1, [.int .i64 o, .int .i64 c, .int .i64 q, .int .i64 f, .int .i64 t, .sl a' l.length cap' z'])] /\ s.h = H) (l.length - 0) ⟨0, rfl, by omega, rfl, rfl, rfl⟩ ?_ ?_
  · intro n ⟨e', l', h'⟩ hW ⟨i, hn, hi, h8, h2, hh⟩
    dsimp only at hW h8 h2 hh
    subst l' h'
    rw [hW.spread]
    simp only [spread_t,spread_f,spread_n,Nat.zero_add,Nat.reduceAdd,h8]
    by_cases hlt : i < l.length
    · have hlt' : (i : Int) < (l.length : Int) := by omega
      rcases ha'.out with rfl | ⟨b, g, oo, rw, full, rfl, h3, hf3⟩
      · simp at hlt
      · rcases hb'.out with rfl | ⟨b', g', oo', rw', full', rfl, h4, hf4⟩
        · simp at hlt
        · have e1 := hf3 i l[i] (List.getElem?_eq_getElem hlt)
          have e2 := hf4 i l[i] (List.getElem?_eq_getElem hlt)
          clear hf3 hf4
          generalize l[i] = x at e1 e2
          (repeat' (first | (simp -implicitDefEqProofs (maxSteps := 1000000) (disch := first | assumption | omega | (simp only [ZDI]; omega)) only [*,strEq_refl,G41,Za,Zb,Zc,Zd,Ze,Zf,Zg,Zh,Zi,Zj,Zk,Zl,Zm,Zn,Zo,Ja,Jb,Jc,J6,Jd,Je,J7,J8,Jf,Jg,Jh,Ji,Jj,Jk,J9,Jl,Jm,wr,Jn,JA,JB,Jo,Jp,Jq,Jr,Js,Jt,Ju,Jv,Jw,Jx,Jy,Jz,J0,J1,J2,J3,J4,J5,reduceCtorEq,JC,JD,JE,JF,JG,JH,JI,JJ]) | ((with_reducible (first | apply Ok.br | apply Ok.gd | apply Ok.ld)) <;> (intro g; (try simp only [ZGS] at g); try (exfalso; omega)))))
          exact Turn.next (l.length - (i + 1)) (by omega) ⟨rfl, i + 1, rfl, by omega, rfl, rfl, rfl⟩
    · have hlt' : ¬ (i : Int) < (l.length : Int) := by omega
      (repeat' (first | (simp -implicitDefEqProofs (maxSteps := 1000000) (disch := first | assumption | omega | (simp only [ZDI]; omega)) only [*,G41,Za,Zb,Zc,Zd,Ze,Zf,Zg,Zh,Zi,Zj,Zk,Zl,Zm,Zn,Zo,Ja,Jb,Jc,J6,Jd,Je,J7,J8,Jf,Jg,Jh,Ji,Jj,Jk,J9,Jl,Jm,wr,Jn,JA,JB,Jo,Jp,Jq,Jr,Js,Jt,Ju,Jv,Jw,Jx,Jy,Jz,J0,J1,J2,J3,J4,J5,reduceCtorEq,JC,JD,JE,JF,JG,JH,JI,JJ]) | ((with_reducible (first | apply Ok.br | apply Ok.gd | apply Ok.ld)) <;> (intro g; (try simp only [ZGS] at g); try (exfalso; omega)))))
      exact Turn.exit ⟨rfl, rfl, rfl, rfl⟩
  · intro x ⟨e', l', h'⟩ hW ⟨hx, h2, hh⟩
    dsimp only at hW h2 hh
    subst l' hx h'
    rw [hW.spread]
    clear hW
    simp only [spread_t,spread_f,spread_n,Nat.zero_add,Nat.reduceAdd]
    (repeat' (first | (simp -implicitDefEqProofs (maxSteps := 1000000) (disch := first | assumption | omega | (simp only [ZDI]; omega)) only [*,G41,Za,Zb,Zc,Zd,Ze,Zf,Zg,Zh,Zi,Zj,Zk,Zl,Zm,Zn,Zo,Ja,Jb,Jc,J6,Jd,Je,J7,J8,Jf,Jg,Jh,Ji,Jj,Jk,J9,Jl,Jm,wr,Jn,JA,JB,Jo,Jp,Jq,Jr,Js,Jt,Ju,Jv,Jw,Jx,Jy,Jz,J0,J1,J2,J3,J4,J5,reduceCtorEq,JC,JD,JE,JF,JG,JH,JI,JJ]) | ((with_reducible (first | apply Ok.br | apply Ok.gd | apply Ok.ld)) <;> (intro g; (try simp only [ZGS] at g); try (exfalso; omega)))))
    exact hQ'.out _ rfl
end Go.Ev
set_option maxRecDepth 100000
namespace Go.Ev
open Go.Ev renaming exPure -> Ja, ofValue -> Jb, cellsV -> Jc, load -> Jd, store -> Je, binOp -> Jf, intOp -> Jg, rdV -> Jh, vsame -> Ji, vsames -> Jj, makeSliceV -> Jk, resV -> Jl, isCell -> Jm, nilCheckV -> Jn, allV -> Jo, builtinV -> Jp, lenV -> Jq, indexAddrV -> Jr, unOp -> Js, minmaxV -> Jt, minmax -> Ju, sliceV -> Jv, asInt -> Jw, appendV -> Jx, forkB -> Jy, roY -> Jz, rwB -> J0, copyV -> J1, clearV -> J2, convV -> J3, sliceCells -> J4, shift -> J5
open Bool renaming true -> BT, false -> BF
open Nat renaming reduceEqDiff -> J6, reduceLT -> J7, reduceAdd -> J8, reduceBEq -> J9, reduceSub -> JA, reduceMul -> JB, reduceLeDiff -> JJ
open Int renaming reduceLT -> JC, reduceLE -> JD, reduceAdd -> JE, reduceSub -> JF, reduceNeg -> JG, reduceToNat -> JH, reduceEq -> JI
open Go.Proofs
theorem lightB_bd : ∀ {l : List ByteArray} {i n : Nat}, lightB i n l = true -> (∀ s ∈ l, s.size <= 10000) /\ (l = [] \/ i + l.length <= 101)
  | [], _, _, _ => ⟨by simp, .inl rfl⟩
  | s :: l, i, n, h => by
    rw [lightB] at h
    by_cases h1 : (100 : Int) < i
    · rw [decide_eq_true h1] at h; cases h
    · rw [decide_eq_false h1] at h
      by_cases h2 : (10000 : Int) < s.size
      · rw [decide_eq_true h2] at h; cases h
      · rw [decide_eq_false h2] at h
        by_cases h3 : (100000 : Int) < n
        · rw [decide_eq_true h3] at h; cases h
        · rw [decide_eq_false h3] at h
          obtain ⟨a, b⟩ := lightB_bd (l := l) h
          refine ⟨fun y hy => ?_, .inr ?_⟩
          · rcases List.mem_cons.1 hy with rfl | hy
            · omega
            · exact a y hy
          · rcases b with rfl | b
            · simp; omega
            · simp; omega
theorem sumE_bd : ∀ {l : List ByteArray}, (∀ s ∈ l, s.size <= 10000) -> sumE l <= 10000 * l.length
  | [], _ => by simp [sumE]
  | s :: l, h => by
    have h1 := sumE_bd (l := l) fun y hy => h y (by simp [hy])
    have h2 := h s (by simp)
    rw [sumE_cons, List.length_cons]; omega
theorem op_at (o : Int) : ∃ o' : Int, (IntKind.u64.wrap o).tmod 256 = o' /\ 0 <= o' /\ o' < 256 := by
  have h : 0 <= IntKind.u64.wrap o := by unfold IntKind.wrap; simp [IntKind.bits, IntKind.signed]; omega
  refine ⟨_, rfl, ?_, ?_⟩
  · rw [Int.tmod_eq_emod_of_nonneg h]; omega
  · rw [Int.tmod_eq_emod_of_nonneg h]; omega
theorem cmdE_two {o c q f t : Int} {l : List ByteArray} : 2 <= (cmdE o c q f t l).length := by
  unfold cmdE
  have h1 := intE_pos c
  simp only [List.length_append,List.length_cons]; omega
theorem cmdD_cut {o c q f t : Int} {l : List ByteArray} (ho : 0 <= o /\ o < 256) (hc : In64' c) (hq : In64' q) (hf : In64' f) (ht : In64' t) (hl : l.length <= 4096) (hs : ∀ s ∈ l, s.size <= 1048576) : cmdD ((cmdE o c q f t l).take ((cmdE o c q f t l).length - 1)) = none := by
  have hne : cmdE o c q f t l ≠ [] := List.ne_nil_of_length_pos (by have := cmdE_two (o := o) (c := c) (q := q) (f := f) (t := t) (l := l); omega)
  have e := List.dropLast_concat_getLast hne
  rw [<- List.dropLast_eq_take]
  refine cmdD_loc.cut (c := (cmdE o c q f t l).getLast hne) (x := (o, c, q, f, t, l)) ?_
  rw [e]
  have := cmdD_E ho hc hq hf ht hl hs []
  rwa [List.append_nil] at this
theorem Keeps.keepC {h h' : Heap} (hk : Keeps [] h h') : KeepC h h' := ⟨hk.1, fun i g q hc => hk.cells hc (by simp)⟩
set_option maxHeartbeats 64000000 in
theorem storeLays_at {H : Heap} {o c q f t : Int} {v : V} {l : List ByteArray} {vm : V} {ms : List UInt8} (hv : StrsAt H v l) (hc : In64' c) (hq : In64' q) (hf : In64' f) (ht : In64' t) (hm : BytesIn H vm ms) :
    Ev.Ok (D X (.fn 12 []) [.agg (cmV o c q f t v), vm] H) fun y => y.1 = .bool true := by
  refine Ok.aim fun Q hQ => ?_
  have hQ' := Hid.mk hQ
  clear hQ
  have h1 := light_at (o := o) (c := c) (q := q) (f := f) (t := t) hv
  have h8 := D_pin (X := X) (f := 16) (b := true) rfl
  obtain ⟨o', ho1, ho2, ho3⟩ := op_at o
  obtain ⟨ma, mc, mz, hvm⟩ : ∃ a c z, vm = .sl a ms.length c z := by
    rcases hm.2 with ⟨rfl, rfl | rfl⟩ | ⟨b, cap, full, rfl, _⟩
    · exact ⟨_, _, _, rfl⟩
    · exact ⟨_, _, _, rfl⟩
    · exact ⟨_, _, _, rfl⟩
  obtain ⟨lx, hlx⟩ : ∃ b, b = lightB 0 0 l := ⟨_, rfl⟩
  rw [<- hlx] at h1
  have hv0 := hv
  obtain ⟨da, dc, dz, rfl, _⟩ := hv
  have hbig : (lx = false \/ (lx = true /\ (3000 : Int) < (ms.length : Int))) \/ (lx = true /\ ¬ (3000 : Int) < (ms.length : Int)) := by
    cases lx with
    | false => exact .inl (.inl rfl)
    | true =>
      by_cases h3 : (3000 : Int) < (ms.length : Int)
      · exact .inl (.inr ⟨rfl, h3⟩)
      · exact .inr ⟨rfl, h3⟩
  rcases hbig with hbig | ⟨rfl, h3'⟩
  · subst hvm
    simp only [cmV] at h1 ⊢
    clear hm hv0 hc hq hf ht hlx ho1 ho2 ho3
    rcases hbig with rfl | ⟨rfl, h3⟩
    all_goals
      (refine Ok.body body12 pin12 ?_; simp only [c12,Try.f12,Option.getD_some,nslot12,List.append_nil,List.map,List.replicate,List.length_cons,List.length_nil,Nat.reduceAdd,Nat.reduceSub,List.cons_append,List.nil_append])
      (repeat' (first | (simp -implicitDefEqProofs (maxSteps := 1000000) (disch := first | assumption | omega | (simp only [ZDI]; omega)) only [*,lenV,G12,Za,Zb,Zc,Zd,Ze,Zf,Zg,Zh,Zi,Zj,Zk,Zl,Zm,Zn,Zo,Ja,Jb,Jc,J6,Jd,Je,J7,J8,Jf,Jg,Jh,Ji,Jj,Jk,J9,Jl,Jm,wr,Jn,JA,JB,Jo,Jp,Jq,Jr,Js,Jt,Ju,Jv,Jw,Jx,Jy,Jz,J0,J1,J2,J3,J4,J5,reduceCtorEq,JC,JD,JE,JF,JG,JH,JI,JJ]) | ((with_reducible (first | apply Ok.br | apply Ok.gd | apply Ok.ld)) <;> (intro g; (try simp only [ZGS] at g); try (exfalso; omega)))))
      all_goals exact hQ'.out _ rfl
  · obtain ⟨hs, hdl⟩ := lightB_bd hlx.symm
    have hsum := sumE_bd hs
    have hdl' : l.length <= 101 := by rcases hdl with e | e; (rw [e]; simp); omega
    have hs' : ∀ s ∈ l, s.size <= 1048576 := fun s h => by have := hs s h; omega
    have ho' : 0 <= o' /\ o' < 256 := ⟨ho2, ho3⟩
    have hEl := cmdE_len (o := o') (l := l) hc hq hf ht (by omega)
    have hE2 := cmdE_two (o := o') (c := c) (q := q) (f := f) (t := t) (l := l)
    have hD1 := cmdD_E ho' hc hq hf ht (l := l) (by omega) hs'
    have hD2 := cmdD_cut ho' hc hq hf ht (l := l) (by omega) hs'
    obtain ⟨y1, eL, H2, ob, hy1, wr, hst⟩ := cmdLay_at (H0 := H) (H := H ++ [.cells 0 true [.sl .nil 0 0 0]]) (p := H.length) (ob := none) (bs := []) hv0 (Keeps.app [] H _).keepC (Nat.le_refl _) (fun b e => by cases e) ⟨hc_new, rfl⟩ ho' hc hq hf ht (by omega) (by simp; omega)
    subst hy1
    rw [List.nil_append] at wr
    have hk2 := (hst.keepC (Keeps.app [] H _).keepC (Nat.le_refl _) (fun b e => by cases e)).1
    have eB := wBytes_at wr (by intro e; rw [e] at hE2; simp at hE2) (by omega)
    have hk3 : KeepC H (H2 ++ [.cells 0 true (bV (cmdE o' c q f t l))]) := ⟨by have := hk2.1; simp; omega, fun i g q hc => by have h := hk2.2 _ _ _ hc; rw [hcells_app (hcells_lt h)]; exact h⟩
    obtain ⟨⟨v4, H4⟩, eR, b4, g4, z4, hv4, hz4, hc4, hb4, hk4⟩ := rCmdLay_at (hv0.keep hk3) ho' hc hq hf ht (by omega) (by omega)
    dsimp only at hv4 hc4 hk4
    subst hv4
    have hB4 := hk4.cells (hc_new (H := H2) (r := true) (c := bV (cmdE o' c q f t l))) (by simp)
    have hkH4 : KeepC H H4 := ⟨Nat.le_trans hk3.1 hk4.1, fun i g q hc => hk4.cells (hk3.2 _ _ _ hc) (by simp)⟩
    generalize hE : cmdE o' c q f t l = E at *
    have tail : ∀ (G5 : Heap) (b5 : Nat) (n5 : Nat) (rw5 rwB : Bool) (full5 : List V), KeepC H G5 -> hcells G5 b5 0 = some (rw5, full5) -> full5.take n5 = bV (E ++ ms) -> n5 <= full5.length -> n5 = E.length + ms.length -> hcells G5 H2.length 0 = some (rwB, bV E) ->
        ∀ c5, ∃ p1 p2 G6 G7 G8 G9 sa sc sz, D X (.fn 39 []) [.sl (.at b5 0 0) n5 c5 1] G5 = some (.ptr p1 0 0, G6) /\ D X (.fn 40 []) [.ptr p1 0 0] G6 = some (.agg (cmV o' c q f t (.sl sa l.length sc sz)), G7) /\
          D X (.fn 39 []) [.sl (.at H2.length 0 0) (E.length - 1) E.length 1] G7 = some (.ptr p2 0 0, G8) /\ D X (.fn 40 []) [.ptr p2 0 0] G8 = some (.agg (cmV 0 0 0 0 0 (.sl .nil 0 0 0)), G9) /\
          D X (.fn 41 []) [.agg (cmV o' c q f t (.sl da l.length dc dz)), .agg (cmV o' c q f t (.sl sa l.length sc sz))] G9 = some (.bool true, G9) /\ D X (.fn 42 []) [.ptr p1 0 0] G9 = some (.int .i64 ms.length, G9) /\ D X (.fn 43 []) [.ptr p2 0 0] G9 = some (.bool true, G9) /\
          D X (.fn 41 []) [.agg (cmV 0 0 0 0 0 (.sl .nil 0 0 0)), .agg (cmV 0 0 0 0 0 (.sl .nil 0 0 0))] G9 = some (.bool true, G9) := by
      intro G5 b5 n5 rw5 rwB full5 q1 q2 q3 q4 q5 q6 c5
      have q7 := hcells_lt q2
      obtain ⟨n1, n2⟩ := newReader_at (c := c5) (z := 1) (bs := E ++ ms) q2 (by rw [List.length_append]; omega) q4 q3 (by omega) (by omega)
      obtain ⟨⟨w7, G7⟩, t1, o1, c1, r1, f1, t1', dv1, dl1, hw7, hg1, hc1, hr1, hk7⟩ := rdCmd_at n2
      dsimp only at hw7 hg1 hr1 hk7
      subst hw7
      have hdec : (some (E ++ ms)).bind cmdD = some ((o', c, q, f, t, l), ms) := hD1 ms
      rw [hdec] at hc1 hr1
      have hz1 : o1 = o' /\ c1 = c /\ r1 = q /\ f1 = f /\ t1' = t /\ dl1 = l := by
        rcases hc1 with ⟨e, _⟩ | ⟨r, e, _⟩
        · cases e
        · have e := congrArg Prod.fst (Option.some.inj e)
          simp only [Prod.mk.injEq] at e
          obtain ⟨a1, a2, a3, a4, a5, a6⟩ := e
          exact ⟨a1.symm, a2.symm, a3.symm, a4.symm, a5.symm, a6.symm⟩
      obtain ⟨rfl, rfl, rfl, rfl, rfl, rfl⟩ := hz1
      have q8 : hcells G7 H2.length 0 = some (rwB, bV E) := by
        refine hk7.cells (p := (rwB, bV E)) ?_ ?_
        · rw [hcells_app (hcells_lt q6)]; exact q6
        · have := hcells_lt q6; simp; omega
      obtain ⟨n3, n4⟩ := newReader_at (c := E.length) (z := 1) (bs := E.take (E.length - 1)) (n := E.length - 1) q8 (by rw [List.length_take]; omega) (by rw [bV_len]; omega) (bV_cut0 _ _) (by omega) (by omega)
      obtain ⟨⟨w9, G9⟩, t2, o2, c2, r2, f2, t2', dv2, dl2, hw9, hg2, hc2, hr2, hk9⟩ := rdCmd_at n4
      dsimp only at hw9 hg2 hr2 hk9
      subst hw9
      have hdec2 : (some (E.take (E.length - 1))).bind cmdD = none := hD2
      rw [hdec2] at hc2 hr2
      have hz2 : o2 = 0 /\ c2 = 0 /\ r2 = 0 /\ f2 = 0 /\ t2' = 0 /\ dv2 = .sl .nil 0 0 0 /\ dl2 = [] := by
        rcases hc2 with ⟨_, e⟩ | ⟨r, e, _⟩
        · exact e
        · cases e
      obtain ⟨rfl, rfl, rfl, rfl, rfl, rfl, rfl⟩ := hz2
      have hk79 : Keeps [] G7 G9 := ⟨by have := hk9.1; simp at this; omega, fun i hi _ => by
        rw [hk9.2 i (by simp; omega) (by simp; omega), List.getElem?_append_left hi]⟩
      have hkG7 : KeepC H G7 := ⟨by have := hk7.1; have := q1.1; simp at *; omega, fun i g q hc => by
        have e := q1.2 _ _ _ hc
        refine hk7.cells (p := q) ?_ ?_
        · rw [hcells_app (hcells_lt e)]; exact e
        · have := hcells_lt e; simp; omega⟩
      have hkG9 : KeepC H G9 := ⟨Nat.le_trans hkG7.1 hk79.1, fun i g q hc => hk79.cells (hkG7.2 _ _ _ hc) (by simp)⟩
      have hz19 := (hg1.strs (by omega)).keep hk79.keepC
      have s1 := sameCmd_at (o := o1) (c := c1) (q := r1) (f := f1) (t := t1') (hv0.keep hkG9) hz19
      have hnil : StrsAt G9 (.sl .nil 0 0 0) [] := ⟨.nil, 0, 0, rfl, by simp, trivial, .inl rfl⟩
      have s2 := sameCmd_at (o := 0) (c := 0) (q := 0) (f := 0) (t := 0) hnil hnil
      have s3 := rdLeft_at (hr1.keep hk79)
      have s4 := rdBad_at hr2
      obtain ⟨sa, sc, sz, rfl, _⟩ := hz19
      exact ⟨_, _, _, G7, _, G9, sa, sc, sz, n1, t1, n3, t2, s1, s3, s4, s2⟩
    have tail' := Hid.mk tail
    have hne : ¬ E.length = 0 := by omega
    have htb := toBytes_bV E
    have hsub : (E.length : Int) - 1 = ((E.length - 1 : Nat) : Int) := by omega
    have hle1 : E.length - 1 <= E.length := by omega
    have hm' := Hid.mk hm.2
    have hkH4' := Hid.mk hkH4
    have hlen2 : H.length <= H2.length := hk2.1
    have hB4l := hcells_lt hB4
    have hEb : E.length <= 3000000 := by omega
    clear tail wr hst hk2 hk3 hk4 hD1 hD2 hEl hE2 hm hlx hs hs' hdl hsum hkH4 hz4 hb4 hE hv0
    simp only [cmV] at h1 ⊢
    clear hvm
    rcases hm'.out with ⟨e0, hv⟩ | ⟨bm, cap, full, rfl, hbm, hml, hmt⟩
    · subst e0
      rcases hv with rfl | rfl
      all_goals
        obtain ⟨p1, p2, G6, G7, G8, G9, sa, sc, sz, n1, t1, n3, t2, s1, s2, s3, s4⟩ := tail'.out H4 H2.length E.length true true (bV E) hkH4'.out hB4 (by rw [List.append_nil]; exact bV_take _) (by rw [bV_len]; exact Nat.le_refl _) (by rfl) hB4 E.length
        simp only [cmV] at t1 t2 s1 s4
        clear tail' hkH4' hm'
        (refine Ok.body body12 pin12 ?_; simp only [c12,Try.f12,Option.getD_some,nslot12,List.append_nil,List.map,List.replicate,List.length_cons,List.length_nil,Nat.reduceAdd,Nat.reduceSub,List.cons_append,List.nil_append])
        (repeat' (first | (simp -implicitDefEqProofs (maxSteps := 1000000) (disch := first | assumption | omega | (simp only [ZDI]; omega)) only [*,lenV,bV_take,bV_len,List.drop_zero,Nat.zero_add,Nat.mul_one,strEq_refl,SA.add,optArr_s,optArr_n,Array.toList_append,G12,Za,Zb,Zc,Zd,Ze,Zf,Zg,Zh,Zi,Zj,Zk,Zl,Zm,Zn,Zo,Ja,Jb,Jc,J6,Jd,Je,J7,J8,Jf,Jg,Jh,Ji,Jj,Jk,J9,Jl,Jm,wr,Jn,JA,JB,Jo,Jp,Jq,Jr,Js,Jt,Ju,Jv,Jw,Jx,Jy,Jz,J0,J1,J2,J3,J4,J5,reduceCtorEq,JC,JD,JE,JF,JG,JH,JI,JJ]) | ((with_reducible (first | apply Ok.br | apply Ok.gd | apply Ok.ld)) <;> (intro g; (try simp only [ZGS] at g); try (exfalso; omega)))))
        exact hQ'.out _ rfl
    · by_cases hm0 : ms.length = 0
      · have e0 : ms = [] := List.length_eq_zero_iff.1 hm0
        obtain ⟨p1, p2, G6, G7, G8, G9, sa, sc, sz, n1, t1, n3, t2, s1, s2, s3, s4⟩ := tail'.out H4 H2.length E.length true true (bV E) hkH4'.out hB4 (by rw [e0, List.append_nil]; exact bV_take _) (by rw [bV_len]; exact Nat.le_refl _) (by rw [hm0]; rfl) hB4 E.length
        simp only [cmV] at t1 t2 s1 s4
        have hz2 : decide (ms.length = 0) = true := decide_eq_true hm0
        clear hm0 e0 hml hmt
        clear tail' hkH4' hm'
        (refine Ok.body body12 pin12 ?_; simp only [c12,Try.f12,Option.getD_some,nslot12,List.append_nil,List.map,List.replicate,List.length_cons,List.length_nil,Nat.reduceAdd,Nat.reduceSub,List.cons_append,List.nil_append])
        (repeat' (first | (simp -implicitDefEqProofs (maxSteps := 1000000) (disch := first | assumption | omega | (simp only [ZDI]; omega)) only [*,lenV,bV_take,bV_len,List.drop_zero,Nat.zero_add,Nat.mul_one,strEq_refl,SA.add,optArr_s,optArr_n,Array.toList_append,G12,Za,Zb,Zc,Zd,Ze,Zf,Zg,Zh,Zi,Zj,Zk,Zl,Zm,Zn,Zo,Ja,Jb,Jc,J6,Jd,Je,J7,J8,Jf,Jg,Jh,Ji,Jj,Jk,J9,Jl,Jm,wr,Jn,JA,JB,Jo,Jp,Jq,Jr,Js,Jt,Ju,Jv,Jw,Jx,Jy,Jz,J0,J1,J2,J3,J4,J5,reduceCtorEq,JC,JD,JE,JF,JG,JH,JI,JJ]) | ((with_reducible (first | apply Ok.br | apply Ok.gd | apply Ok.ld)) <;> (intro g; (try simp only [ZGS] at g); try (exfalso; omega)))))
        exact hQ'.out _ rfl
      · have hbm4 := hkH4'.out.2 _ _ _ hbm
        have hbml := hcells_lt hbm
        obtain ⟨G5, hG5⟩ : ∃ G, H4.set H2.length (.cells 0 false (bV E)) ++ [.cells 0 false (bV E ++ bV ms)] = G := ⟨_, rfl⟩
        have hk5 : KeepC H G5 := by
          rw [<- hG5]
          refine ⟨by have := hkH4'.out.1; simp; omega, fun i g q hc => ?_⟩
          have e := hkH4'.out.2 _ _ _ hc
          have := hcells_lt hc
          rw [hcells_app (by have := hcells_lt e; simpa using this), hcells_set_ne (by omega)]
          exact e
        have hb5 : hcells G5 H4.length 0 = some (false, bV E ++ bV ms) := by
          rw [<- hG5]
          have := hc_new (H := H4.set H2.length (.cells 0 false (bV E))) (r := false) (c := bV E ++ bV ms)
          rwa [List.length_set] at this
        have hB5 : hcells G5 H2.length 0 = some (false, bV E) := by
          rw [<- hG5, hcells_app (by simpa using hB4l)]
          unfold hcells
          rw [List.getElem?_set_self hB4l]
          exact grd_t rfl _
        obtain ⟨p1, p2, G6, G7, G8, G9, sa, sc, sz, n1, t1, n3, t2, s1, s2, s3, s4⟩ := tail'.out G5 H4.length (E.length + ms.length) false false (bV E ++ bV ms) hk5 hb5 (by rw [<- bV_app, <- List.length_append]; exact bV_take _) (by rw [List.length_append, bV_len, bV_len]; exact Nat.le_refl _) rfl hB5 (E.length + ms.length)
        have hd1 : ¬ E.length + ms.length <= E.length := by omega
        have hL : (E.length + ms.length) * 1 <= 35184372088832 /\ E.length + ms.length <= 35184372088832 := by omega
        simp only [cmV] at t1 t2 s1 s4
        clear hk5 hb5 hB5
        clear tail' hkH4' hm'
        (refine Ok.body body12 pin12 ?_; simp only [c12,Try.f12,Option.getD_some,nslot12,List.append_nil,List.map,List.replicate,List.length_cons,List.length_nil,Nat.reduceAdd,Nat.reduceSub,List.cons_append,List.nil_append])
        (repeat' (first | (simp -implicitDefEqProofs (maxSteps := 1000000) (disch := first | assumption | omega | (simp only [ZDI]; omega)) only [*,lenV,bV_take,bV_len,List.drop_zero,Nat.zero_add,Nat.mul_one,strEq_refl,SA.add,optArr_s,optArr_n,Array.toList_append,G12,Za,Zb,Zc,Zd,Ze,Zf,Zg,Zh,Zi,Zj,Zk,Zl,Zm,Zn,Zo,Ja,Jb,Jc,J6,Jd,Je,J7,J8,Jf,Jg,Jh,Ji,Jj,Jk,J9,Jl,Jm,wr,Jn,JA,JB,Jo,Jp,Jq,Jr,Js,Jt,Ju,Jv,Jw,Jx,Jy,Jz,J0,J1,J2,J3,J4,J5,reduceCtorEq,JC,JD,JE,JF,JG,JH,JI,JJ]) | ((with_reducible (first | apply Ok.br | apply Ok.gd | apply Ok.ld)) <;> (intro g; (try simp only [ZGS] at g); try (exfalso; omega)))))
        exact hQ'.out _ rfl
end Go.Ev
