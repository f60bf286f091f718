/-
Texts of this claim, one behind the other.
-/
import Derived.Test.YtennoblijpfacaaAd
set_option linter.unusedSimpArgs false
set_option linter.unusedVariables false
set_option maxRecDepth 100000
set_option maxRecDepth 100000
namespace Go.Ev
open Go.Ev renaming exPure -> Ja, ofValue -> Jb, cellsV -> Jc, load -> Jd, store -> Je, binOp -> Jf, intOp -> Jg, rdV -> Jh, vsame -> Ji, vsames -> Jj, makeSliceV -> Jk, resV -> Jl, isCell -> Jm, nilCheckV -> Jn, allV -> Jo, builtinV -> Jp, lenV -> Jq, indexAddrV -> Jr, unOp -> Js, minmaxV -> Jt, minmax -> Ju, sliceV -> Jv, asInt -> Jw, appendV -> Jx, forkB -> Jy, roY -> Jz, rwB -> J0, copyV -> J1, clearV -> J2, convV -> J3, sliceCells -> J4, shift -> J5
open Bool renaming true -> BT, false -> BF
open Nat renaming reduceEqDiff -> J6, reduceLT -> J7, reduceAdd -> J8, reduceBEq -> J9, reduceSub -> JA, reduceMul -> JB, reduceLeDiff -> JJ
open Int renaming reduceLT -> JC, reduceLE -> JD, reduceAdd -> JE, reduceSub -> JF, reduceNeg -> JG, reduceToNat -> JH, reduceEq -> JI
open Go.Proofs
theorem textE_pos' (s : ByteArray) : 0 < (textE s).length := by unfold textE; rw [List.length_append]; have := numE_pos s.size; omega
set_option maxHeartbeats 64000000 in
theorem code_at {H : Heap} {p T M : Nat} {mb : Nat -> Nat} {s : Sto} (hs : RefAt H p T M mb s.n s) (hok : s.Ok) (hg : s.Good) : Ev.Ok (D X (.fn 46 []) [.ptr p 0 0] H) (Bys H (storeE s)) := by
  refine Ok.aim fun Q hQ => ?_
  have hQ' := Hid.mk hQ
  clear hQ
  obtain ⟨gT, gM, ts, ms, hp1, hT1, hTl, hTs, hM1, hMl, hMs⟩ := hs.tm
  have hmk := Hid.mk hs.mks
  have hg' := Hid.mk hg
  have hTs' := Hid.mk hTs
  have hMs' := Hid.mk hMs
  have g0 := hok.h0
  have g1 := hok.h1
  have g2 := hok.h2
  have hn2 : s.n <= 300 := by unfold Sto.n; omega
  have hua := wrapU (n := s.a) (by omega)
  have hub := wrapU (n := s.b) (by omega)
  have hla := numE_len (n := s.a.toNat) (by omega)
  have hlb := numE_len (n := s.b.toNat) (by omega)
  have hpa := numE_pos s.a.toNat
  have hpb := numE_pos s.b.toNat
  have hna : ((s.a.toNat : Nat) : Int) = s.a := by omega
  have hnb : ((s.b.toNat : Nat) : Int) = s.b := by omega
  obtain ⟨⟨v1, H1⟩, e1, c1, r1, z1, hv1, hz1, hc1, hb1, hk1⟩ := rNum_at (H := H) (n := s.a.toNat) (by omega)
  dsimp only at hv1 hc1 hk1
  subst hv1
  obtain ⟨⟨v2, H2⟩, e2, c2, r2, z2, hv2, hz2, hc2, hb2, hk2⟩ := rNum_at (H := H1) (n := s.b.toNat) (by omega)
  dsimp only at hv2 hc2 hk2
  subst hv2
  rw [hna] at e1
  rw [hnb] at e2
  have hx1 := hk2.cells hc1 (by simp)
  have hxl1 := hcells_lt hx1
  have hcl2 := hcells_lt hc2
  have hK2 : Keeps [] H H2 := hk1.trans ⟨hk2.1, hk2.2⟩
  have hp2 := hk1.cells hp1 (by simp)
  have hp3 := hK2.cells hp1 (by simp)
  obtain ⟨A2, hA2⟩ : ∃ A, A = numE s.a.toNat ++ numE s.b.toNat := ⟨_, rfl⟩
  have hA2' : bV (numE s.a.toNat) ++ bV (numE s.b.toNat) = bV A2 := by rw [hA2, bV_app]
  have hn2' : (numE s.a.toNat).length + (numE s.b.toNat).length = A2.length := by rw [hA2, List.length_append]
  obtain ⟨A3, hA3⟩ : ∃ A, A = A2 ++ [if s.fz then 1 else 0] := ⟨_, rfl⟩
  have hA3' : bV A2 ++ [V.int .u8 (if s.fz then 1 else 0)] = bV A3 := by rw [hA3, bV_app]; cases s.fz <;> rfl
  have hn3' : A2.length + 1 = A3.length := by rw [hA3, List.length_append]; rfl
  have hsto : Hid (A3 ++ cellsE s s.n = storeE s) := ⟨by rw [hA3, hA2]; rfl⟩
  have hA3l : A3.length <= 40 := by omega
  have hd2 : ¬ A2.length <= (numE s.a.toNat).length := by omega
  have hd3 : ¬ A3.length <= A2.length := by omega
  have hm2 : ¬ (numE s.b.toNat).length = 0 := by omega
  have hm1 : ¬ (numE s.a.toNat).length = 0 := by omega
  have hM2 : A2.length * 1 <= 35184372088832 /\ A2.length <= 35184372088832 := by omega
  have hM3 : A3.length * 1 <= 35184372088832 /\ A3.length <= 35184372088832 := by omega
  have hHl := hK2.1
  have hpl := hcells_lt hp1
  have hTl0 := hcells_lt hT1
  have hMl0 := hcells_lt hM1
  have hK2' := Hid.mk hK2
  clear hA2 hA3 hK2 hk1 hk2 hTs hMs hs hg hz2
  rcases hz1 with rfl | rfl
  all_goals
    cases hfz : s.fz
    all_goals
      rw [hfz] at hA3' hp1 hp2 hp3
      simp only [if_true,Bool.false_eq_true,if_false] at hA3'
      (refine Ok.body body46 pin46 ?_; simp only [c46,Try.f46,Option.getD_some,nslot46,List.append_nil,List.map,List.replicate,List.length_cons,List.length_nil,Nat.reduceAdd,Nat.reduceSub,List.cons_append,List.nil_append])
      (repeat' (first | (simp -implicitDefEqProofs (maxSteps := 1000000) (disch := first | assumption | omega | (simp only [ZDI]; omega)) only [*,lenV,bV_take,bV_len,List.drop_zero,Nat.zero_add,Nat.mul_one,G46,Za,Zb,Zc,Zd,Ze,Zf,Zg,Zh,Zi,Zj,Zk,Zl,Zm,Zn,Zo,Ja,Jb,Jc,J6,Jd,Je,J7,J8,Jf,Jg,Jh,Ji,Jj,Jk,J9,Jl,Jm,wr,Jn,JA,JB,Jo,Jp,Jq,Jr,Js,Jt,Ju,Jv,Jw,Jx,Jy,Jz,J0,J1,J2,J3,J4,J5,reduceCtorEq,JC,JD,JE,JF,JG,JH,JI,JJ]) | ((with_reducible (first | apply Ok.br | apply Ok.gd | apply Ok.ld)) <;> (intro g; (try simp only [ZGS] at g); try (exfalso; omega)))))
      clear e1 e2 hc1 hc2 hx1 hp2 hp3 hA2' hn2' hA3' hn3' hd2 hd3 hm1 hm2 hM2 hM3 hua hub hna hnb hla hlb hpa hpb
      refine Ok.loop [BF, BF, BF, BT, BT, BT, BF, BT, BF, BF, BF, BF, BF, BF, BF, BF, BF, BF, BF, BF, BF, BF, BF, BF, BF, BF, BF, BF, BF, BF, BF, BF, BF, BF, BF, BF, BF, BF, BT, BT, BT, BT, BT, BT, BT, BT, BT, BT, BT, BT, BT, BT, BT, BT, BT, BT, BT, BT, BT, BT, BT, BT, BT, BT, BT, BT, BF] (fun m s2 => ∃ (i b q' : Nat) (A : List UInt8) (y1 y2 : Nat × List V), m = s.n - i /\ i <= s.n /\ tv s2.e 38 = .v (.int .i64 i) /\ tv s2.e 3 = .v (.sl (.at b q' 0) A.length A.length 1) /\ s2.l = [y1, y2] /\ A = A3 ++ cellsE s i /\ H.length <= b /\ hcells s2.h b q' = some (true, bV A) /\ Keeps [] H s2.h)
        (fun y s2 => y = .exit 0 /\ ∃ (b q' : Nat) (A : List UInt8) (y1 y2 : Nat × List V), tv s2.e 3 = .v (.sl (.at b q' 0) A.length A.length 1) /\ s2.l = [y1, y2] /\ A = A3 ++ cellsE s s.n /\ H.length <= b /\ hcells s2.h b q' = some (true, bV A) /\ Keeps [] H s2.h)
        (s.n - 0) ⟨0, _, _, A3, _, _, rfl, Nat.zero_le _, rfl, rfl, rfl, by rw [cellsE, List.append_nil], by first | exact hb1 | exact hHl, by first | exact hcells_set_eq hxl1 | (rw [hcells_ge (Nat.le_refl _), Nat.sub_self]; exact grd_t rfl _), by first | exact hK2'.out.set (.inr hb1) _ | exact hK2'.out.snoc _⟩ ?_ ?_
      · intro m ⟨e', l', G⟩ hW ⟨i, b, q', A, y1, y2, hm, hi, h38, h3, k2, hA, hbH, hcA, hkg⟩
        dsimp only at hW h38 h3 k2 hcA hkg
        subst l'
        rw [hW.spread]
        simp only [spread_t,spread_f,spread_n,Nat.zero_add,Nat.reduceAdd,h38,h3]
        clear hW hQ'
        by_cases hlt : i < s.n
        · have hlt' : (i : Int) < (s.n : Int) := by omega
          have g1 : 0 <= (i : Int) /\ (i : Int) < (s.n : Int) := by omega
          have hti := hTs'.out i hlt
          have hmi := hMs'.out i hlt
          obtain ⟨qm, hqm, hql, hqk⟩ := hmk.out i hlt
          have k0 := hqk 0 (by omega)
          have k1 := hqk 1 (by omega)
          have k2 := hqk 2 (by omega)
          have k3 := hqk 3 (by omega)
          have hL0 := cellsE_len hg'.out i
          have hsz := hg'.out.size i
          have htl := textE_len (s.txt i)
          have tp := textE_pos' (s.txt i)
          have m0 := hg'.out.mark i 0
          have m1 := hg'.out.mark i 1
          have m2 := hg'.out.mark i 2
          have m3 := hg'.out.mark i 3
          have n0 := numE_len (n := (s.mrk i 0).toNat) (by omega)
          have u0 := wrapU (n := s.mrk i 0) (by omega)
          have w0 : (((s.mrk i 0).toNat : Nat) : Int) = s.mrk i 0 := by omega
          have t0 := numE_pos (s.mrk i 0).toNat
          have n1 := numE_len (n := (s.mrk i 1).toNat) (by omega)
          have u1 := wrapU (n := s.mrk i 1) (by omega)
          have w1 : (((s.mrk i 1).toNat : Nat) : Int) = s.mrk i 1 := by omega
          have t1 := numE_pos (s.mrk i 1).toNat
          have n2 := numE_len (n := (s.mrk i 2).toNat) (by omega)
          have u2 := wrapU (n := s.mrk i 2) (by omega)
          have w2 : (((s.mrk i 2).toNat : Nat) : Int) = s.mrk i 2 := by omega
          have t2 := numE_pos (s.mrk i 2).toNat
          have n3 := numE_len (n := (s.mrk i 3).toNat) (by omega)
          have u3 := wrapU (n := s.mrk i 3) (by omega)
          have w3 : (((s.mrk i 3).toNat : Nat) : Int) = s.mrk i 3 := by omega
          have t3 := numE_pos (s.mrk i 3).toNat
          have hAl : A.length <= 3000000 := by rw [hA, List.length_append]; omega
          obtain ⟨c6, r6, z6, H6, e6, hc6, hx6, hxl6, hcl6, hK6, hs6⟩ := doc_step (rText_at (s := s.txt i) (by omega)) hkg hbH hcA
          obtain ⟨B6, hB6⟩ : ∃ B, B = A ++ textE (s.txt i) := ⟨_, rfl⟩
          obtain ⟨hB6', hn6, ha6, hKa6⟩ := hs6 B6 hB6
          obtain ⟨c7, r7, z7, H7, e7, hc7, hx7, hxl7, hcl7, hK7, hs7⟩ := doc_step (rNum_at (n := (s.mrk i 0).toNat) (by omega)) hKa6 hbH ha6
          obtain ⟨B7, hB7⟩ : ∃ B, B = B6 ++ numE (s.mrk i 0).toNat := ⟨_, rfl⟩
          obtain ⟨hB7', hn7, ha7, hKa7⟩ := hs7 B7 hB7
          obtain ⟨c8, r8, z8, H8, e8, hc8, hx8, hxl8, hcl8, hK8, hs8⟩ := doc_step (rNum_at (n := (s.mrk i 1).toNat) (by omega)) hKa7 hbH ha7
          obtain ⟨B8, hB8⟩ : ∃ B, B = B7 ++ numE (s.mrk i 1).toNat := ⟨_, rfl⟩
          obtain ⟨hB8', hn8, ha8, hKa8⟩ := hs8 B8 hB8
          obtain ⟨c9, r9, z9, H9, e9, hc9, hx9, hxl9, hcl9, hK9, hs9⟩ := doc_step (rNum_at (n := (s.mrk i 2).toNat) (by omega)) hKa8 hbH ha8
          obtain ⟨B9, hB9⟩ : ∃ B, B = B8 ++ numE (s.mrk i 2).toNat := ⟨_, rfl⟩
          obtain ⟨hB9', hn9, ha9, hKa9⟩ := hs9 B9 hB9
          obtain ⟨c10, r10, z10, H10, e10, hc10, hx10, hxl10, hcl10, hK10, hs10⟩ := doc_step (rNum_at (n := (s.mrk i 3).toNat) (by omega)) hKa9 hbH ha9
          obtain ⟨B10, hB10⟩ : ∃ B, B = B9 ++ numE (s.mrk i 3).toNat := ⟨_, rfl⟩
          obtain ⟨hB10', hn10, ha10, hKa10⟩ := hs10 B10 hB10
          rw [w0] at e7
          rw [w1] at e8
          rw [w2] at e9
          rw [w3] at e10
          have hAn : Hid (B10 = A3 ++ cellsE s (i + 1)) := ⟨by rw [hB10, hB9, hB8, hB7, hB6, hA, cellsE]; unfold cellE; simp only [List.append_assoc]⟩
          have ha' := Hid.mk ha10
          have hKa' := Hid.mk hKa10
          have j1 := hkg.cells hp1 (by simp)
          have j2 := hkg.cells hT1 (by simp)
          have j3 := hK6.cells hp1 (by simp)
          have jp := hKa6.cells hp1 (by simp)
          have jM := hKa6.cells hM1 (by simp)
          have jM2 := hK6.cells hM1 (by simp)
          have jq6 := hKa6.cells hqm (by simp)
          have jr6 := hK6.cells hqm (by simp)
          have jq7 := hKa7.cells hqm (by simp)
          have jr7 := hK7.cells hqm (by simp)
          have jq8 := hKa8.cells hqm (by simp)
          have jr8 := hK8.cells hqm (by simp)
          have jq9 := hKa9.cells hqm (by simp)
          have jr9 := hK9.cells hqm (by simp)
          have jq10 := hKa10.cells hqm (by simp)
          have jr10 := hK10.cells hqm (by simp)
          have hml := hcells_lt hqm
          have hm6 : ¬ (textE (s.txt i)).length = 0 := by omega
          have hd6 : ¬ B6.length <= A.length := by omega
          have hM6 : B6.length * 1 <= 35184372088832 /\ B6.length <= 35184372088832 := by omega
          have hm7 : ¬ (numE (s.mrk i 0).toNat).length = 0 := by omega
          have hd7 : ¬ B7.length <= B6.length := by omega
          have hM7 : B7.length * 1 <= 35184372088832 /\ B7.length <= 35184372088832 := by omega
          have hm8 : ¬ (numE (s.mrk i 1).toNat).length = 0 := by omega
          have hd8 : ¬ B8.length <= B7.length := by omega
          have hM8 : B8.length * 1 <= 35184372088832 /\ B8.length <= 35184372088832 := by omega
          have hm9 : ¬ (numE (s.mrk i 2).toNat).length = 0 := by omega
          have hd9 : ¬ B9.length <= B8.length := by omega
          have hM9 : B9.length * 1 <= 35184372088832 /\ B9.length <= 35184372088832 := by omega
          have hm10 : ¬ (numE (s.mrk i 3).toNat).length = 0 := by omega
          have hd10 : ¬ B10.length <= B9.length := by omega
          have hM10 : B10.length * 1 <= 35184372088832 /\ B10.length <= 35184372088832 := by omega
          clear hs6 hs7 hs8 hs9 hs10 hB6 hB7 hB8 hB9 hB10 hA hcA hkg hK6 hK7 hK8 hK9 hK10 hKa6 hKa7 hKa8 hKa9 hKa10 ha6 ha7 ha8 ha9 ha10 hqm hqk hL0 hsz htl tp m0 m1 m2 m3 n0 n1 n2 n3 w0 w1 w2 w3 t0 t1 t2 t3 hT1 hM1 hp1
          (repeat' (first | (simp -implicitDefEqProofs (maxSteps := 1000000) (disch := first | assumption | omega | (simp only [ZDI]; omega)) only [*,lenV,bV_take,bV_len,List.drop_zero,Nat.zero_add,Nat.mul_one,G46,Za,Zb,Zc,Zd,Ze,Zf,Zg,Zh,Zi,Zj,Zk,Zl,Zm,Zn,Zo,Ja,Jb,Jc,J6,Jd,Je,J7,J8,Jf,Jg,Jh,Ji,Jj,Jk,J9,Jl,Jm,wr,Jn,JA,JB,Jo,Jp,Jq,Jr,Js,Jt,Ju,Jv,Jw,Jx,Jy,Jz,J0,J1,J2,J3,J4,J5,reduceCtorEq,JC,JD,JE,JF,JG,JH,JI,JJ]) | ((with_reducible (first | apply Ok.br | apply Ok.gd | apply Ok.ld)) <;> (intro g; (try simp only [ZGS] at g); try (exfalso; omega)))))
          refine Ok.unroll ?_
          (repeat' (first | (simp -implicitDefEqProofs (maxSteps := 1000000) (disch := first | assumption | omega | (simp only [ZDI]; omega)) only [*,lenV,bV_take,bV_len,List.drop_zero,Nat.zero_add,Nat.mul_one,G46,Za,Zb,Zc,Zd,Ze,Zf,Zg,Zh,Zi,Zj,Zk,Zl,Zm,Zn,Zo,Ja,Jb,Jc,J6,Jd,Je,J7,J8,Jf,Jg,Jh,Ji,Jj,Jk,J9,Jl,Jm,wr,Jn,JA,JB,Jo,Jp,Jq,Jr,Js,Jt,Ju,Jv,Jw,Jx,Jy,Jz,J0,J1,J2,J3,J4,J5,reduceCtorEq,JC,JD,JE,JF,JG,JH,JI,JJ]) | ((with_reducible (first | apply Ok.br | apply Ok.gd | apply Ok.ld)) <;> (intro g; (try simp only [ZGS] at g); try (exfalso; omega)))))
          refine Ok.unroll ?_
          (repeat' (first | (simp -implicitDefEqProofs (maxSteps := 1000000) (disch := first | assumption | omega | (simp only [ZDI]; omega)) only [*,lenV,bV_take,bV_len,List.drop_zero,Nat.zero_add,Nat.mul_one,G46,Za,Zb,Zc,Zd,Ze,Zf,Zg,Zh,Zi,Zj,Zk,Zl,Zm,Zn,Zo,Ja,Jb,Jc,J6,Jd,Je,J7,J8,Jf,Jg,Jh,Ji,Jj,Jk,J9,Jl,Jm,wr,Jn,JA,JB,Jo,Jp,Jq,Jr,Js,Jt,Ju,Jv,Jw,Jx,Jy,Jz,J0,J1,J2,J3,J4,J5,reduceCtorEq,JC,JD,JE,JF,JG,JH,JI,JJ]) | ((with_reducible (first | apply Ok.br | apply Ok.gd | apply Ok.ld)) <;> (intro g; (try simp only [ZGS] at g); try (exfalso; omega)))))
          refine Ok.unroll ?_
          (repeat' (first | (simp -implicitDefEqProofs (maxSteps := 1000000) (disch := first | assumption | omega | (simp only [ZDI]; omega)) only [*,lenV,bV_take,bV_len,List.drop_zero,Nat.zero_add,Nat.mul_one,G46,Za,Zb,Zc,Zd,Ze,Zf,Zg,Zh,Zi,Zj,Zk,Zl,Zm,Zn,Zo,Ja,Jb,Jc,J6,Jd,Je,J7,J8,Jf,Jg,Jh,Ji,Jj,Jk,J9,Jl,Jm,wr,Jn,JA,JB,Jo,Jp,Jq,Jr,Js,Jt,Ju,Jv,Jw,Jx,Jy,Jz,J0,J1,J2,J3,J4,J5,reduceCtorEq,JC,JD,JE,JF,JG,JH,JI,JJ]) | ((with_reducible (first | apply Ok.br | apply Ok.gd | apply Ok.ld)) <;> (intro g; (try simp only [ZGS] at g); try (exfalso; omega)))))
          refine Ok.unroll ?_
          (repeat' (first | (simp -implicitDefEqProofs (maxSteps := 1000000) (disch := first | assumption | omega | (simp only [ZDI]; omega)) only [*,lenV,bV_take,bV_len,List.drop_zero,Nat.zero_add,Nat.mul_one,G46,Za,Zb,Zc,Zd,Ze,Zf,Zg,Zh,Zi,Zj,Zk,Zl,Zm,Zn,Zo,Ja,Jb,Jc,J6,Jd,Je,J7,J8,Jf,Jg,Jh,Ji,Jj,Jk,J9,Jl,Jm,wr,Jn,JA,JB,Jo,Jp,Jq,Jr,Js,Jt,Ju,Jv,Jw,Jx,Jy,Jz,J0,J1,J2,J3,J4,J5,reduceCtorEq,JC,JD,JE,JF,JG,JH,JI,JJ]) | ((with_reducible (first | apply Ok.br | apply Ok.gd | apply Ok.ld)) <;> (intro g; (try simp only [ZGS] at g); try (exfalso; omega)))))
          refine Ok.unroll ?_
          (repeat' (first | (simp -implicitDefEqProofs (maxSteps := 1000000) (disch := first | assumption | omega | (simp only [ZDI]; omega)) only [*,lenV,bV_take,bV_len,List.drop_zero,Nat.zero_add,Nat.mul_one,G46,Za,Zb,Zc,Zd,Ze,Zf,Zg,Zh,Zi,Zj,Zk,Zl,Zm,Zn,Zo,Ja,Jb,Jc,J6,Jd,Je,J7,J8,Jf,Jg,Jh,Ji,Jj,Jk,J9,Jl,Jm,wr,Jn,JA,JB,Jo,Jp,Jq,Jr,Js,Jt,Ju,Jv,Jw,Jx,Jy,Jz,J0,J1,J2,J3,J4,J5,reduceCtorEq,JC,JD,JE,JF,JG,JH,JI,JJ]) | ((with_reducible (first | apply Ok.br | apply Ok.gd | apply Ok.ld)) <;> (intro g; (try simp only [ZGS] at g); try (exfalso; omega)))))
          exact Turn.next (s.n - (i + 1)) (by omega) ⟨rfl, i + 1, b, _, B10, _, _, rfl, by omega, rfl, rfl, rfl, hAn.out, hbH, ha'.out, hKa'.out⟩
        · have hlt' : ¬ (i : Int) < (s.n : Int) := by omega
          have hin : i = s.n := by omega
          subst hin
          have hA' := Hid.mk hA
          have hc' := Hid.mk hcA
          have hk' := Hid.mk hkg
          clear hA hcA hkg
          (repeat' (first | (simp -implicitDefEqProofs (maxSteps := 1000000) (disch := first | assumption | omega | (simp only [ZDI]; omega)) only [*,lenV,G46,Za,Zb,Zc,Zd,Ze,Zf,Zg,Zh,Zi,Zj,Zk,Zl,Zm,Zn,Zo,Ja,Jb,Jc,J6,Jd,Je,J7,J8,Jf,Jg,Jh,Ji,Jj,Jk,J9,Jl,Jm,wr,Jn,JA,JB,Jo,Jp,Jq,Jr,Js,Jt,Ju,Jv,Jw,Jx,Jy,Jz,J0,J1,J2,J3,J4,J5,reduceCtorEq,JC,JD,JE,JF,JG,JH,JI,JJ]) | ((with_reducible (first | apply Ok.br | apply Ok.gd | apply Ok.ld)) <;> (intro g; (try simp only [ZGS] at g); try (exfalso; omega)))))
          exact Turn.exit ⟨rfl, rfl, b, q', A, _, _, rfl, rfl, hA'.out, hbH, hc'.out, hk'.out⟩
      · intro y ⟨e', l', G⟩ hW ⟨hy, b, q', A, y1, y2, h3, k2, hA, hbH, hcA, hkg⟩
        dsimp only at hW h3 k2 hcA hkg
        subst l' hy
        rw [hW.spread]
        clear hW
        simp only [spread_t,spread_f,spread_n,Nat.zero_add,Nat.reduceAdd,h3]
        have hq := Hid.mk (hQ'.out (.sl (.at b q' 0) A.length A.length 1, G) ⟨b, q', 1, by rw [<- hsto.out, <- hA], .inr rfl, by rw [<- hsto.out, <- hA]; exact hcA, hbH, hkg⟩)
        clear hQ' hcA hkg hA
        (repeat' (first | (simp -implicitDefEqProofs (maxSteps := 1000000) (disch := first | assumption | omega | (simp only [ZDI]; omega)) only [*,G46,Za,Zb,Zc,Zd,Ze,Zf,Zg,Zh,Zi,Zj,Zk,Zl,Zm,Zn,Zo,Ja,Jb,Jc,J6,Jd,Je,J7,J8,Jf,Jg,Jh,Ji,Jj,Jk,J9,Jl,Jm,wr,Jn,JA,JB,Jo,Jp,Jq,Jr,Js,Jt,Ju,Jv,Jw,Jx,Jy,Jz,J0,J1,J2,J3,J4,J5,reduceCtorEq,JC,JD,JE,JF,JG,JH,JI,JJ]) | ((with_reducible (first | apply Ok.br | apply Ok.gd | apply Ok.ld)) <;> (intro g; (try simp only [ZGS] at g); try (exfalso; omega)))))
        exact hq.out
end Go.Ev
set_option maxRecDepth 100000
namespace Go.Ev
open Go.Ev renaming exPure -> Ja, ofValue -> Jb, cellsV -> Jc, load -> Jd, store -> Je, binOp -> Jf, intOp -> Jg, rdV -> Jh, vsame -> Ji, vsames -> Jj, makeSliceV -> Jk, resV -> Jl, isCell -> Jm, nilCheckV -> Jn, allV -> Jo, builtinV -> Jp, lenV -> Jq, indexAddrV -> Jr, unOp -> Js, minmaxV -> Jt, minmax -> Ju, sliceV -> Jv, asInt -> Jw, appendV -> Jx, forkB -> Jy, roY -> Jz, rwB -> J0, copyV -> J1, clearV -> J2, convV -> J3, sliceCells -> J4, shift -> J5
open Bool renaming true -> BT, false -> BF
open Nat renaming reduceEqDiff -> J6, reduceLT -> J7, reduceAdd -> J8, reduceBEq -> J9, reduceSub -> JA, reduceMul -> JB, reduceLeDiff -> JJ
open Int renaming reduceLT -> JC, reduceLE -> JD, reduceAdd -> JE, reduceSub -> JF, reduceNeg -> JG, reduceToNat -> JH, reduceEq -> JI
open Go.Proofs
def KeptAt (H : Heap) (p : Nat) (v : V) (bs : List UInt8) : Prop := (bs = [] /\ v = .sl .nil 0 0 0) \/ ∃ b, b ≠ p /\ v = .sl (.at b 0 0) bs.length bs.length 1 /\ hcells H b 0 = some (true, bV bs)
structure RdAt (H : Heap) (p : Nat) (v : V) (bs : List UInt8) (st : Option (List UInt8)) : Prop where
  kept : KeptAt H p v bs
  cells : ∃ k : Nat, k <= bs.length /\ (∀ r, st = some r -> r = bs.drop k) /\ hcells H p 0 = some (true, [v, .int .i64 k, .bool st.isNone])
  room : bs.length < 35184372088832
theorem KeptAt.form {H : Heap} {p : Nat} {v : V} {bs : List UInt8} (h : KeptAt H p v bs) : ∃ a c z, v = .sl a bs.length c z := by
  rcases h with ⟨rfl, rfl⟩ | ⟨b, _, rfl, _⟩
  · exact ⟨_, _, _, rfl⟩
  · exact ⟨_, _, _, rfl⟩
theorem KeptAt.keep {H H' : Heap} {p : Nat} {v : V} {bs : List UInt8} (h : KeptAt H p v bs) (hk : Keeps [p] H H') : KeptAt H' p v bs := by
  rcases h with h | ⟨b, h1, h2, h3⟩
  · exact .inl h
  · exact .inr ⟨b, h1, h2, hk.cells h3 (by simpa using h1)⟩
theorem RdAt.keep {H H' : Heap} {p : Nat} {v : V} {bs : List UInt8} {st : Option (List UInt8)} (h : RdAt H p v bs st) (hk : Keeps [] H H') : RdAt H' p v bs st := by
  obtain ⟨k, h1, h2, h3⟩ := h.cells
  exact ⟨h.kept.keep (hk.mono fun _ _ h => by simp at h), ⟨k, h1, h2, hk.cells h3 (by simp)⟩, h.room⟩
def leftN : Option (List UInt8) -> Nat
  | none => 0
  | some r => r.length
theorem rdBad_at {H : Heap} {p : Nat} {v : V} {bs : List UInt8} {st : Option (List UInt8)} (h : RdAt H p v bs st) : D X (.fn 43 []) [.ptr p 0 0] H = some (.bool st.isNone, H) := by
  obtain ⟨k, _, _, h1⟩ := h.cells
  clear h
  generalize st.isNone = q at h1 ⊢
  refine Ok.eq ?_
  (refine Ok.body body43 pin43 ?_; simp only [c43,Try.f43,Option.getD_some,nslot43,List.append_nil,List.map,List.replicate,List.length_cons,List.length_nil,Nat.reduceAdd,Nat.reduceSub,List.cons_append,List.nil_append])
  (repeat' (first | (simp -implicitDefEqProofs (maxSteps := 1000000) (disch := first | assumption | omega | (simp only [ZDI]; omega)) only [*,G43,Za,Zb,Zc,Zd,Ze,Zf,Zg,Zh,Zi,Zj,Zk,Zl,Zm,Zn,Zo,Ja,Jb,Jc,J6,Jd,Je,J7,J8,Jf,Jg,Jh,Ji,Jj,Jk,J9,Jl,Jm,wr,Jn,JA,JB,Jo,Jp,Jq,Jr,Js,Jt,Ju,Jv,Jw,Jx,Jy,Jz,J0,J1,J2,J3,J4,J5,reduceCtorEq,JC,JD,JE,JF,JG,JH,JI,JJ]) | ((with_reducible (first | apply Ok.br | apply Ok.gd | apply Ok.ld)) <;> (intro g; (try simp only [ZGS] at g); try (exfalso; omega)))))
theorem rdLeft_at {H : Heap} {p : Nat} {v : V} {bs : List UInt8} {st : Option (List UInt8)} (h : RdAt H p v bs st) : D X (.fn 42 []) [.ptr p 0 0] H = some (.int .i64 (leftN st : Nat), H) := by
  have hb := rdBad_at h
  obtain ⟨k, hk, hr, h1⟩ := h.cells
  obtain ⟨a, c, z, rfl⟩ := h.kept.form
  have hroom := h.room
  clear h
  refine Ok.eq ?_
  cases st with
  | none =>
    simp only [Option.isNone_none] at hb h1
    clear hr
    show Ev.Ok (D X (.fn 42 []) [.ptr p 0 0] H) fun x => x = (.int .i64 0, H)
    (refine Ok.body body42 pin42 ?_; simp only [c42,Try.f42,Option.getD_some,nslot42,List.append_nil,List.map,List.replicate,List.length_cons,List.length_nil,Nat.reduceAdd,Nat.reduceSub,List.cons_append,List.nil_append])
    (repeat' (first | (simp -implicitDefEqProofs (maxSteps := 1000000) (disch := first | assumption | omega | (simp only [ZDI]; omega)) only [*,G42,Za,Zb,Zc,Zd,Ze,Zf,Zg,Zh,Zi,Zj,Zk,Zl,Zm,Zn,Zo,Ja,Jb,Jc,J6,Jd,Je,J7,J8,Jf,Jg,Jh,Ji,Jj,Jk,J9,Jl,Jm,wr,Jn,JA,JB,Jo,Jp,Jq,Jr,Js,Jt,Ju,Jv,Jw,Jx,Jy,Jz,J0,J1,J2,J3,J4,J5,reduceCtorEq,JC,JD,JE,JF,JG,JH,JI,JJ]) | ((with_reducible (first | apply Ok.br | apply Ok.gd | apply Ok.ld)) <;> (intro g; (try simp only [ZGS] at g); try (exfalso; omega)))))
  | some r =>
    simp only [Option.isNone_some] at hb h1
    have e := hr r rfl
    subst e
    have hl : (bs.length : Int) - (k : Int) = ((leftN (some (bs.drop k)) : Nat) : Int) := by
      show _ = (((bs.drop k).length : Nat) : Int)
      rw [List.length_drop]; omega
    generalize leftN (some (bs.drop k)) = m at hl ⊢
    clear hr
    (refine Ok.body body42 pin42 ?_; simp only [c42,Try.f42,Option.getD_some,nslot42,List.append_nil,List.map,List.replicate,List.length_cons,List.length_nil,Nat.reduceAdd,Nat.reduceSub,List.cons_append,List.nil_append])
    (repeat' (first | (simp -implicitDefEqProofs (maxSteps := 1000000) (disch := first | assumption | omega | (simp only [ZDI]; omega)) only [*,lenV,G42,Za,Zb,Zc,Zd,Ze,Zf,Zg,Zh,Zi,Zj,Zk,Zl,Zm,Zn,Zo,Ja,Jb,Jc,J6,Jd,Je,J7,J8,Jf,Jg,Jh,Ji,Jj,Jk,J9,Jl,Jm,wr,Jn,JA,JB,Jo,Jp,Jq,Jr,Js,Jt,Ju,Jv,Jw,Jx,Jy,Jz,J0,J1,J2,J3,J4,J5,reduceCtorEq,JC,JD,JE,JF,JG,JH,JI,JJ]) | ((with_reducible (first | apply Ok.br | apply Ok.gd | apply Ok.ld)) <;> (intro g; (try simp only [ZGS] at g); try (exfalso; omega)))))
theorem rdFail_at {H : Heap} {p : Nat} {v : V} {bs : List UInt8} {st : Option (List UInt8)} (h : RdAt H p v bs st) : D X (.fn 84 []) [.ptr p 0 0] H = some (.tup [], H.set p (.cells 0 true [v, .int .i64 bs.length, .bool true])) := by
  obtain ⟨k, hk, hr, h1⟩ := h.cells
  obtain ⟨a, c, z, rfl⟩ := h.kept.form
  have hp := hcells_lt h1
  clear h hr
  generalize st.isNone = q at h1
  refine Ok.eq ?_
  (refine Ok.body body84 pin84 ?_; simp only [c84,Try.f84,Option.getD_some,nslot84,List.append_nil,List.map,List.replicate,List.length_cons,List.length_nil,Nat.reduceAdd,Nat.reduceSub,List.cons_append,List.nil_append])
  (repeat' (first | (simp -implicitDefEqProofs (maxSteps := 1000000) (disch := first | assumption | omega | (simp only [ZDI]; omega)) only [*,lenV,G84,Za,Zb,Zc,Zd,Ze,Zf,Zg,Zh,Zi,Zj,Zk,Zl,Zm,Zn,Zo,Ja,Jb,Jc,J6,Jd,Je,J7,J8,Jf,Jg,Jh,Ji,Jj,Jk,J9,Jl,Jm,wr,Jn,JA,JB,Jo,Jp,Jq,Jr,Js,Jt,Ju,Jv,Jw,Jx,Jy,Jz,J0,J1,J2,J3,J4,J5,reduceCtorEq,JC,JD,JE,JF,JG,JH,JI,JJ]) | ((with_reducible (first | apply Ok.br | apply Ok.gd | apply Ok.ld)) <;> (intro g; (try simp only [ZGS] at g); try (exfalso; omega)))))
theorem RdAt.fail {H : Heap} {p : Nat} {v : V} {bs : List UInt8} {st : Option (List UInt8)} (h : RdAt H p v bs st) : RdAt (H.set p (.cells 0 true [v, .int .i64 bs.length, .bool true])) p v bs none /\ Keeps [p] H (H.set p (.cells 0 true [v, .int .i64 bs.length, .bool true])) := by
  obtain ⟨k, hk, hr, h1⟩ := h.cells
  have hK : Keeps [p] H (H.set p (.cells 0 true [v, .int .i64 bs.length, .bool true])) := (Keeps.refl _ _).set (.inl (by simp)) _
  exact ⟨⟨h.kept.keep hK, ⟨bs.length, Nat.le_refl _, (fun r h => by cases h), hcells_set_eq (hcells_lt h1)⟩, h.room⟩, hK⟩
abbrev Dec (α : Type) := List UInt8 -> Option (α × List UInt8)
def Took {α : Type} (dec : Dec α) (d : α) (f : α -> V) (p : Nat) (v : V) (bs : List UInt8) (st : Option (List UInt8)) (H : Heap) (y : V × Heap) : Prop :=
  y.1 = f (((st.bind dec).map (·.1)).getD d) /\ RdAt y.2 p v bs ((st.bind dec).map (·.2)) /\ Keeps [p] H y.2
def byteD : Dec UInt8
  | [] => none
  | c :: r => some (c, r)
set_option maxHeartbeats 4000000 in
theorem rdByte_at {H : Heap} {p : Nat} {v : V} {bs : List UInt8} {st : Option (List UInt8)} (h : RdAt H p v bs st) : Ev.Ok (D X (.fn 69 []) [.ptr p 0 0] H) (Took byteD 0 (fun c => .int .u8 (c.toNat : Nat)) p v bs st H) := by
  refine Ok.aim fun Q hQ => ?_
  have hQ' := Hid.mk hQ
  clear hQ
  have hl := rdLeft_at h
  have hf := rdFail_at h
  obtain ⟨f1, f2⟩ := h.fail
  by_cases hz : leftN st = 0
  · have hst : st.bind byteD = none := by
      cases st with
      | none => rfl
      | some r =>
        have : r = [] := List.length_eq_zero_iff.1 hz
        subst this; rfl
    have hfin : Hid (Q (.int .u8 0, H.set p (.cells 0 true [v, .int .i64 bs.length, .bool true]))) := ⟨hQ'.out _ ⟨by rw [hst]; rfl, by rw [hst]; exact f1, f2⟩⟩
    rw [hz] at hl
    clear hQ' h f1 f2 hst hz
    (refine Ok.body body69 pin69 ?_; simp only [c69,Try.f69,Option.getD_some,nslot69,List.append_nil,List.map,List.replicate,List.length_cons,List.length_nil,Nat.reduceAdd,Nat.reduceSub,List.cons_append,List.nil_append])
    (repeat' (first | (simp -implicitDefEqProofs (maxSteps := 1000000) (disch := first | assumption | omega | (simp only [ZDI]; omega)) only [*,G69,Za,Zb,Zc,Zd,Ze,Zf,Zg,Zh,Zi,Zj,Zk,Zl,Zm,Zn,Zo,Ja,Jb,Jc,J6,Jd,Je,J7,J8,Jf,Jg,Jh,Ji,Jj,Jk,J9,Jl,Jm,wr,Jn,JA,JB,Jo,Jp,Jq,Jr,Js,Jt,Ju,Jv,Jw,Jx,Jy,Jz,J0,J1,J2,J3,J4,J5,reduceCtorEq,JC,JD,JE,JF,JG,JH,JI,JJ]) | ((with_reducible (first | apply Ok.br | apply Ok.gd | apply Ok.ld)) <;> (intro g; (try simp only [ZGS] at g); try (exfalso; omega)))))
    exact hfin.out
  · cases st with
    | none => exact absurd rfl hz
    | some r =>
      cases r with
      | nil => exact absurd rfl hz
      | cons c r =>
        obtain ⟨k, hk, hr, h1⟩ := h.cells
        have hroom := h.room
        have hr := hr _ rfl
        have hget : bs[k]? = some c := by
          have := congrArg (fun l => l[0]?) hr
          simp only [List.getElem?_cons_zero,List.getElem?_drop,Nat.add_zero] at this
          exact this.symm
        have hrest : r = bs.drop (k + 1) := by
          have := congrArg (fun l => l.drop 1) hr
          simpa [List.drop_drop] using this
        have hklt : k < bs.length := (List.getElem?_eq_some_iff.1 hget).1
        rcases h.kept with ⟨e, _⟩ | ⟨b, hbp, hv, hbc⟩
        · subst e; simp at hget
        · have hkept := h.kept
          subst hv
          have hp := hcells_lt h1
          have hb := hcells_lt hbc
          have hcell : (bV bs)[k]? = some (.int .u8 (c.toNat : Nat)) := by unfold bV; rw [List.getElem?_map, hget]; rfl
          have hK : Keeps [p] H (H.set p (.cells 0 true [.sl (.at b 0 0) bs.length bs.length 1, .int .i64 ((k + 1 : Nat) : Int), .bool false])) := (Keeps.refl _ _).set (.inl (by simp)) _
          have hfin : Hid (Q (.int .u8 (c.toNat : Nat), H.set p (.cells 0 true [.sl (.at b 0 0) bs.length bs.length 1, .int .i64 ((k + 1 : Nat) : Int), .bool false]))) :=
            ⟨hQ'.out _ ⟨rfl, ⟨hkept.keep hK, ⟨k + 1, by omega, (fun r' e => by cases e; exact hrest), hcells_set_eq hp⟩, hroom⟩, hK⟩⟩
          have hL : ¬ ((leftN (some (c :: r)) : Nat) : Int) = 0 := by omega
          generalize leftN (some (c :: r)) = m at hl hL
          simp only [Option.isNone_some] at h1
          have hk1 : (k : Int) + 1 = ((k + 1 : Nat) : Int) := by omega
          have hk2 : ((k + 1 : Nat) : Int) - 1 = (k : Int) := by omega
          have hle : bs.length <= (bV bs).length := by rw [bV_len]; exact Nat.le_refl _
          have g1 : 0 <= (k : Int) /\ (k : Int) < (bs.length : Int) := by omega
          have hblen : (bV bs).length = bs.length := bV_len bs
          clear hQ' h f1 f2 hr hget hrest hkept hK hz hf
          (refine Ok.body body69 pin69 ?_; simp only [c69,Try.f69,Option.getD_some,nslot69,List.append_nil,List.map,List.replicate,List.length_cons,List.length_nil,Nat.reduceAdd,Nat.reduceSub,List.cons_append,List.nil_append])
          (repeat' (first | (simp -implicitDefEqProofs (maxSteps := 1000000) (disch := first | assumption | omega | (simp only [ZDI]; omega)) only [*,lenV,Nat.zero_add,Nat.mul_one,G69,Za,Zb,Zc,Zd,Ze,Zf,Zg,Zh,Zi,Zj,Zk,Zl,Zm,Zn,Zo,Ja,Jb,Jc,J6,Jd,Je,J7,J8,Jf,Jg,Jh,Ji,Jj,Jk,J9,Jl,Jm,wr,Jn,JA,JB,Jo,Jp,Jq,Jr,Js,Jt,Ju,Jv,Jw,Jx,Jy,Jz,J0,J1,J2,J3,J4,J5,reduceCtorEq,JC,JD,JE,JF,JG,JH,JI,JJ]) | ((with_reducible (first | apply Ok.br | apply Ok.gd | apply Ok.ld)) <;> (intro g; (try simp only [ZGS] at g); try (exfalso; omega)))))
          exact hfin.out
end Go.Ev
set_option maxRecDepth 100000
namespace Go.Ev
open Go.Ev renaming exPure -> Ja, ofValue -> Jb, cellsV -> Jc, load -> Jd, store -> Je, binOp -> Jf, intOp -> Jg, rdV -> Jh, vsame -> Ji, vsames -> Jj, makeSliceV -> Jk, resV -> Jl, isCell -> Jm, nilCheckV -> Jn, allV -> Jo, builtinV -> Jp, lenV -> Jq, indexAddrV -> Jr, unOp -> Js, minmaxV -> Jt, minmax -> Ju, sliceV -> Jv, asInt -> Jw, appendV -> Jx, forkB -> Jy, roY -> Jz, rwB -> J0, copyV -> J1, clearV -> J2, convV -> J3, sliceCells -> J4, shift -> J5
open Bool renaming true -> BT, false -> BF
open Nat renaming reduceEqDiff -> J6, reduceLT -> J7, reduceAdd -> J8, reduceBEq -> J9, reduceSub -> JA, reduceMul -> JB, reduceLeDiff -> JJ
open Int renaming reduceLT -> JC, reduceLE -> JD, reduceAdd -> JE, reduceSub -> JF, reduceNeg -> JG, reduceToNat -> JH, reduceEq -> JI
open Go.Proofs
def numF : Bool -> Nat -> List UInt8 -> Option (Nat × List UInt8)
  | _, _, [] => none
  | f, n, c :: r => if (f = true /\ c.toNat = 128) \/ 144115188075855872 <= n then none else if c.toNat < 128 then some (n * 128 + c.toNat % 128, r) else numF false (n * 128 + c.toNat % 128) r
def numD : Dec Nat := numF true 0
theorem shl7 {n : Nat} (h : n < 144115188075855872) : IntKind.u64.wrap ((n : Int) * 2 ^ min 7 IntKind.u64.bits) = ((n * 128 : Nat) : Int) := by
  have : (n : Int) * 2 ^ min 7 IntKind.u64.bits = ((n * 128 : Nat) : Int) := by
    show (n : Int) * 2 ^ 7 = _
    omega
  rw [this, wrapU (by omega)]
theorem shr57 (n : Nat) : (n : Int).fdiv (2 ^ min 57 IntKind.u64.bits) = ((n / 144115188075855872 : Nat) : Int) := by
  show (n : Int).fdiv (2 ^ 57) = _
  rw [Int.fdiv_eq_ediv_of_nonneg _ (by decide)]
  omega
theorem or7 {n c : Nat} (h : n < 144115188075855872) (hc : c < 128) : IntKind.u64.wrap ((BitVec.ofInt IntKind.u64.bits ((n * 128 : Nat) : Int) ||| BitVec.ofInt IntKind.u64.bits (c : Int)).toNat : Nat) = ((n * 128 + c : Nat) : Int) := by
  have e : (BitVec.ofInt IntKind.u64.bits ((n * 128 : Nat) : Int) ||| BitVec.ofInt IntKind.u64.bits (c : Int)).toNat = n * 128 + c := by
    show (BitVec.ofInt 64 ((n * 128 : Nat) : Int) ||| BitVec.ofInt 64 (c : Int)).toNat = _
    rw [BitVec.toNat_or, BitVec.ofInt_natCast, BitVec.ofInt_natCast, BitVec.toNat_ofNat, BitVec.toNat_ofNat, Nat.mod_eq_of_lt (by omega), Nat.mod_eq_of_lt (by omega), Nat.mul_comm n 128]
    exact (Nat.two_pow_add_eq_or_of_lt (i := 7) hc n).symm
  rw [e, wrapU (by omega)]
set_option maxHeartbeats 8000000 in
theorem rdNum_at {H : Heap} {p : Nat} {v : V} {bs : List UInt8} {st : Option (List UInt8)} (h : RdAt H p v bs st) : Ev.Ok (D X (.fn 73 []) [.ptr p 0 0] H) (Took numD 0 (fun n => .int .u64 (n : Nat)) p v bs st H) := by
  refine Ok.aim fun Q hQ => ?_
  have hQ' := Hid.mk hQ
  clear hQ
  (refine Ok.body body73 pin73 ?_; simp only [c73,Try.f73,Option.getD_some,nslot73,List.append_nil,List.map,List.replicate,List.length_cons,List.length_nil,Nat.reduceAdd,Nat.reduceSub,List.cons_append,List.nil_append])
  (repeat' (first | (simp -implicitDefEqProofs (maxSteps := 1000000) (disch := first | assumption | omega | (simp only [ZDI]; omega)) only [*,G73,Za,Zb,Zc,Zd,Ze,Zf,Zg,Zh,Zi,Zj,Zk,Zl,Zm,Zn,Zo,Ja,Jb,Jc,J6,Jd,Je,J7,J8,Jf,Jg,Jh,Ji,Jj,Jk,J9,Jl,Jm,wr,Jn,JA,JB,Jo,Jp,Jq,Jr,Js,Jt,Ju,Jv,Jw,Jx,Jy,Jz,J0,J1,J2,J3,J4,J5,reduceCtorEq,JC,JD,JE,JF,JG,JH,JI,JJ]) | ((with_reducible (first | apply Ok.br | apply Ok.gd | apply Ok.ld)) <;> (intro g; (try simp only [ZGS] at g); try (exfalso; omega)))))
  refine Ok.loop [BF, BF, BT, BT, BT, BT, BT, BT, BT, BT, BT, BT, BT, BT, BT, BT, BT, BT, BT, BT, BT, BT, BT, BT, BT, BT, BT, BT, BT, BT, BT, BT, BT] (fun k s2 => ∃ (st' : Option (List UInt8)) (n : Nat) (f : Bool), k = leftN st' /\ tv s2.e 3 = .v (.int .u64 (n : Nat)) /\ tv s2.e 4 = .v (.bool f) /\ s2.l = [] /\ RdAt s2.h p v bs st' /\ Keeps [p] H s2.h /\ st'.bind (numF f n) = st.bind numD)
    (fun y s2 => y = .ret /\ s2.l = [] /\ tv s2.e 2 = .v (.int .u64 ((((st.bind numD).map (·.1)).getD 0 : Nat) : Int)) /\ RdAt s2.h p v bs ((st.bind numD).map (·.2)) /\ Keeps [p] H s2.h)
    (leftN st) ⟨st, 0, true, rfl, rfl, rfl, rfl, h, .refl _ _, rfl⟩ ?_ ?_
  · intro k ⟨e', l', g⟩ hW ⟨st', n, f, hm, h3, h4, k2, hrd, hk, hnum⟩
    dsimp only at hW h3 h4 k2 hrd hk
    subst l'
    rw [hW.spread]
    simp only [spread_t,spread_f,spread_n,Nat.zero_add,Nat.reduceAdd,h3,h4]
    clear hW hQ' h
    obtain ⟨⟨vb, g1⟩, eB, hv, hrd1, hk1⟩ := rdByte_at hrd
    dsimp only at hv hrd1 hk1
    have eBad := rdBad_at hrd1
    have eFail := rdFail_at hrd1
    obtain ⟨f1, f2⟩ := hrd1.fail
    have hkf := Hid.mk (hk.trans (hk1.trans f2))
    have hkk := Hid.mk (hk.trans hk1)
    have hf1 := Hid.mk f1
    clear f1 f2 hk hk1 hrd
    cases st' with
    | none =>
      simp only [Option.bind_none,Option.map_none,Option.getD_none,Option.isNone_none] at hv hrd1 eBad eFail hnum
      subst hv
      have hn0 : Hid (st.bind numD = none) := ⟨hnum.symm⟩
      clear hrd1 hnum
      (repeat' (first | (simp -implicitDefEqProofs (maxSteps := 1000000) (disch := first | assumption | omega | (simp only [ZDI]; omega)) only [*,shr57,G73,Za,Zb,Zc,Zd,Ze,Zf,Zg,Zh,Zi,Zj,Zk,Zl,Zm,Zn,Zo,Ja,Jb,Jc,J6,Jd,Je,J7,J8,Jf,Jg,Jh,Ji,Jj,Jk,J9,Jl,Jm,wr,Jn,JA,JB,Jo,Jp,Jq,Jr,Js,Jt,Ju,Jv,Jw,Jx,Jy,Jz,J0,J1,J2,J3,J4,J5,reduceCtorEq,JC,JD,JE,JF,JG,JH,JI,JJ]) | ((with_reducible (first | apply Ok.br | apply Ok.gd | apply Ok.ld)) <;> (intro g; (try simp only [ZGS] at g); try (exfalso; omega)))))
      exact Turn.ret ⟨rfl, rfl, rfl, by rw [hn0.out]; rfl, by rw [hn0.out]; exact hf1.out, hkf.out⟩
    | some l =>
      cases l with
      | nil =>
        simp only [Option.bind_some,byteD,numF,Option.map_none,Option.getD_none,Option.isNone_none] at hv hrd1 eBad eFail hnum
        subst hv
        have hn0 : Hid (st.bind numD = none) := ⟨hnum.symm⟩
        clear hrd1 hnum
        (repeat' (first | (simp -implicitDefEqProofs (maxSteps := 1000000) (disch := first | assumption | omega | (simp only [ZDI]; omega)) only [*,shr57,G73,Za,Zb,Zc,Zd,Ze,Zf,Zg,Zh,Zi,Zj,Zk,Zl,Zm,Zn,Zo,Ja,Jb,Jc,J6,Jd,Je,J7,J8,Jf,Jg,Jh,Ji,Jj,Jk,J9,Jl,Jm,wr,Jn,JA,JB,Jo,Jp,Jq,Jr,Js,Jt,Ju,Jv,Jw,Jx,Jy,Jz,J0,J1,J2,J3,J4,J5,reduceCtorEq,JC,JD,JE,JF,JG,JH,JI,JJ]) | ((with_reducible (first | apply Ok.br | apply Ok.gd | apply Ok.ld)) <;> (intro g; (try simp only [ZGS] at g); try (exfalso; omega)))))
        exact Turn.ret ⟨rfl, rfl, rfl, by rw [hn0.out]; rfl, by rw [hn0.out]; exact hf1.out, hkf.out⟩
      | cons c r =>
        simp only [Option.bind_some,byteD,Option.map_some,Option.getD_some,Option.isNone_some] at hv hrd1 eBad eFail hnum
        subst hv
        have hrd1' := Hid.mk hrd1
        have hc256 : c.toNat < 256 := UInt8.toNat_lt c
        have h127 : IntKind.u8.wrap ((BitVec.ofInt IntKind.u8.bits ((c.toNat : Nat) : Int) &&& BitVec.ofInt IntKind.u8.bits 127).toNat : Nat) = ((c.toNat % 128 : Nat) : Int) := by rw [and127 (by omega)]; omega
        have hcv : IntKind.u64.wrap ((c.toNat % 128 : Nat) : Int) = ((c.toNat % 128 : Nat) : Int) := wrapU (by omega)
        rw [numF] at hnum
        clear hrd1
        have hleft : leftN (some (c :: r)) = leftN (some r) + 1 := rfl
        by_cases hb : (f = true /\ c.toNat = 128)
        · rw [if_pos (.inl hb)] at hnum
          have hn0 : Hid (st.bind numD = none) := ⟨hnum.symm⟩
          obtain ⟨rfl, hc⟩ := hb
          have hc' : ((c.toNat : Nat) : Int) = 128 := by omega
          clear hnum hc hcv h127
          (repeat' (first | (simp -implicitDefEqProofs (maxSteps := 1000000) (disch := first | assumption | omega | (simp only [ZDI]; omega)) only [*,shr57,G73,Za,Zb,Zc,Zd,Ze,Zf,Zg,Zh,Zi,Zj,Zk,Zl,Zm,Zn,Zo,Ja,Jb,Jc,J6,Jd,Je,J7,J8,Jf,Jg,Jh,Ji,Jj,Jk,J9,Jl,Jm,wr,Jn,JA,JB,Jo,Jp,Jq,Jr,Js,Jt,Ju,Jv,Jw,Jx,Jy,Jz,J0,J1,J2,J3,J4,J5,reduceCtorEq,JC,JD,JE,JF,JG,JH,JI,JJ]) | ((with_reducible (first | apply Ok.br | apply Ok.gd | apply Ok.ld)) <;> (intro g; (try simp only [ZGS] at g); try (exfalso; omega)))))
          exact Turn.ret ⟨rfl, rfl, rfl, by rw [hn0.out]; rfl, by rw [hn0.out]; exact hf1.out, hkf.out⟩
        · have hbc : f = false \/ (f = true /\ ¬ ((c.toNat : Nat) : Int) = 128) := by
            cases f with
            | false => exact .inl rfl
            | true => exact .inr ⟨rfl, fun e => hb ⟨rfl, by omega⟩⟩
          by_cases hn : 144115188075855872 <= n
          · rw [if_pos (.inr hn)] at hnum
            have hn0 : Hid (st.bind numD = none) := ⟨hnum.symm⟩
            have hn1 : (0 : Int) < ((n / 144115188075855872 : Nat) : Int) := by omega
            clear hnum hcv h127 hb
            rcases hbc with rfl | ⟨rfl, hc'⟩
            · (repeat' (first | (simp -implicitDefEqProofs (maxSteps := 1000000) (disch := first | assumption | omega | (simp only [ZDI]; omega)) only [*,shr57,G73,Za,Zb,Zc,Zd,Ze,Zf,Zg,Zh,Zi,Zj,Zk,Zl,Zm,Zn,Zo,Ja,Jb,Jc,J6,Jd,Je,J7,J8,Jf,Jg,Jh,Ji,Jj,Jk,J9,Jl,Jm,wr,Jn,JA,JB,Jo,Jp,Jq,Jr,Js,Jt,Ju,Jv,Jw,Jx,Jy,Jz,J0,J1,J2,J3,J4,J5,reduceCtorEq,JC,JD,JE,JF,JG,JH,JI,JJ]) | ((with_reducible (first | apply Ok.br | apply Ok.gd | apply Ok.ld)) <;> (intro g; (try simp only [ZGS] at g); try (exfalso; omega)))))
              exact Turn.ret ⟨rfl, rfl, rfl, by rw [hn0.out]; rfl, by rw [hn0.out]; exact hf1.out, hkf.out⟩
            · (repeat' (first | (simp -implicitDefEqProofs (maxSteps := 1000000) (disch := first | assumption | omega | (simp only [ZDI]; omega)) only [*,shr57,G73,Za,Zb,Zc,Zd,Ze,Zf,Zg,Zh,Zi,Zj,Zk,Zl,Zm,Zn,Zo,Ja,Jb,Jc,J6,Jd,Je,J7,J8,Jf,Jg,Jh,Ji,Jj,Jk,J9,Jl,Jm,wr,Jn,JA,JB,Jo,Jp,Jq,Jr,Js,Jt,Ju,Jv,Jw,Jx,Jy,Jz,J0,J1,J2,J3,J4,J5,reduceCtorEq,JC,JD,JE,JF,JG,JH,JI,JJ]) | ((with_reducible (first | apply Ok.br | apply Ok.gd | apply Ok.ld)) <;> (intro g; (try simp only [ZGS] at g); try (exfalso; omega)))))
              exact Turn.ret ⟨rfl, rfl, rfl, by rw [hn0.out]; rfl, by rw [hn0.out]; exact hf1.out, hkf.out⟩
          · rw [if_neg (by rintro (h | h); exact hb h; exact hn h)] at hnum
            have hn1 : ¬ (0 : Int) < ((n / 144115188075855872 : Nat) : Int) := by omega
            have h7 := shl7 (n := n) (by omega)
            have hor := or7 (n := n) (c := c.toNat % 128) (by omega) (by omega)
            by_cases hlt : c.toNat < 128
            · rw [if_pos hlt] at hnum
              have hn0 : Hid (st.bind numD = some (n * 128 + c.toNat % 128, r)) := ⟨hnum.symm⟩
              have hlt' : ((c.toNat : Nat) : Int) < 128 := by omega
              clear hnum hb hlt
              rcases hbc with rfl | ⟨rfl, hc'⟩
              · (repeat' (first | (simp -implicitDefEqProofs (maxSteps := 1000000) (disch := first | assumption | omega | (simp only [ZDI]; omega)) only [*,shr57,G73,Za,Zb,Zc,Zd,Ze,Zf,Zg,Zh,Zi,Zj,Zk,Zl,Zm,Zn,Zo,Ja,Jb,Jc,J6,Jd,Je,J7,J8,Jf,Jg,Jh,Ji,Jj,Jk,J9,Jl,Jm,wr,Jn,JA,JB,Jo,Jp,Jq,Jr,Js,Jt,Ju,Jv,Jw,Jx,Jy,Jz,J0,J1,J2,J3,J4,J5,reduceCtorEq,JC,JD,JE,JF,JG,JH,JI,JJ]) | ((with_reducible (first | apply Ok.br | apply Ok.gd | apply Ok.ld)) <;> (intro g; (try simp only [ZGS] at g); try (exfalso; omega)))))
                exact Turn.ret ⟨rfl, rfl, rfl, by rw [hn0.out]; rfl, by rw [hn0.out]; exact hrd1'.out, hkk.out⟩
              · (repeat' (first | (simp -implicitDefEqProofs (maxSteps := 1000000) (disch := first | assumption | omega | (simp only [ZDI]; omega)) only [*,shr57,G73,Za,Zb,Zc,Zd,Ze,Zf,Zg,Zh,Zi,Zj,Zk,Zl,Zm,Zn,Zo,Ja,Jb,Jc,J6,Jd,Je,J7,J8,Jf,Jg,Jh,Ji,Jj,Jk,J9,Jl,Jm,wr,Jn,JA,JB,Jo,Jp,Jq,Jr,Js,Jt,Ju,Jv,Jw,Jx,Jy,Jz,J0,J1,J2,J3,J4,J5,reduceCtorEq,JC,JD,JE,JF,JG,JH,JI,JJ]) | ((with_reducible (first | apply Ok.br | apply Ok.gd | apply Ok.ld)) <;> (intro g; (try simp only [ZGS] at g); try (exfalso; omega)))))
                exact Turn.ret ⟨rfl, rfl, rfl, by rw [hn0.out]; rfl, by rw [hn0.out]; exact hrd1'.out, hkk.out⟩
            · rw [if_neg hlt] at hnum
              have hn0 := Hid.mk hnum
              have hlt' : ¬ ((c.toNat : Nat) : Int) < 128 := by omega
              clear hnum hb hlt
              rcases hbc with rfl | ⟨rfl, hc'⟩
              · (repeat' (first | (simp -implicitDefEqProofs (maxSteps := 1000000) (disch := first | assumption | omega | (simp only [ZDI]; omega)) only [*,shr57,G73,Za,Zb,Zc,Zd,Ze,Zf,Zg,Zh,Zi,Zj,Zk,Zl,Zm,Zn,Zo,Ja,Jb,Jc,J6,Jd,Je,J7,J8,Jf,Jg,Jh,Ji,Jj,Jk,J9,Jl,Jm,wr,Jn,JA,JB,Jo,Jp,Jq,Jr,Js,Jt,Ju,Jv,Jw,Jx,Jy,Jz,J0,J1,J2,J3,J4,J5,reduceCtorEq,JC,JD,JE,JF,JG,JH,JI,JJ]) | ((with_reducible (first | apply Ok.br | apply Ok.gd | apply Ok.ld)) <;> (intro g; (try simp only [ZGS] at g); try (exfalso; omega)))))
                exact Turn.next (leftN (some r)) (by omega) ⟨rfl, some r, n * 128 + c.toNat % 128, false, rfl, rfl, rfl, rfl, hrd1'.out, hkk.out, hn0.out⟩
              · (repeat' (first | (simp -implicitDefEqProofs (maxSteps := 1000000) (disch := first | assumption | omega | (simp only [ZDI]; omega)) only [*,shr57,G73,Za,Zb,Zc,Zd,Ze,Zf,Zg,Zh,Zi,Zj,Zk,Zl,Zm,Zn,Zo,Ja,Jb,Jc,J6,Jd,Je,J7,J8,Jf,Jg,Jh,Ji,Jj,Jk,J9,Jl,Jm,wr,Jn,JA,JB,Jo,Jp,Jq,Jr,Js,Jt,Ju,Jv,Jw,Jx,Jy,Jz,J0,J1,J2,J3,J4,J5,reduceCtorEq,JC,JD,JE,JF,JG,JH,JI,JJ]) | ((with_reducible (first | apply Ok.br | apply Ok.gd | apply Ok.ld)) <;> (intro g; (try simp only [ZGS] at g); try (exfalso; omega)))))
                exact Turn.next (leftN (some r)) (by omega) ⟨rfl, some r, n * 128 + c.toNat % 128, false, rfl, rfl, rfl, rfl, hrd1'.out, hkk.out, hn0.out⟩
  · intro y ⟨e', l', g⟩ hW ⟨hy, k2, h2, hrd, hk⟩
    dsimp only at hW h2 k2 hrd hk
    subst l' hy
    rw [hW.spread]
    clear hW
    simp only [spread_t,spread_f,spread_n,Nat.zero_add,Nat.reduceAdd,h2]
    have hq := Hid.mk (hQ'.out (.int .u64 ((((st.bind numD).map (·.1)).getD 0 : Nat) : Int), g) ⟨rfl, hrd, hk⟩)
    clear hQ' hrd hk h
    generalize ((st.bind numD).map (·.1)).getD 0 = m at hq
    (repeat' (first | (simp -implicitDefEqProofs (maxSteps := 1000000) (disch := first | assumption | omega | (simp only [ZDI]; omega)) only [*,G73,Za,Zb,Zc,Zd,Ze,Zf,Zg,Zh,Zi,Zj,Zk,Zl,Zm,Zn,Zo,Ja,Jb,Jc,J6,Jd,Je,J7,J8,Jf,Jg,Jh,Ji,Jj,Jk,J9,Jl,Jm,wr,Jn,JA,JB,Jo,Jp,Jq,Jr,Js,Jt,Ju,Jv,Jw,Jx,Jy,Jz,J0,J1,J2,J3,J4,J5,reduceCtorEq,JC,JD,JE,JF,JG,JH,JI,JJ]) | ((with_reducible (first | apply Ok.br | apply Ok.gd | apply Ok.ld)) <;> (intro g; (try simp only [ZGS] at g); try (exfalso; omega)))))
    exact hq.out
end Go.Ev
set_option maxRecDepth 100000
namespace Go.Ev
open Go.Ev renaming exPure -> Ja, ofValue -> Jb, cellsV -> Jc, load -> Jd, store -> Je, binOp -> Jf, intOp -> Jg, rdV -> Jh, vsame -> Ji, vsames -> Jj, makeSliceV -> Jk, resV -> Jl, isCell -> Jm, nilCheckV -> Jn, allV -> Jo, builtinV -> Jp, lenV -> Jq, indexAddrV -> Jr, unOp -> Js, minmaxV -> Jt, minmax -> Ju, sliceV -> Jv, asInt -> Jw, appendV -> Jx, forkB -> Jy, roY -> Jz, rwB -> J0, copyV -> J1, clearV -> J2, convV -> J3, sliceCells -> J4, shift -> J5
open Bool renaming true -> BT, false -> BF
open Nat renaming reduceEqDiff -> J6, reduceLT -> J7, reduceAdd -> J8, reduceBEq -> J9, reduceSub -> JA, reduceMul -> JB, reduceLeDiff -> JJ
open Int renaming reduceLT -> JC, reduceLE -> JD, reduceAdd -> JE, reduceSub -> JF, reduceNeg -> JG, reduceToNat -> JH, reduceEq -> JI
open Go.Proofs
def boolD : Dec Bool := fun l => (byteD l).bind fun x => if 1 < x.1.toNat then none else some (decide (x.1.toNat = 1), x.2)
def textD : Dec ByteArray := fun l => (numD l).bind fun x => if 1048576 < x.1 \/ x.2.length < x.1 then none else some (⟨(x.2.take x.1).toArray⟩, x.2.drop x.1)
set_option maxHeartbeats 8000000 in
theorem rdBool_at {H : Heap} {p : Nat} {v : V} {bs : List UInt8} {st : Option (List UInt8)} (h : RdAt H p v bs st) : Ev.Ok (D X (.fn 74 []) [.ptr p 0 0] H) (Took boolD false .bool p v bs st H) := by
  refine Ok.aim fun Q hQ => ?_
  have hQ' := Hid.mk hQ
  clear hQ
  obtain ⟨⟨vb, g1⟩, eB, hv, hrd1, hk1⟩ := rdByte_at h
  dsimp only at hv hrd1 hk1
  have eFail := rdFail_at hrd1
  obtain ⟨f1, f2⟩ := hrd1.fail
  have hI : st.bind boolD = (st.bind byteD).bind fun x => if 1 < x.1.toNat then none else some (decide (x.1.toNat = 1), x.2) := by cases st <;> rfl
  cases hx : st.bind byteD with
  | none =>
    rw [hx] at hI
    simp only [hx,Option.map_none,Option.bind_none,Option.getD_none,Option.isNone_none] at hv hrd1
    subst hv
    have hI' : st.bind boolD = none := hI
    have hz0 : ((UInt8.toNat 0 : Nat) : Int) = 0 := rfl
    have hq : Hid (Q (.bool false, g1)) := ⟨hQ'.out _ ⟨by rw [hI']; rfl, by rw [hI']; exact hrd1, hk1⟩⟩
    clear hQ' hrd1 hk1 f1 f2 hI hI' hx h
    (refine Ok.body body74 pin74 ?_; simp only [c74,Try.f74,Option.getD_some,nslot74,List.append_nil,List.map,List.replicate,List.length_cons,List.length_nil,Nat.reduceAdd,Nat.reduceSub,List.cons_append,List.nil_append])
    (repeat' (first | (simp -implicitDefEqProofs (maxSteps := 1000000) (disch := first | assumption | omega | (simp only [ZDI]; omega)) only [*,G74,Za,Zb,Zc,Zd,Ze,Zf,Zg,Zh,Zi,Zj,Zk,Zl,Zm,Zn,Zo,Ja,Jb,Jc,J6,Jd,Je,J7,J8,Jf,Jg,Jh,Ji,Jj,Jk,J9,Jl,Jm,wr,Jn,JA,JB,Jo,Jp,Jq,Jr,Js,Jt,Ju,Jv,Jw,Jx,Jy,Jz,J0,J1,J2,J3,J4,J5,reduceCtorEq,JC,JD,JE,JF,JG,JH,JI,JJ]) | ((with_reducible (first | apply Ok.br | apply Ok.gd | apply Ok.ld)) <;> (intro g; (try simp only [ZGS] at g); try (exfalso; omega)))))
    exact hq.out
  | some x =>
    obtain ⟨c, r⟩ := x
    simp only [hx,Option.bind_some] at hI
    simp only [hx,Option.map_some,Option.bind_some,Option.getD_some] at hv hrd1
    subst hv
    by_cases h1 : 1 < c.toNat
    · have h1' : (1 : Int) < ((c.toNat : Nat) : Int) := by omega
      have h3' : ¬ ((c.toNat : Nat) : Int) = 1 := by omega
      rw [if_pos h1] at hI
      have hq : Hid (Q (.bool false, g1.set p (.cells 0 true [v, .int .i64 bs.length, .bool true]))) := ⟨hQ'.out _ ⟨by rw [hI]; rfl, by rw [hI]; exact f1, hk1.trans f2⟩⟩
      clear hQ' hrd1 hk1 f1 f2 hI hx h h1
      (refine Ok.body body74 pin74 ?_; simp only [c74,Try.f74,Option.getD_some,nslot74,List.append_nil,List.map,List.replicate,List.length_cons,List.length_nil,Nat.reduceAdd,Nat.reduceSub,List.cons_append,List.nil_append])
      (repeat' (first | (simp -implicitDefEqProofs (maxSteps := 1000000) (disch := first | assumption | omega | (simp only [ZDI]; omega)) only [*,G74,Za,Zb,Zc,Zd,Ze,Zf,Zg,Zh,Zi,Zj,Zk,Zl,Zm,Zn,Zo,Ja,Jb,Jc,J6,Jd,Je,J7,J8,Jf,Jg,Jh,Ji,Jj,Jk,J9,Jl,Jm,wr,Jn,JA,JB,Jo,Jp,Jq,Jr,Js,Jt,Ju,Jv,Jw,Jx,Jy,Jz,J0,J1,J2,J3,J4,J5,reduceCtorEq,JC,JD,JE,JF,JG,JH,JI,JJ]) | ((with_reducible (first | apply Ok.br | apply Ok.gd | apply Ok.ld)) <;> (intro g; (try simp only [ZGS] at g); try (exfalso; omega)))))
      exact hq.out
    · have h1' : ¬ (1 : Int) < ((c.toNat : Nat) : Int) := by omega
      rw [if_neg h1] at hI
      have hq : Hid (Q (.bool (decide (c.toNat = 1)), g1)) := ⟨hQ'.out _ ⟨by rw [hI]; rfl, by rw [hI]; exact hrd1, hk1⟩⟩
      have he : decide (((c.toNat : Nat) : Int) = 1) = decide (c.toNat = 1) := by
        by_cases e : c.toNat = 1
        · rw [decide_eq_true e, decide_eq_true (by omega)]
        · rw [decide_eq_false e, decide_eq_false (by omega)]
      clear hQ' hrd1 hk1 f1 f2 hI hx h h1
      (refine Ok.body body74 pin74 ?_; simp only [c74,Try.f74,Option.getD_some,nslot74,List.append_nil,List.map,List.replicate,List.length_cons,List.length_nil,Nat.reduceAdd,Nat.reduceSub,List.cons_append,List.nil_append])
      (repeat' (first | (simp -implicitDefEqProofs (maxSteps := 1000000) (disch := first | assumption | omega | (simp only [ZDI]; omega)) only [*,G74,Za,Zb,Zc,Zd,Ze,Zf,Zg,Zh,Zi,Zj,Zk,Zl,Zm,Zn,Zo,Ja,Jb,Jc,J6,Jd,Je,J7,J8,Jf,Jg,Jh,Ji,Jj,Jk,J9,Jl,Jm,wr,Jn,JA,JB,Jo,Jp,Jq,Jr,Js,Jt,Ju,Jv,Jw,Jx,Jy,Jz,J0,J1,J2,J3,J4,J5,reduceCtorEq,JC,JD,JE,JF,JG,JH,JI,JJ]) | ((with_reducible (first | apply Ok.br | apply Ok.gd | apply Ok.ld)) <;> (intro g; (try simp only [ZGS] at g); try (exfalso; omega)))))
      exact hq.out
end Go.Ev
set_option maxRecDepth 100000
namespace Go.Ev
open Go.Ev renaming exPure -> Ja, ofValue -> Jb, cellsV -> Jc, load -> Jd, store -> Je, binOp -> Jf, intOp -> Jg, rdV -> Jh, vsame -> Ji, vsames -> Jj, makeSliceV -> Jk, resV -> Jl, isCell -> Jm, nilCheckV -> Jn, allV -> Jo, builtinV -> Jp, lenV -> Jq, indexAddrV -> Jr, unOp -> Js, minmaxV -> Jt, minmax -> Ju, sliceV -> Jv, asInt -> Jw, appendV -> Jx, forkB -> Jy, roY -> Jz, rwB -> J0, copyV -> J1, clearV -> J2, convV -> J3, sliceCells -> J4, shift -> J5
open Bool renaming true -> BT, false -> BF
open Nat renaming reduceEqDiff -> J6, reduceLT -> J7, reduceAdd -> J8, reduceBEq -> J9, reduceSub -> JA, reduceMul -> JB, reduceLeDiff -> JJ
open Int renaming reduceLT -> JC, reduceLE -> JD, reduceAdd -> JE, reduceSub -> JF, reduceNeg -> JG, reduceToNat -> JH, reduceEq -> JI
open Go.Proofs
theorem optArr_s {α : Type} (a : α) : (some a).toArray = #[a] := rfl
theorem optArr_n {α : Type} : (none : Option α).toArray = #[] := rfl
theorem toBytes_bV : ∀ l : List UInt8, toBytes (bV l) = some l
  | [] => rfl
  | c :: l => by
    show toBytes (V.int .u8 (c.toNat : Nat) :: bV l) = _
    rw [toBytes, toBytes_bV l]
    show some (UInt8.ofNat ((c.toNat : Nat) : Int).toNat :: l) = _
    rw [Int.toNat_natCast, UInt8.ofNat_toNat]
theorem bV_cut (l : List UInt8) (k n : Nat) : ((bV l).drop k).take n = bV ((l.drop k).take n) := by
  unfold bV
  rw [List.map_take, List.map_drop]
theorem bV_cut0 (l : List UInt8) (n : Nat) : (bV l).take n = bV (l.take n) := by
  unfold bV
  rw [List.map_take]
theorem numF_short : ∀ (l : List UInt8) (f : Bool) (n m : Nat) (r : List UInt8), numF f n l = some (m, r) -> r.length < l.length
  | [], f, n, m, r, h => by simp [numF] at h
  | c :: l, f, n, m, r, h => by
    rw [numF] at h
    split at h
    · cases h
    · split at h
      · cases h; simp
      · have := numF_short l _ _ _ _ h
        simp; omega
set_option maxHeartbeats 8000000 in
theorem rdText_at {H : Heap} {p : Nat} {v : V} {bs : List UInt8} {st : Option (List UInt8)} (h : RdAt H p v bs st) : Ev.Ok (D X (.fn 72 []) [.ptr p 0 0] H) (Took textD ⟨#[]⟩ .str p v bs st H) := by
  refine Ok.aim fun Q hQ => ?_
  have hQ' := Hid.mk hQ
  clear hQ
  obtain ⟨⟨vn, g2⟩, eN, hvn, hrd2, hk2⟩ := rdNum_at h
  dsimp only at hvn hrd2 hk2
  have eBad := rdBad_at hrd2
  have eLeft := rdLeft_at hrd2
  have eFail := rdFail_at hrd2
  obtain ⟨f1, f2⟩ := hrd2.fail
  have hI : st.bind textD = (st.bind numD).bind fun x => if 1048576 < x.1 \/ x.2.length < x.1 then none else some (⟨(x.2.take x.1).toArray⟩, x.2.drop x.1) := by cases st <;> rfl
  cases hx : st.bind numD with
  | none =>
    rw [hx] at hI
    have hI' : st.bind textD = none := hI
    simp only [hx,Option.map_none,Option.getD_none,Option.isNone_none,leftN] at hvn hrd2 eBad eLeft
    subst hvn
    have hq : Hid (Q (.str ⟨#[]⟩, g2)) := ⟨hQ'.out _ ⟨by rw [hI']; rfl, by rw [hI']; exact hrd2, hk2⟩⟩
    have hw0 := wrapU (n := 0) (by omega)
    clear hQ' hrd2 hk2 f1 f2 hI hI' hx h
    (refine Ok.body body72 pin72 ?_; simp only [c72,Try.f72,Option.getD_some,nslot72,List.append_nil,List.map,List.replicate,List.length_cons,List.length_nil,Nat.reduceAdd,Nat.reduceSub,List.cons_append,List.nil_append])
    (repeat' (first | (simp -implicitDefEqProofs (maxSteps := 1000000) (disch := first | assumption | omega | (simp only [ZDI]; omega)) only [*,G72,Za,Zb,Zc,Zd,Ze,Zf,Zg,Zh,Zi,Zj,Zk,Zl,Zm,Zn,Zo,Ja,Jb,Jc,J6,Jd,Je,J7,J8,Jf,Jg,Jh,Ji,Jj,Jk,J9,Jl,Jm,wr,Jn,JA,JB,Jo,Jp,Jq,Jr,Js,Jt,Ju,Jv,Jw,Jx,Jy,Jz,J0,J1,J2,J3,J4,J5,reduceCtorEq,JC,JD,JE,JF,JG,JH,JI,JJ]) | ((with_reducible (first | apply Ok.br | apply Ok.gd | apply Ok.ld)) <;> (intro g; (try simp only [ZGS] at g); try (exfalso; omega)))))
    exact hq.out
  | some x =>
    obtain ⟨n, r⟩ := x
    simp only [hx,Option.bind_some] at hI
    simp only [hx,Option.map_some,Option.getD_some,Option.isNone_some,leftN] at hvn hrd2 eBad eLeft
    subst hvn
    have hroom := hrd2.room
    obtain ⟨k, hkl, hkr, hcell⟩ := hrd2.cells
    have hkr := hkr r rfl
    have hrl : r.length = bs.length - k := by rw [hkr, List.length_drop]
    have hwl := wrapU (n := (r.length : Int)) (by omega)
    by_cases hbig : 1048576 < n \/ r.length < n
    · rw [if_pos hbig] at hI
      have hq : Hid (Q (.str ⟨#[]⟩, g2.set p (.cells 0 true [v, .int .i64 bs.length, .bool true]))) := ⟨hQ'.out _ ⟨by rw [hI]; rfl, by rw [hI]; exact f1, hk2.trans f2⟩⟩
      clear hQ' hrd2 hk2 f1 f2 hI hx h hkr hcell hkl hrl
      by_cases h1 : 1048576 < n
      · have h1' : (1048576 : Int) < (n : Int) := by omega
        clear hbig h1
        (refine Ok.body body72 pin72 ?_; simp only [c72,Try.f72,Option.getD_some,nslot72,List.append_nil,List.map,List.replicate,List.length_cons,List.length_nil,Nat.reduceAdd,Nat.reduceSub,List.cons_append,List.nil_append])
        (repeat' (first | (simp -implicitDefEqProofs (maxSteps := 1000000) (disch := first | assumption | omega | (simp only [ZDI]; omega)) only [*,G72,Za,Zb,Zc,Zd,Ze,Zf,Zg,Zh,Zi,Zj,Zk,Zl,Zm,Zn,Zo,Ja,Jb,Jc,J6,Jd,Je,J7,J8,Jf,Jg,Jh,Ji,Jj,Jk,J9,Jl,Jm,wr,Jn,JA,JB,Jo,Jp,Jq,Jr,Js,Jt,Ju,Jv,Jw,Jx,Jy,Jz,J0,J1,J2,J3,J4,J5,reduceCtorEq,JC,JD,JE,JF,JG,JH,JI,JJ]) | ((with_reducible (first | apply Ok.br | apply Ok.gd | apply Ok.ld)) <;> (intro g; (try simp only [ZGS] at g); try (exfalso; omega)))))
        exact hq.out
      · have h1' : ¬ (1048576 : Int) < (n : Int) := by omega
        have h2' : (r.length : Int) < (n : Int) := by omega
        clear hbig h1
        (refine Ok.body body72 pin72 ?_; simp only [c72,Try.f72,Option.getD_some,nslot72,List.append_nil,List.map,List.replicate,List.length_cons,List.length_nil,Nat.reduceAdd,Nat.reduceSub,List.cons_append,List.nil_append])
        (repeat' (first | (simp -implicitDefEqProofs (maxSteps := 1000000) (disch := first | assumption | omega | (simp only [ZDI]; omega)) only [*,G72,Za,Zb,Zc,Zd,Ze,Zf,Zg,Zh,Zi,Zj,Zk,Zl,Zm,Zn,Zo,Ja,Jb,Jc,J6,Jd,Je,J7,J8,Jf,Jg,Jh,Ji,Jj,Jk,J9,Jl,Jm,wr,Jn,JA,JB,Jo,Jp,Jq,Jr,Js,Jt,Ju,Jv,Jw,Jx,Jy,Jz,J0,J1,J2,J3,J4,J5,reduceCtorEq,JC,JD,JE,JF,JG,JH,JI,JJ]) | ((with_reducible (first | apply Ok.br | apply Ok.gd | apply Ok.ld)) <;> (intro g; (try simp only [ZGS] at g); try (exfalso; omega)))))
        exact hq.out
    · rw [if_neg hbig] at hI
      have h1' : ¬ (1048576 : Int) < (n : Int) := by omega
      have h2' : ¬ (r.length : Int) < (n : Int) := by omega
      have hwn : IntKind.i64.wrap (n : Int) = (n : Int) := wrapI (by omega)
      rcases hrd2.kept with ⟨e, _⟩ | ⟨b, hbp, hv, hbc⟩
      · exfalso
        have h3 : st = some bs \/ st = none \/ ∃ r, st = some r := by
          cases st with
          | none => exact .inr (.inl rfl)
          | some r => exact .inr (.inr ⟨r, rfl⟩)
        obtain ⟨k0, _, h4, _⟩ := h.cells
        rcases h3 with h3 | h3 | ⟨r0, h3⟩
        · rw [h3, e] at hx; simp [numD, numF] at hx
        · rw [h3] at hx; cases hx
        · have := h4 _ h3
          rw [e, List.drop_nil] at this
          rw [h3, this] at hx; simp [numD, numF] at hx
      · have hkept := hrd2.kept
        subst hv
        have hp := hcells_lt hcell
        have hb := hcells_lt hbc
        have hK : Keeps [p] g2 (g2.set p (.cells 0 true [.sl (.at b 0 0) bs.length bs.length 1, .int .i64 ((k + n : Nat) : Int), .bool false])) := (Keeps.refl _ _).set (.inl (by simp)) _
        have hrd : RdAt (g2.set p (.cells 0 true [.sl (.at b 0 0) bs.length bs.length 1, .int .i64 ((k + n : Nat) : Int), .bool false])) p (.sl (.at b 0 0) bs.length bs.length 1) bs (some (r.drop n)) :=
          ⟨hkept.keep hK, ⟨k + n, by omega, fun r' e => by cases e; rw [hkr, List.drop_drop], hcells_set_eq hp⟩, hroom⟩
        have hq : Hid (Q (.str ⟨(r.take n).toArray⟩, g2.set p (.cells 0 true [.sl (.at b 0 0) bs.length bs.length 1, .int .i64 ((k + n : Nat) : Int), .bool false]))) :=
          ⟨hQ'.out _ ⟨by rw [hI]; rfl, by rw [hI]; exact hrd, hk2.trans hK⟩⟩
        have hsl : (bs.drop k).take n = r.take n := by rw [hkr]
        have hk1 : (k : Int) + (n : Int) = ((k + n : Nat) : Int) := by omega
        have hk2' : ((k + n : Nat) : Int) - (n : Int) = (k : Int) := by omega
        have hblen : (bV bs).length = bs.length := bV_len bs
        have hle : k + n <= bs.length := by omega
        simp only [Option.isNone_some] at hcell
        have hcut := bV_cut bs k n
        rw [hsl] at hcut
        have hcut0 := bV_cut0 bs n
        have htb := toBytes_bV (r.take n)
        have hkn : k + n - k = n := by omega
        have hk0 : ¬ k = 0 := by
          obtain ⟨k0, _, h4, _⟩ := h.cells
          cases st with
          | none => cases hx
          | some r0 =>
            have h5 := numF_short _ _ _ _ _ hx
            rw [h4 _ rfl, List.length_drop] at h5
            omega
        clear hQ' hrd2 hk2 f1 f2 hI hx h hkr hrl hkept hK hrd hsl hbig
        by_cases hn0 : n = 0
        · have ht0 : r.take n = [] := by rw [hn0]; rfl
          rw [ht0] at hq
          have hz2 : decide (n = 0) = true := decide_eq_true hn0
          have hle0 : k + n <= k := by omega
          clear hcut hcut0 htb ht0
          by_cases hkk : k < bs.length
          · clear hle0 hn0
            (refine Ok.body body72 pin72 ?_; simp only [c72,Try.f72,Option.getD_some,nslot72,List.append_nil,List.map,List.replicate,List.length_cons,List.length_nil,Nat.reduceAdd,Nat.reduceSub,List.cons_append,List.nil_append])
            (repeat' (first | (simp -implicitDefEqProofs (maxSteps := 1000000) (disch := first | assumption | omega | (simp only [ZDI]; omega)) only [*,lenV,SA.add,optArr_s,optArr_n,Array.toList_append,toBytes,G72,Za,Zb,Zc,Zd,Ze,Zf,Zg,Zh,Zi,Zj,Zk,Zl,Zm,Zn,Zo,Ja,Jb,Jc,J6,Jd,Je,J7,J8,Jf,Jg,Jh,Ji,Jj,Jk,J9,Jl,Jm,wr,Jn,JA,JB,Jo,Jp,Jq,Jr,Js,Jt,Ju,Jv,Jw,Jx,Jy,Jz,J0,J1,J2,J3,J4,J5,reduceCtorEq,JC,JD,JE,JF,JG,JH,JI,JJ]) | ((with_reducible (first | apply Ok.br | apply Ok.gd | apply Ok.ld)) <;> (intro g; (try simp only [ZGS] at g); try (exfalso; omega)))))
            exact hq.out
          · clear hn0
            (refine Ok.body body72 pin72 ?_; simp only [c72,Try.f72,Option.getD_some,nslot72,List.append_nil,List.map,List.replicate,List.length_cons,List.length_nil,Nat.reduceAdd,Nat.reduceSub,List.cons_append,List.nil_append])
            (repeat' (first | (simp -implicitDefEqProofs (maxSteps := 1000000) (disch := first | assumption | omega | (simp only [ZDI]; omega)) only [*,lenV,SA.add,optArr_s,optArr_n,Array.toList_append,toBytes,G72,Za,Zb,Zc,Zd,Ze,Zf,Zg,Zh,Zi,Zj,Zk,Zl,Zm,Zn,Zo,Ja,Jb,Jc,J6,Jd,Je,J7,J8,Jf,Jg,Jh,Ji,Jj,Jk,J9,Jl,Jm,wr,Jn,JA,JB,Jo,Jp,Jq,Jr,Js,Jt,Ju,Jv,Jw,Jx,Jy,Jz,J0,J1,J2,J3,J4,J5,reduceCtorEq,JC,JD,JE,JF,JG,JH,JI,JJ]) | ((with_reducible (first | apply Ok.br | apply Ok.gd | apply Ok.ld)) <;> (intro g; (try simp only [ZGS] at g); try (exfalso; omega)))))
            exact hq.out
        · have hkk : k < bs.length := by omega
          (refine Ok.body body72 pin72 ?_; simp only [c72,Try.f72,Option.getD_some,nslot72,List.append_nil,List.map,List.replicate,List.length_cons,List.length_nil,Nat.reduceAdd,Nat.reduceSub,List.cons_append,List.nil_append])
          (repeat' (first | (simp -implicitDefEqProofs (maxSteps := 1000000) (disch := first | assumption | omega | (simp only [ZDI]; omega)) only [*,lenV,SA.add,optArr_s,optArr_n,Array.toList_append,G72,Za,Zb,Zc,Zd,Ze,Zf,Zg,Zh,Zi,Zj,Zk,Zl,Zm,Zn,Zo,Ja,Jb,Jc,J6,Jd,Je,J7,J8,Jf,Jg,Jh,Ji,Jj,Jk,J9,Jl,Jm,wr,Jn,JA,JB,Jo,Jp,Jq,Jr,Js,Jt,Ju,Jv,Jw,Jx,Jy,Jz,J0,J1,J2,J3,J4,J5,reduceCtorEq,JC,JD,JE,JF,JG,JH,JI,JJ]) | ((with_reducible (first | apply Ok.br | apply Ok.gd | apply Ok.ld)) <;> (intro g; (try simp only [ZGS] at g); try (exfalso; omega)))))
          exact hq.out
end Go.Ev
set_option maxRecDepth 100000
namespace Go.Ev
open Go.Proofs
def GroS {α : Type} (H h : Heap) (v : V) (xs : List α) (f : α -> List V) (z : Nat) : Prop := (xs = [] /\ v = .sl .nil 0 0 0) \/ ∃ b g, H.length <= b /\ 0 < xs.length /\ v = .sl (.at b g 0) xs.length xs.length z /\ hcells h b g = some (true, xs.flatMap f)
theorem RdAt.grow {H g g' : Heap} {p : Nat} {v : V} {bs : List UInt8} {st0 st : Option (List UInt8)} (h0 : RdAt H p v bs st0) (h : RdAt g p v bs st) (hk : ∀ i, i < H.length -> g'[i]? = g[i]?) : RdAt g' p v bs st := by
  have hc : ∀ b q x, b < H.length -> hcells g b q = some x -> hcells g' b q = some x := fun b q x hb e => by
    unfold hcells at e ⊢
    rw [hk b hb]; exact e
  obtain ⟨k0, _, _, hp⟩ := h0.cells
  obtain ⟨k, h1, h2, h3⟩ := h.cells
  refine ⟨?_, ⟨k, h1, h2, hc _ _ _ (hcells_lt hp) h3⟩, h.room⟩
  rcases h0.kept with ⟨e1, e2⟩ | ⟨b, e1, e2, e3⟩
  · exact .inl ⟨e1, e2⟩
  · rcases h.kept with ⟨e4, e5⟩ | ⟨b', e4, e5, e6⟩
    · exact .inl ⟨e4, e5⟩
    · rw [e2] at e5
      cases e5
      exact .inr ⟨b, e1, e2, hc _ _ _ (hcells_lt e3) e6⟩
end Go.Ev
set_option maxRecDepth 100000
namespace Go.Ev
open Go.Ev renaming exPure -> Ja, ofValue -> Jb, cellsV -> Jc, load -> Jd, store -> Je, binOp -> Jf, intOp -> Jg, rdV -> Jh, vsame -> Ji, vsames -> Jj, makeSliceV -> Jk, resV -> Jl, isCell -> Jm, nilCheckV -> Jn, allV -> Jo, builtinV -> Jp, lenV -> Jq, indexAddrV -> Jr, unOp -> Js, minmaxV -> Jt, minmax -> Ju, sliceV -> Jv, asInt -> Jw, appendV -> Jx, forkB -> Jy, roY -> Jz, rwB -> J0, copyV -> J1, clearV -> J2, convV -> J3, sliceCells -> J4, shift -> J5
open Bool renaming true -> BT, false -> BF
open Nat renaming reduceEqDiff -> J6, reduceLT -> J7, reduceAdd -> J8, reduceBEq -> J9, reduceSub -> JA, reduceMul -> JB, reduceLeDiff -> JJ
open Int renaming reduceLT -> JC, reduceLE -> JD, reduceAdd -> JE, reduceSub -> JF, reduceNeg -> JG, reduceToNat -> JH, reduceEq -> JI
open Go.Proofs
set_option maxHeartbeats 4000000 in
theorem newReader_at {H : Heap} {b g n c z : Nat} {rw : Bool} {full : List V} {bs : List UInt8} (hc : hcells H b g = some (rw, full)) (hn : bs.length = n) (hl : n <= full.length) (ht : full.take n = bV bs) (hpos : 0 < n) (hroom : n < 35184372088832) :
    D X (.fn 39 []) [.sl (.at b g 0) n c z] H = some (.ptr (H.length + 1) 0 0, H ++ [.cells 0 true (bV bs), .cells 0 true [.sl (.at H.length 0 0) n n 1, .int .i64 0, .bool false]]) /\
      RdAt (H ++ [.cells 0 true (bV bs), .cells 0 true [.sl (.at H.length 0 0) n n 1, .int .i64 0, .bool false]]) (H.length + 1) (.sl (.at H.length 0 0) n n 1) bs (some bs) := by
  constructor
  · refine Ok.eq ?_
    have hb := hcells_lt hc
    have hn0 : ¬ n <= 0 := by omega
    have hn1 : ¬ n = 0 := by omega
    have hL : n * 1 <= 35184372088832 /\ n <= 35184372088832 := by omega
    clear hn
    (refine Ok.body body39 pin39 ?_; simp only [c39,Try.f39,Option.getD_some,nslot39,List.append_nil,List.map,List.replicate,List.length_cons,List.length_nil,Nat.reduceAdd,Nat.reduceSub,List.cons_append,List.nil_append])
    (repeat' (first | (simp -implicitDefEqProofs (maxSteps := 1000000) (disch := first | assumption | omega | (simp only [ZDI]; omega)) only [*,lenV,List.drop_zero,Nat.zero_add,Nat.mul_one,G39,Za,Zb,Zc,Zd,Ze,Zf,Zg,Zh,Zi,Zj,Zk,Zl,Zm,Zn,Zo,Ja,Jb,Jc,J6,Jd,Je,J7,J8,Jf,Jg,Jh,Ji,Jj,Jk,J9,Jl,Jm,wr,Jn,JA,JB,Jo,Jp,Jq,Jr,Js,Jt,Ju,Jv,Jw,Jx,Jy,Jz,J0,J1,J2,J3,J4,J5,reduceCtorEq,JC,JD,JE,JF,JG,JH,JI,JJ]) | ((with_reducible (first | apply Ok.br | apply Ok.gd | apply Ok.ld)) <;> (intro g; (try simp only [ZGS] at g); try (exfalso; omega)))))
  · subst hn
    refine ⟨.inr ⟨H.length, by omega, rfl, ?_⟩, ⟨0, Nat.zero_le _, fun r e => by cases e; rfl, hc_new2⟩, hroom⟩
    rw [hcells_ge (Nat.le_refl _), Nat.sub_self]; exact grd_t rfl _
end Go.Ev
set_option maxRecDepth 100000
namespace Go.Ev
open Go.Ev renaming exPure -> Ja, ofValue -> Jb, cellsV -> Jc, load -> Jd, store -> Je, binOp -> Jf, intOp -> Jg, rdV -> Jh, vsame -> Ji, vsames -> Jj, makeSliceV -> Jk, resV -> Jl, isCell -> Jm, nilCheckV -> Jn, allV -> Jo, builtinV -> Jp, lenV -> Jq, indexAddrV -> Jr, unOp -> Js, minmaxV -> Jt, minmax -> Ju, sliceV -> Jv, asInt -> Jw, appendV -> Jx, forkB -> Jy, roY -> Jz, rwB -> J0, copyV -> J1, clearV -> J2, convV -> J3, sliceCells -> J4, shift -> J5
open Bool renaming true -> BT, false -> BF
open Nat renaming reduceEqDiff -> J6, reduceLT -> J7, reduceAdd -> J8, reduceBEq -> J9, reduceSub -> JA, reduceMul -> JB, reduceLeDiff -> JJ
open Int renaming reduceLT -> JC, reduceLE -> JD, reduceAdd -> JE, reduceSub -> JF, reduceNeg -> JG, reduceToNat -> JH, reduceEq -> JI
open Go.Proofs
end Go.Ev
set_option maxRecDepth 100000
namespace Go.Ev
open Go.Ev renaming exPure -> Ja, ofValue -> Jb, cellsV -> Jc, load -> Jd, store -> Je, binOp -> Jf, intOp -> Jg, rdV -> Jh, vsame -> Ji, vsames -> Jj, makeSliceV -> Jk, resV -> Jl, isCell -> Jm, nilCheckV -> Jn, allV -> Jo, builtinV -> Jp, lenV -> Jq, indexAddrV -> Jr, unOp -> Js, minmaxV -> Jt, minmax -> Ju, sliceV -> Jv, asInt -> Jw, appendV -> Jx, forkB -> Jy, roY -> Jz, rwB -> J0, copyV -> J1, clearV -> J2, convV -> J3, sliceCells -> J4, shift -> J5
open Bool renaming true -> BT, false -> BF
open Nat renaming reduceEqDiff -> J6, reduceLT -> J7, reduceAdd -> J8, reduceBEq -> J9, reduceSub -> JA, reduceMul -> JB, reduceLeDiff -> JJ
open Int renaming reduceLT -> JC, reduceLE -> JD, reduceAdd -> JE, reduceSub -> JF, reduceNeg -> JG, reduceToNat -> JH, reduceEq -> JI
open Go.Proofs
def vl {α : Type} (x : Option (α × List UInt8)) (d : α) : α := (x.map (·.1)).getD d
def rs {α : Type} (x : Option (α × List UInt8)) : Option (List UInt8) := x.map (·.2)
theorem took_step {α : Type} {dec : Dec α} {d : α} {f : α -> V} {fn : V} {args : List V} {H g : Heap} {p : Nat} {v : V} {bs : List UInt8} {st0 st : Option (List UInt8)}
    (hF : ∀ G, RdAt G p v bs st -> Ev.Ok (D X fn args G) (Took dec d f p v bs st G)) (h : RdAt H p v bs st0) (hrd : RdAt g p v bs st) (hk : Keeps [p] H g) {cs : List V} (hc : hcells g H.length 0 = some (true, cs)) (cs' : List V) :
    ∃ x a g', x = st.bind dec /\ a = vl x d /\ D X fn args (g.set H.length (.cells 0 true cs')) = some (f a, g') /\ RdAt g' p v bs (rs x) /\ Keeps [p] H g' /\ hcells g' H.length 0 = some (true, cs') /\ H.length < g'.length /\ Keeps [p, H.length] g g' := by
  obtain ⟨kp, _, _, hp⟩ := h.cells
  have hpl := hcells_lt hp
  have hcl := hcells_lt hc
  have h1 : RdAt (g.set H.length (.cells 0 true cs')) p v bs st := h.grow hrd fun i hi => List.getElem?_set_ne (by omega)
  obtain ⟨⟨w, g'⟩, e, hv, hr, hk2⟩ := hF _ h1
  dsimp only at hv hr hk2
  subst hv
  have hc' := hk2.cells (hcells_set_eq hcl) (by simp; omega)
  exact ⟨_, _, g', rfl, rfl, e, hr, (hk.set (.inr (Nat.le_refl _)) _).trans ⟨hk2.1, hk2.2⟩, hc', hcells_lt hc', ((Keeps.refl [p, H.length] g).set (.inl (by simp)) _).trans ⟨hk2.1, fun i hi hF => hk2.2 i hi fun e => hF (by simp at e; simp [e])⟩⟩
theorem GroS.keep {α : Type} {H h h' : Heap} {v : V} {xs : List α} {f : α -> List V} {z p : Nat} (hg : GroS H h v xs f z) (hk : Keeps [p] h h') (hp : p < H.length) : GroS H h' v xs f z := by
  rcases hg with hg | ⟨b, g, h1, h2, h3, h4⟩
  · exact .inl hg
  · exact .inr ⟨b, g, h1, h2, h3, hk.cells h4 (by simp; omega)⟩
theorem GroS.set {α : Type} {H h : Heap} {v : V} {xs : List α} {f : α -> List V} {z i : Nat} (hg : GroS H h v xs f z) (hi : i < H.length) (x : Blk) : GroS H (h.set i x) v xs f z := by
  rcases hg with hg | ⟨b, g, h1, h2, h3, h4⟩
  · exact .inl hg
  · exact .inr ⟨b, g, h1, h2, h3, by rw [hcells_set_ne (by omega)]; exact h4⟩
theorem GroS.strs {H h : Heap} {v : V} {xs : List ByteArray} (hg : GroS H h v xs (fun s => [V.str s]) 1) (hl : xs.length <= 4096) : StrsAt h v xs := by
  rcases hg with ⟨rfl, rfl⟩ | ⟨b, g, h1, h2, h3, h4⟩
  · exact ⟨.nil, 0, 0, rfl, by simp, trivial, .inl rfl⟩
  · refine ⟨_, _, _, h3, by omega, trivial, .inr ⟨b, g, 0, _, _, rfl, h4, fun i s hs => ?_⟩⟩
    rw [Nat.zero_add]
    have : ∀ (l : List ByteArray) (j : Nat), l[j]? = some s -> (l.flatMap fun s => [V.str s])[j]? = some (.str s) := by
      intro l
      induction l with
      | nil => intro j hj; simp at hj
      | cons y l ih =>
        intro j hj
        rw [List.flatMap_cons]
        cases j with
        | zero => simp at hj; subst hj; rfl
        | succ j => simpa using ih j (by simpa using hj)
    exact this xs i hs
end Go.Ev
set_option maxRecDepth 100000
namespace Go.Ev
open Go.Proofs
theorem ofNat_small {k : Nat} (h : k < 256) : (UInt8.ofNat k).toNat = k := by rw [UInt8.toNat_ofNat']; omega
theorem numF_hi : ∀ (m : Nat) (rest : List UInt8), m < 144115188075855872 -> numF true 0 (hiE m ++ rest) = if m = 0 then numF true 0 rest else numF false m rest := by
  intro m
  induction m using Nat.strongRecOn with
  | ind m ih =>
    intro rest hm
    by_cases h0 : m = 0
    · subst h0; rw [hiE]; simp
    · rw [if_neg h0, hiE, if_neg h0, List.append_assoc, ih (m / 128) (by omega) _ (by omega)]
      have hc : (UInt8.ofNat (m % 128 + 128)).toNat = m % 128 + 128 := ofNat_small (by omega)
      by_cases h1 : m / 128 = 0
      · rw [if_pos h1, List.cons_append, List.nil_append, numF, hc, if_neg (by omega), if_neg (by omega)]
        congr 1; omega
      · rw [if_neg h1, List.cons_append, List.nil_append, numF, hc, if_neg (by simp; omega), if_neg (by omega)]
        congr 1; omega
theorem numD_E {n : Nat} (hn : n < 18446744073709551616) (r : List UInt8) : numD (numE n ++ r) = some (n, r) := by
  unfold numD numE
  rw [List.append_assoc, numF_hi _ _ (by omega)]
  have hc : (UInt8.ofNat (n % 128)).toNat = n % 128 := ofNat_small (by omega)
  by_cases h1 : n / 128 = 0
  · rw [if_pos h1, List.cons_append, List.nil_append, numF, hc, if_neg (by omega), if_pos (by omega)]
    congr 2; omega
  · rw [if_neg h1, List.cons_append, List.nil_append, numF, hc, if_neg (by simp; omega), if_pos (by omega)]
    congr 2; omega
theorem boolD_E (b : Bool) (r : List UInt8) : boolD ((if b then 1 else 0) :: r) = some (b, r) := by
  cases b <;> rfl
theorem textD_E {s : ByteArray} (hs : s.size <= 1048576) (r : List UInt8) : textD (textE s ++ r) = some (s, r) := by
  have hl : s.data.toList.length = s.size := by rw [Array.length_toList]; rfl
  unfold textD textE
  rw [List.append_assoc, numD_E (by omega)]
  simp only [Option.bind_some]
  rw [if_neg (by rw [List.length_append, hl]; omega), <- hl, List.take_left, List.drop_left]
def Loc {α : Type} (d : Dec α) : Prop := ∀ s v r t, d s = some (v, r) -> d (s ++ t) = some (v, r ++ t)
theorem Loc.cut {α : Type} {d : Dec α} (h : Loc d) {s : List UInt8} {c : UInt8} {x : α} (he : d (s ++ [c]) = some (x, [])) : d s = none := by
  cases hd : d s with
  | none => rfl
  | some y =>
    have := h s y.1 y.2 [c] hd
    rw [he] at this
    simp at this
end Go.Ev
set_option maxRecDepth 100000
namespace Go.Ev
open Go.Ev renaming exPure -> Ja, ofValue -> Jb, cellsV -> Jc, load -> Jd, store -> Je, binOp -> Jf, intOp -> Jg, rdV -> Jh, vsame -> Ji, vsames -> Jj, makeSliceV -> Jk, resV -> Jl, isCell -> Jm, nilCheckV -> Jn, allV -> Jo, builtinV -> Jp, lenV -> Jq, indexAddrV -> Jr, unOp -> Js, minmaxV -> Jt, minmax -> Ju, sliceV -> Jv, asInt -> Jw, appendV -> Jx, forkB -> Jy, roY -> Jz, rwB -> J0, copyV -> J1, clearV -> J2, convV -> J3, sliceCells -> J4, shift -> J5
open Bool renaming true -> BT, false -> BF
open Nat renaming reduceEqDiff -> J6, reduceLT -> J7, reduceAdd -> J8, reduceBEq -> J9, reduceSub -> JA, reduceMul -> JB, reduceLeDiff -> JJ
open Int renaming reduceLT -> JC, reduceLE -> JD, reduceAdd -> JE, reduceSub -> JF, reduceNeg -> JG, reduceToNat -> JH, reduceEq -> JI
open Go.Proofs
def tailE (s : Sto) : Nat -> Nat -> List UInt8
  | _, 0 => []
  | i, m + 1 => cellE s i ++ tailE s (i + 1) m
theorem cellsE_tail (s : Sto) : ∀ (m i : Nat), cellsE s (i + m) = cellsE s i ++ tailE s i m
  | 0, i => by simp [tailE]
  | m + 1, i => by
    have h := cellsE_tail s m (i + 1)
    rw [show i + (m + 1) = i + 1 + m by omega, h, cellsE, tailE, List.append_assoc]
theorem storeE_eq (s : Sto) : storeE s = numE s.a.toNat ++ (numE s.b.toNat ++ ((if s.fz then 1 else 0) :: tailE s 0 s.n)) := by
  have h := cellsE_tail s s.n 0
  rw [Nat.zero_add, cellsE, List.nil_append] at h
  unfold storeE
  rw [h]
  simp only [List.append_assoc,List.cons_append,List.nil_append]
theorem rdEnd_at {H : Heap} {p : Nat} {v : V} {bs : List UInt8} (h : RdAt H p v bs (some [])) : D X (.fn 75 []) [.ptr p 0 0] H = some (.bool true, H) := by
  have h1 := rdBad_at h
  have h2 := rdLeft_at h
  simp only [Option.isNone_some,leftN,List.length_nil] at h1 h2
  clear h
  refine Ok.eq ?_
  (refine Ok.body body75 pin75 ?_; simp only [c75,Try.f75,Option.getD_some,nslot75,List.append_nil,List.map,List.replicate,List.length_cons,List.length_nil,Nat.reduceAdd,Nat.reduceSub,List.cons_append,List.nil_append])
  (repeat' (first | (simp -implicitDefEqProofs (maxSteps := 1000000) (disch := first | assumption | omega | (simp only [ZDI]; omega)) only [*,G75,Za,Zb,Zc,Zd,Ze,Zf,Zg,Zh,Zi,Zj,Zk,Zl,Zm,Zn,Zo,Ja,Jb,Jc,J6,Jd,Je,J7,J8,Jf,Jg,Jh,Ji,Jj,Jk,J9,Jl,Jm,wr,Jn,JA,JB,Jo,Jp,Jq,Jr,Js,Jt,Ju,Jv,Jw,Jx,Jy,Jz,J0,J1,J2,J3,J4,J5,reduceCtorEq,JC,JD,JE,JF,JG,JH,JI,JJ]) | ((with_reducible (first | apply Ok.br | apply Ok.gd | apply Ok.ld)) <;> (intro g; (try simp only [ZGS] at g); try (exfalso; omega)))))
set_option maxHeartbeats 64000000 in
theorem decode_at {H : Heap} {b g n cap z : Nat} {rw : Bool} {s : Sto} (hb : hcells H b g = some (rw, bV (storeE s))) (hn : n = (storeE s).length) (hok : s.Ok) (hg : s.Good) :
    Ev.Ok (D X (.fn 44 []) [.sl (.at b g 0) n cap z] H) fun y => ∃ p c, y.1 = .tup [.ptr p 0 0, .int .i64 0] /\ StoreAt y.2 p c 0 s /\ Keeps [] H y.2 /\ H.length <= p /\ H.length <= c := by
  refine Ok.aim fun Q hQ => ?_
  have hQ' := Hid.mk hQ
  clear hQ
  have g0 := hok.h0
  have g1 := hok.h1
  have g2 := hok.h2
  have hn2 : s.n <= 300 := by unfold Sto.n; omega
  have hla := numE_len (n := s.a.toNat) (by omega)
  have hlb := numE_len (n := s.b.toNat) (by omega)
  have hpa := numE_pos s.a.toNat
  have hlc := cellsE_len hg s.n
  have hlen : 0 < (storeE s).length /\ (storeE s).length <= 3000000 := by
    unfold storeE
    simp only [List.length_append,List.length_cons,List.length_nil]
    omega
  obtain ⟨eN, r0⟩ := newReader_at (c := cap) (z := z) (bs := storeE s) hb hn.symm (by rw [bV_len]; omega) (by rw [hn]; exact bV_take _) (by omega) (by omega)
  obtain ⟨G0, hG0⟩ : ∃ G, G = H ++ [.cells 0 true (bV (storeE s)), .cells 0 true [.sl (.at H.length 0 0) n n 1, .int .i64 0, .bool false]] := ⟨_, rfl⟩
  have hk0 : Keeps [] H G0 := by rw [hG0]; exact .app _ _ _
  rw [<- hG0] at eN r0
  have hpr : H.length + 1 < G0.length := by rw [hG0]; simp
  clear hG0 hlc hb
  have hd1 : (some (storeE s)).bind numD = some (s.a.toNat, numE s.b.toNat ++ ((if s.fz then 1 else 0) :: tailE s 0 s.n)) := by rw [storeE_eq]; exact numD_E (by omega) _
  have hd2 : (some (numE s.b.toNat ++ ((if s.fz then 1 else 0) :: tailE s 0 s.n))).bind numD = some (s.b.toNat, (if s.fz then 1 else 0) :: tailE s 0 s.n) := numD_E (by omega) _
  have hd3 : (some ((if s.fz then 1 else 0) :: tailE s 0 s.n)).bind boolD = some (s.fz, tailE s 0 s.n) := boolD_E _ _
  obtain ⟨⟨w1, G1⟩, e1, hv1, r1, k1⟩ := rdNum_at r0
  dsimp only at hv1 r1 k1
  rw [hd1] at hv1 r1
  simp only [Option.map_some,Option.getD_some] at hv1 r1
  subst hv1
  obtain ⟨⟨w2, G2⟩, e2, hv2, r2, k2⟩ := rdNum_at r1
  dsimp only at hv2 r2 k2
  rw [hd2] at hv2 r2
  simp only [Option.map_some,Option.getD_some] at hv2 r2
  subst hv2
  obtain ⟨⟨w3, G3⟩, e3, hv3, r3, k3⟩ := rdBool_at r2
  dsimp only at hv3 r3 k3
  rw [hd3] at hv3 r3
  simp only [Option.map_some,Option.getD_some] at hv3 r3
  subst hv3
  have eBad := rdBad_at r3
  simp only [Option.isNone_some] at eBad
  have k03 := (k1.trans k2).trans k3
  have hK3 : Keeps [] H G3 := ⟨Nat.le_trans hk0.1 k03.1, fun i hi _ => by rw [k03.2 i (by have := hk0.1; omega) (by simp; omega)]; exact hk0.2 i hi (by simp)⟩
  have hpr3 : H.length + 1 < G3.length := by have := k03.1; omega
  obtain ⟨⟨w4, G4⟩, e4, h4', hy4, k4, l4, st4⟩ := new_store g0 g1 g2 G3
  simp only [Prod.mk.injEq] at hy4
  obtain ⟨rfl, rfl⟩ := hy4
  obtain ⟨cp, zz, full0, q1, q2, q3, q4, q5⟩ := st4
  have hna : ((s.a.toNat : Nat) : Int) = s.a := by omega
  have hnb : ((s.b.toNat : Nat) : Int) = s.b := by omega
  have hne : (emptySto s.a s.b).n = s.n := rfl
  rw [hne] at q1 q3
  have hcp : s.n <= cp := q5.hc
  have hz5 := q5.hz
  have hpl4 := hcells_lt q1
  have hcl4 := hcells_lt q2
  have hf0 : full0.length = s.n * 5 := q3.1
  have q1 : hcells G4 (G3.length + 1) 0 = some (true, [.int .i64 s.a, .int .i64 s.b, .bool false, .sl (.at G3.length 0 0) s.n cp zz]) := q1
  rw [hna] at e1
  rw [hnb] at e2
  have r4 : RdAt (G4.set (G3.length + 1) (.cells 0 true [.int .i64 s.a, .int .i64 s.b, .bool s.fz, .sl (.at G3.length 0 0) s.n cp zz])) (H.length + 1) (.sl (.at H.length 0 0) n n 1) (storeE s) (some (tailE s 0 s.n)) :=
    r3.grow r3 fun i hi => by rw [List.getElem?_set_ne (by omega)]; exact k4.2 i hi (by simp)
  have hgo : s.Good := hg
  have r3' := Hid.mk r3
  have r4' := Hid.mk r4
  have hK3' := Hid.mk hK3
  have k4' := Hid.mk k4
  have hg' := Hid.mk hg
  have hok' := Hid.mk hok
  clear hd1 hd2 hd3 r0 r1 r2 r3 r4 k1 k2 k3 k03 hk0 hK3 k4 q3 q5 hg hgo hok hla hlb hpa hpr hn
  (refine Ok.body body44 pin44 ?_; simp only [c44,Try.f44,Option.getD_some,nslot44,List.append_nil,List.map,List.replicate,List.length_cons,List.length_nil,Nat.reduceAdd,Nat.reduceSub,List.cons_append,List.nil_append])
  (repeat' (first | (simp -implicitDefEqProofs (maxSteps := 1000000) (disch := first | assumption | omega | (simp only [ZDI]; omega)) only [*,lenV,G44,Za,Zb,Zc,Zd,Ze,Zf,Zg,Zh,Zi,Zj,Zk,Zl,Zm,Zn,Zo,Ja,Jb,Jc,J6,Jd,Je,J7,J8,Jf,Jg,Jh,Ji,Jj,Jk,J9,Jl,Jm,wr,Jn,JA,JB,Jo,Jp,Jq,Jr,Js,Jt,Ju,Jv,Jw,Jx,Jy,Jz,J0,J1,J2,J3,J4,J5,reduceCtorEq,JC,JD,JE,JF,JG,JH,JI,JJ]) | ((with_reducible (first | apply Ok.br | apply Ok.gd | apply Ok.ld)) <;> (intro g; (try simp only [ZGS] at g); try (exfalso; omega)))))
  refine Ok.loop [BF, BF, BT, BT, BF, BF, BF, BF, BF, BF, BT, BT, BT, BT, BF, BF, BF, BF, BF, BF, BF, BF, BF, BF, BF, BF, BF, BF, BF, BF, BF, BF, BF, BF, BF, BF, BF, BF, BF, BF, BF, BF, BF, BF, BF, BF, BF, BF, BF, BF, BF, BT, BT, BT, BT, BT, BT, BT, BT, BT, BT, BT, BT, BT, BT, BT, BT, BT, BT, BT, BT, BT, BT, BT, BT, BT, BT, BT, BT, BT, BT, BT, BT, BT, BT, BT, BT, BF, BF, BF, BF] (fun m s2 => ∃ (i : Nat) (full : List V), m = s.n - i /\ i <= s.n /\ tv s2.e 51 = .v (.int .i64 i) /\ s2.l = [] /\ RdAt s2.h (H.length + 1) (.sl (.at H.length 0 0) n n 1) (storeE s) (some (tailE s i (s.n - i))) /\ Keeps [H.length + 1] G3 s2.h /\
      hcells s2.h (G3.length + 1) 0 = some (true, [.int .i64 s.a, .int .i64 s.b, .bool s.fz, .sl (.at G3.length 0 0) s.n cp zz]) /\ hcells s2.h G3.length 0 = some (true, full) /\ full.length = s.n * 5 /\ (∀ j, j < i -> full[j * 5]? = some (.str (s.txt j)) /\ ∀ k, k < 4 -> full[j * 5 + 1 + k]? = some (.int .i64 (s.mrk j k))))
    (fun y s2 => y = .exit 0 /\ ∃ (full : List V), s2.l = [] /\ RdAt s2.h (H.length + 1) (.sl (.at H.length 0 0) n n 1) (storeE s) (some []) /\ Keeps [H.length + 1] G3 s2.h /\
      hcells s2.h (G3.length + 1) 0 = some (true, [.int .i64 s.a, .int .i64 s.b, .bool s.fz, .sl (.at G3.length 0 0) s.n cp zz]) /\ hcells s2.h G3.length 0 = some (true, full) /\ full.length = s.n * 5 /\ (∀ j, j < s.n -> full[j * 5]? = some (.str (s.txt j)) /\ ∀ k, k < 4 -> full[j * 5 + 1 + k]? = some (.int .i64 (s.mrk j k))))
    (s.n - 0) ⟨0, full0, rfl, Nat.zero_le _, rfl, rfl, r4'.out, ⟨by have := k4'.out.1; simp; omega, fun i hi _ => by
      dsimp only
      rw [List.getElem?_set_ne (by omega)]; exact k4'.out.2 i hi (by simp)⟩, hcells_set_eq hpl4, by dsimp only; rw [hcells_set_ne (by omega)]; exact q2, hf0, fun j hj => absurd hj (by omega)⟩ ?_ ?_
  · intro m ⟨e', l', G⟩ hW ⟨i, full, hm, hi, h51, kl, hrd, hkG, hp, hc, hfl, hcs⟩
    dsimp only at hW h51 kl hrd hkG hp hc
    subst l'
    rw [hW.spread]
    simp only [spread_t,spread_f,spread_n,Nat.zero_add,Nat.reduceAdd,h51]
    clear hW hQ' e1 e2 e3 eN e4 eBad q1 q2
    by_cases hlt : i < s.n
    · have hlt' : (i : Int) < (s.n : Int) := by omega
      have g1 : 0 <= (i : Int) /\ (i : Int) < (s.n : Int) := by omega
      have hni : s.n - i = (s.n - (i + 1)) + 1 := by omega
      have hsz := hg'.out.size i
      have htx := hg'.out.text i
      have m0 := hg'.out.mark i 0
      have m1 := hg'.out.mark i 1
      have m2 := hg'.out.mark i 2
      have m3 := hg'.out.mark i 3
      have eT := isText_at (s.txt i)
      rw [htx] at eT
      obtain ⟨R, hR⟩ : ∃ R, R = tailE s (i + 1) (s.n - (i + 1)) := ⟨_, rfl⟩
      have htail : tailE s i (s.n - i) = textE (s.txt i) ++ (numE (s.mrk i 0).toNat ++ (numE (s.mrk i 1).toNat ++ (numE (s.mrk i 2).toNat ++ (numE (s.mrk i 3).toNat ++ R)))) := by
        rw [hni, tailE, <- hR]; unfold cellE; simp only [List.append_assoc]
      rw [htail] at hrd
      obtain ⟨⟨w5, G5⟩, e5, hv5, r5, k5⟩ := rdText_at hrd
      dsimp only at hv5 r5 k5
      have hd5 : (some (textE (s.txt i) ++ (numE (s.mrk i 0).toNat ++ (numE (s.mrk i 1).toNat ++ (numE (s.mrk i 2).toNat ++ (numE (s.mrk i 3).toNat ++ R)))))).bind textD = some (s.txt i, numE (s.mrk i 0).toNat ++ (numE (s.mrk i 1).toNat ++ (numE (s.mrk i 2).toNat ++ (numE (s.mrk i 3).toNat ++ R)))) := textD_E (by omega) _
      rw [hd5] at hv5 r5
      simp only [Option.map_some,Option.getD_some] at hv5 r5
      subst hv5
      have c5 := k5.cells hc (by simp; omega)
      have p5 := k5.cells hp (by simp; omega)
      have K5 := hkG.trans (⟨k5.1, fun i hi hF => k5.2 i hi hF⟩ : Keeps [H.length + 1] G G5)
      obtain ⟨x6, a6, G6, hx6, ha6, e6, r6, K6, c6, l6, kk6⟩ := took_step (fun G hG => rdNum_at hG) r3'.out r5 K5 c5 (full.set (i * 5) (.str (s.txt i)))
      have hd6 : (some (numE (s.mrk i 0).toNat ++ (numE (s.mrk i 1).toNat ++ (numE (s.mrk i 2).toNat ++ (numE (s.mrk i 3).toNat ++ R))))).bind numD = some ((s.mrk i 0).toNat, numE (s.mrk i 1).toNat ++ (numE (s.mrk i 2).toNat ++ (numE (s.mrk i 3).toNat ++ R))) := numD_E (by omega) _
      rw [hd6] at hx6; subst hx6
      have ha6 : a6 = (s.mrk i 0).toNat := ha6
      have r6 : RdAt G6 (H.length + 1) (.sl (.at H.length 0 0) n n 1) (storeE s) (some (numE (s.mrk i 1).toNat ++ (numE (s.mrk i 2).toNat ++ (numE (s.mrk i 3).toNat ++ R)))) := r6
      have p6 := kk6.cells p5 (by simp; omega)
      obtain ⟨x7, a7, G7, hx7, ha7, e7, r7, K7, c7, l7, kk7⟩ := took_step (fun G hG => rdNum_at hG) r3'.out r6 K6 c6 ((full.set (i * 5) (.str (s.txt i))).set (i * 5 + 1) (.int .i64 (s.mrk i 0)))
      have hd7 : (some (numE (s.mrk i 1).toNat ++ (numE (s.mrk i 2).toNat ++ (numE (s.mrk i 3).toNat ++ R)))).bind numD = some ((s.mrk i 1).toNat, numE (s.mrk i 2).toNat ++ (numE (s.mrk i 3).toNat ++ R)) := numD_E (by omega) _
      rw [hd7] at hx7; subst hx7
      have ha7 : a7 = (s.mrk i 1).toNat := ha7
      have r7 : RdAt G7 (H.length + 1) (.sl (.at H.length 0 0) n n 1) (storeE s) (some (numE (s.mrk i 2).toNat ++ (numE (s.mrk i 3).toNat ++ R))) := r7
      have p7 := kk7.cells p6 (by simp; omega)
      obtain ⟨x8, a8, G8, hx8, ha8, e8, r8, K8, c8, l8, kk8⟩ := took_step (fun G hG => rdNum_at hG) r3'.out r7 K7 c7 (((full.set (i * 5) (.str (s.txt i))).set (i * 5 + 1) (.int .i64 (s.mrk i 0))).set (i * 5 + 1 + 1) (.int .i64 (s.mrk i 1)))
      have hd8 : (some (numE (s.mrk i 2).toNat ++ (numE (s.mrk i 3).toNat ++ R))).bind numD = some ((s.mrk i 2).toNat, numE (s.mrk i 3).toNat ++ R) := numD_E (by omega) _
      rw [hd8] at hx8; subst hx8
      have ha8 : a8 = (s.mrk i 2).toNat := ha8
      have r8 : RdAt G8 (H.length + 1) (.sl (.at H.length 0 0) n n 1) (storeE s) (some (numE (s.mrk i 3).toNat ++ R)) := r8
      have p8 := kk8.cells p7 (by simp; omega)
      obtain ⟨x9, a9, G9, hx9, ha9, e9, r9, K9, c9, l9, kk9⟩ := took_step (fun G hG => rdNum_at hG) r3'.out r8 K8 c8 ((((full.set (i * 5) (.str (s.txt i))).set (i * 5 + 1) (.int .i64 (s.mrk i 0))).set (i * 5 + 1 + 1) (.int .i64 (s.mrk i 1))).set (i * 5 + 1 + 2) (.int .i64 (s.mrk i 2)))
      have hd9 : (some (numE (s.mrk i 3).toNat ++ R)).bind numD = some ((s.mrk i 3).toNat, R) := numD_E (by omega) _
      rw [hd9] at hx9; subst hx9
      have ha9 : a9 = (s.mrk i 3).toNat := ha9
      have r9 : RdAt G9 (H.length + 1) (.sl (.at H.length 0 0) n n 1) (storeE s) (some R) := r9
      have p9 := kk9.cells p8 (by simp; omega)
      have v6 : ((a6 : Nat) : Int) = s.mrk i 0 := by omega
      have v7 : ((a7 : Nat) : Int) = s.mrk i 1 := by omega
      have v8 : ((a8 : Nat) : Int) = s.mrk i 2 := by omega
      have v9 : ((a9 : Nat) : Int) = s.mrk i 3 := by omega
      rw [v6] at e6
      rw [v7] at e7
      rw [v8] at e8
      rw [v9] at e9
      have l5 := hcells_lt c5
      have lp5 := hcells_lt p5
      have lp9 := hcells_lt p9
      obtain ⟨F5, hF5⟩ : ∃ F, F = ((((full.set (i * 5) (.str (s.txt i))).set (i * 5 + 1) (.int .i64 (s.mrk i 0))).set (i * 5 + 1 + 1) (.int .i64 (s.mrk i 1))).set (i * 5 + 1 + 2) (.int .i64 (s.mrk i 2))).set (i * 5 + 1 + 3) (.int .i64 (s.mrk i 3)) := ⟨_, rfl⟩
      have hF5l : F5.length = s.n * 5 := by rw [hF5]; simp [hfl]
      have hF5t : F5[i * 5]? = some (.str (s.txt i)) := by
        rw [hF5, List.getElem?_set_ne (by omega), List.getElem?_set_ne (by omega), List.getElem?_set_ne (by omega), List.getElem?_set_ne (by omega), List.getElem?_set_self (by omega)]
      have hF5c : ∀ j, j < i + 1 -> F5[j * 5]? = some (.str (s.txt j)) /\ ∀ k, k < 4 -> F5[j * 5 + 1 + k]? = some (.int .i64 (s.mrk j k)) := by
        intro j hj
        by_cases hji : j = i
        · subst hji
          refine ⟨hF5t, fun k hk => ?_⟩
          rw [hF5]
          simp only [List.getElem?_set,List.length_set,hfl]
          rcases (by omega : k = 0 \/ k = 1 \/ k = 2 \/ k = 3) with rfl | rfl | rfl | rfl
          · rw [if_neg (by omega), if_neg (by omega), if_neg (by omega), if_pos (by omega), if_pos (by omega)]
          · rw [if_neg (by omega), if_neg (by omega), if_pos (by omega), if_pos (by omega)]
          · rw [if_neg (by omega), if_pos (by omega), if_pos (by omega)]
          · rw [if_pos (by omega), if_pos (by omega)]
        · obtain ⟨a1, a2⟩ := hcs j (by omega)
          rw [hF5]
          refine ⟨?_, fun k hk => ?_⟩
          · rw [List.getElem?_set_ne (by omega), List.getElem?_set_ne (by omega), List.getElem?_set_ne (by omega), List.getElem?_set_ne (by omega), List.getElem?_set_ne (by omega)]; exact a1
          · rw [List.getElem?_set_ne (by omega), List.getElem?_set_ne (by omega), List.getElem?_set_ne (by omega), List.getElem?_set_ne (by omega), List.getElem?_set_ne (by omega)]; exact a2 k hk
      have hend : Hid (RdAt (G9.set G3.length (.cells 0 true F5)) (H.length + 1) (.sl (.at H.length 0 0) n n 1) (storeE s) (some (tailE s (i + 1) (s.n - (i + 1)))) /\ Keeps [H.length + 1] G3 (G9.set G3.length (.cells 0 true F5)) /\
          hcells (G9.set G3.length (.cells 0 true F5)) (G3.length + 1) 0 = some (true, [.int .i64 s.a, .int .i64 s.b, .bool s.fz, .sl (.at G3.length 0 0) s.n cp zz]) /\ hcells (G9.set G3.length (.cells 0 true F5)) G3.length 0 = some (true, F5)) :=
        ⟨by rw [<- hR]; exact r3'.out.grow r9 fun i hi => List.getElem?_set_ne (by omega), K9.set (.inr (Nat.le_refl _)) _, by rw [hcells_set_ne (by omega)]; exact p9, hcells_set_eq l9⟩
      have hF5c' := Hid.mk hF5c
      have hoff : i * 5 + 1 + 3 < full.length := by rw [hfl]; omega
      have z6 : ¬ (1099511627776 : Int) < s.mrk i 0 := by omega
      have z7 : ¬ (1099511627776 : Int) < s.mrk i 1 := by omega
      have z8 : ¬ (1099511627776 : Int) < s.mrk i 2 := by omega
      have z9 : ¬ (1099511627776 : Int) < s.mrk i 3 := by omega
      have hF5s := hF5.symm
      clear hF5 hF5c hcs hrd hkG r5 r6 r7 r8 r9 k5 kk6 kk7 kk8 kk9 K5 K6 K7 K8 K9 hd5 hd6 hd7 hd8 hd9 htail hR ha6 ha7 ha8 ha9 v6 v7 v8 v9 hsz htx
      (repeat' (first | (simp -implicitDefEqProofs (maxSteps := 1000000) (disch := first | assumption | omega | (simp only [ZDI]; omega)) only [*,lenV,G44,Za,Zb,Zc,Zd,Ze,Zf,Zg,Zh,Zi,Zj,Zk,Zl,Zm,Zn,Zo,Ja,Jb,Jc,J6,Jd,Je,J7,J8,Jf,Jg,Jh,Ji,Jj,Jk,J9,Jl,Jm,wr,Jn,JA,JB,Jo,Jp,Jq,Jr,Js,Jt,Ju,Jv,Jw,Jx,Jy,Jz,J0,J1,J2,J3,J4,J5,reduceCtorEq,JC,JD,JE,JF,JG,JH,JI,JJ]) | ((with_reducible (first | apply Ok.br | apply Ok.gd | apply Ok.ld)) <;> (intro g; (try simp only [ZGS] at g); try (exfalso; omega)))))
      refine Ok.unroll ?_
      (repeat' (first | (simp -implicitDefEqProofs (maxSteps := 1000000) (disch := first | assumption | omega | (simp only [ZDI]; omega)) only [*,lenV,G44,Za,Zb,Zc,Zd,Ze,Zf,Zg,Zh,Zi,Zj,Zk,Zl,Zm,Zn,Zo,Ja,Jb,Jc,J6,Jd,Je,J7,J8,Jf,Jg,Jh,Ji,Jj,Jk,J9,Jl,Jm,wr,Jn,JA,JB,Jo,Jp,Jq,Jr,Js,Jt,Ju,Jv,Jw,Jx,Jy,Jz,J0,J1,J2,J3,J4,J5,reduceCtorEq,JC,JD,JE,JF,JG,JH,JI,JJ]) | ((with_reducible (first | apply Ok.br | apply Ok.gd | apply Ok.ld)) <;> (intro g; (try simp only [ZGS] at g); try (exfalso; omega)))))
      refine Ok.unroll ?_
      (repeat' (first | (simp -implicitDefEqProofs (maxSteps := 1000000) (disch := first | assumption | omega | (simp only [ZDI]; omega)) only [*,lenV,G44,Za,Zb,Zc,Zd,Ze,Zf,Zg,Zh,Zi,Zj,Zk,Zl,Zm,Zn,Zo,Ja,Jb,Jc,J6,Jd,Je,J7,J8,Jf,Jg,Jh,Ji,Jj,Jk,J9,Jl,Jm,wr,Jn,JA,JB,Jo,Jp,Jq,Jr,Js,Jt,Ju,Jv,Jw,Jx,Jy,Jz,J0,J1,J2,J3,J4,J5,reduceCtorEq,JC,JD,JE,JF,JG,JH,JI,JJ]) | ((with_reducible (first | apply Ok.br | apply Ok.gd | apply Ok.ld)) <;> (intro g; (try simp only [ZGS] at g); try (exfalso; omega)))))
      refine Ok.unroll ?_
      (repeat' (first | (simp -implicitDefEqProofs (maxSteps := 1000000) (disch := first | assumption | omega | (simp only [ZDI]; omega)) only [*,lenV,G44,Za,Zb,Zc,Zd,Ze,Zf,Zg,Zh,Zi,Zj,Zk,Zl,Zm,Zn,Zo,Ja,Jb,Jc,J6,Jd,Je,J7,J8,Jf,Jg,Jh,Ji,Jj,Jk,J9,Jl,Jm,wr,Jn,JA,JB,Jo,Jp,Jq,Jr,Js,Jt,Ju,Jv,Jw,Jx,Jy,Jz,J0,J1,J2,J3,J4,J5,reduceCtorEq,JC,JD,JE,JF,JG,JH,JI,JJ]) | ((with_reducible (first | apply Ok.br | apply Ok.gd | apply Ok.ld)) <;> (intro g; (try simp only [ZGS] at g); try (exfalso; omega)))))
      refine Ok.unroll ?_
      (repeat' (first | (simp -implicitDefEqProofs (maxSteps := 1000000) (disch := first | assumption | omega | (simp only [ZDI]; omega)) only [*,lenV,G44,Za,Zb,Zc,Zd,Ze,Zf,Zg,Zh,Zi,Zj,Zk,Zl,Zm,Zn,Zo,Ja,Jb,Jc,J6,Jd,Je,J7,J8,Jf,Jg,Jh,Ji,Jj,Jk,J9,Jl,Jm,wr,Jn,JA,JB,Jo,Jp,Jq,Jr,Js,Jt,Ju,Jv,Jw,Jx,Jy,Jz,J0,J1,J2,J3,J4,J5,reduceCtorEq,JC,JD,JE,JF,JG,JH,JI,JJ]) | ((with_reducible (first | apply Ok.br | apply Ok.gd | apply Ok.ld)) <;> (intro g; (try simp only [ZGS] at g); try (exfalso; omega)))))
      refine Ok.unroll ?_
      (repeat' (first | (simp -implicitDefEqProofs (maxSteps := 1000000) (disch := first | assumption | omega | (simp only [ZDI]; omega)) only [*,lenV,G44,Za,Zb,Zc,Zd,Ze,Zf,Zg,Zh,Zi,Zj,Zk,Zl,Zm,Zn,Zo,Ja,Jb,Jc,J6,Jd,Je,J7,J8,Jf,Jg,Jh,Ji,Jj,Jk,J9,Jl,Jm,wr,Jn,JA,JB,Jo,Jp,Jq,Jr,Js,Jt,Ju,Jv,Jw,Jx,Jy,Jz,J0,J1,J2,J3,J4,J5,reduceCtorEq,JC,JD,JE,JF,JG,JH,JI,JJ]) | ((with_reducible (first | apply Ok.br | apply Ok.gd | apply Ok.ld)) <;> (intro g; (try simp only [ZGS] at g); try (exfalso; omega)))))
      exact Turn.next (s.n - (i + 1)) (by omega) ⟨rfl, i + 1, F5, rfl, by omega, rfl, rfl, hend.out.1, hend.out.2.1, hend.out.2.2.1, hend.out.2.2.2, hF5l, hF5c'.out⟩
    · have hlt' : ¬ (i : Int) < (s.n : Int) := by omega
      have hin : i = s.n := by omega
      have hr2 : Hid (RdAt G (H.length + 1) (.sl (.at H.length 0 0) n n 1) (storeE s) (some [])) := ⟨by rw [hin, Nat.sub_self, tailE] at hrd; exact hrd⟩
      have hk2 := Hid.mk hkG
      have hcs2 : Hid (∀ j, j < s.n -> full[j * 5]? = some (.str (s.txt j)) /\ ∀ k, k < 4 -> full[j * 5 + 1 + k]? = some (.int .i64 (s.mrk j k))) := ⟨by rw [<- hin]; exact hcs⟩
      clear hrd hkG hcs hin
      (repeat' (first | (simp -implicitDefEqProofs (maxSteps := 1000000) (disch := first | assumption | omega | (simp only [ZDI]; omega)) only [*,lenV,G44,Za,Zb,Zc,Zd,Ze,Zf,Zg,Zh,Zi,Zj,Zk,Zl,Zm,Zn,Zo,Ja,Jb,Jc,J6,Jd,Je,J7,J8,Jf,Jg,Jh,Ji,Jj,Jk,J9,Jl,Jm,wr,Jn,JA,JB,Jo,Jp,Jq,Jr,Js,Jt,Ju,Jv,Jw,Jx,Jy,Jz,J0,J1,J2,J3,J4,J5,reduceCtorEq,JC,JD,JE,JF,JG,JH,JI,JJ]) | ((with_reducible (first | apply Ok.br | apply Ok.gd | apply Ok.ld)) <;> (intro g; (try simp only [ZGS] at g); try (exfalso; omega)))))
      exact Turn.exit ⟨rfl, rfl, full, rfl, hr2.out, hk2.out, hp, hc, hfl, hcs2.out⟩
  · intro y ⟨e', l', G⟩ hW ⟨hy, full, kl, hrd, hkG, hp, hc, hfl, hcs⟩
    dsimp only at hW kl hrd hkG hp hc
    subst l' hy
    rw [hW.spread]
    clear hW e1 e2 e3 eN e4 eBad q1 q2
    simp only [spread_t,spread_f,spread_n,Nat.zero_add,Nat.reduceAdd]
    have eE := rdEnd_at hrd
    have hq := Hid.mk (hQ'.out (.tup [.ptr (G3.length + 1) 0 0, .int .i64 0], G) ⟨G3.length + 1, G3.length, rfl, ⟨cp, zz, full, hp, hc, ⟨hfl, hcs⟩, by omega, ⟨hok'.out, hcp, hz5⟩⟩, ⟨by show H.length <= G.length; have := hkG.1; have := hK3'.out.1; omega, fun i hi _ => by
      show G[i]? = H[i]?
      rw [hkG.2 i (by omega) (by simp; omega)]; exact hK3'.out.2 i hi (by simp)⟩, by omega, by omega⟩)
    clear hQ' hrd hkG hp hc hcs
    (repeat' (first | (simp -implicitDefEqProofs (maxSteps := 1000000) (disch := first | assumption | omega | (simp only [ZDI]; omega)) only [*,G44,Za,Zb,Zc,Zd,Ze,Zf,Zg,Zh,Zi,Zj,Zk,Zl,Zm,Zn,Zo,Ja,Jb,Jc,J6,Jd,Je,J7,J8,Jf,Jg,Jh,Ji,Jj,Jk,J9,Jl,Jm,wr,Jn,JA,JB,Jo,Jp,Jq,Jr,Js,Jt,Ju,Jv,Jw,Jx,Jy,Jz,J0,J1,J2,J3,J4,J5,reduceCtorEq,JC,JD,JE,JF,JG,JH,JI,JJ]) | ((with_reducible (first | apply Ok.br | apply Ok.gd | apply Ok.ld)) <;> (intro g; (try simp only [ZGS] at g); try (exfalso; omega)))))
    exact hq.out
end Go.Ev
set_option maxRecDepth 100000
namespace Go.Ev
open Go.Ev renaming exPure -> Ja, ofValue -> Jb, cellsV -> Jc, load -> Jd, store -> Je, binOp -> Jf, intOp -> Jg, rdV -> Jh, vsame -> Ji, vsames -> Jj, makeSliceV -> Jk, resV -> Jl, isCell -> Jm, nilCheckV -> Jn, allV -> Jo, builtinV -> Jp, lenV -> Jq, indexAddrV -> Jr, unOp -> Js, minmaxV -> Jt, minmax -> Ju, sliceV -> Jv, asInt -> Jw, appendV -> Jx, forkB -> Jy, roY -> Jz, rwB -> J0, copyV -> J1, clearV -> J2, convV -> J3, sliceCells -> J4, shift -> J5
open Bool renaming true -> BT, false -> BF
open Nat renaming reduceEqDiff -> J6, reduceLT -> J7, reduceAdd -> J8, reduceBEq -> J9, reduceSub -> JA, reduceMul -> JB, reduceLeDiff -> JJ
open Int renaming reduceLT -> JC, reduceLE -> JD, reduceAdd -> JE, reduceSub -> JF, reduceNeg -> JG, reduceToNat -> JH, reduceEq -> JI
open Go.Proofs
theorem textB_empty : textB ⟨#[]⟩ = true := textB_0 rfl
theorem good_empty (a b : Int) : (emptySto a b).Good := ⟨fun _ => textB_empty, fun _ _ => ⟨Int.le_refl _, by show (0 : Int) <= _; omega⟩⟩
theorem Sto.Good.apply {s : Sto} (h : s.Good) (o c q f t : Int) (l : List ByteArray) : (s.apply o c q f t l).1.Good := by
  unfold Sto.apply
  by_cases hm : mayP o c q f t l
  · rw [if_neg (by simpa using hm)]
    split
    · exact h
    · split
      · exact h
      · split
        · exact ⟨h.text, h.mark⟩
        · rename_i h0 h5
          have hq : (1 <= q /\ q <= 1099511627776) /\ (o = 2 -> (l.any fun s => !textB s) = false) := by
            rcases hm with ⟨h6, _⟩ | ⟨_, _, h6, _, h7⟩
            · exfalso; omega
            · refine ⟨h6, fun e => ?_⟩
              rcases h7 with ⟨h8, _⟩ | ⟨_, _, h8⟩
              · exact absurd e h8
              · exact h8
          refine ⟨fun i => ?_, fun i k => ?_⟩
          · show textB (if _ then _ else _) = true
            split
            · split
              · rename_i h8
                have h9 := hq.2 h8
                rw [List.any_eq_false] at h9
                rw [List.getD_eq_getElem?_getD]
                cases hx : l[(s.a + i - f).toNat]? with
                | none => exact textB_empty
                | some x =>
                  have := h9 x (List.mem_of_getElem? hx)
                  simpa using this
              · exact textB_empty
            · exact h.text i
          · show 0 <= (if _ then q else s.mrk i k) /\ (if _ then q else s.mrk i k) <= 1099511627776
            split
            · omega
            · exact h.mark i k
  · rw [if_pos (by simpa using hm)]; exact h
set_option maxHeartbeats 4000000 in
theorem play_good {a b : Int} (h0 : 0 <= a) (hab : a < b) (hb : b <= 256) {h : Heap} {v : V} {L : List Cm} (hL : CmdsAt h v L) (most : Int) :
    Ev.Ok (D X (.fn 27 []) [.agg [.int .i64 a, .int .i64 b], v, .int .i64 most] h) fun y => ∃ H ps cb pr T M mb s, y = (.tup [.ptr ps 0 0, .ptr pr 0 0, .bool true], H) /\ Both h H ps cb pr T M mb s.n s /\ s.a = a /\ s.b = b /\ s.Good := by
  refine Ok.aim fun Q hQ => ?_
  have hQ' := Hid.mk hQ
  clear hQ
  obtain ⟨⟨v1, h1⟩, en, h1', e1, hk1, hl1, hst⟩ := new_store h0 hab hb h
  simp only [Prod.mk.injEq] at e1
  obtain ⟨rfl, rfl⟩ := e1
  obtain ⟨⟨v2, h2⟩, er, h2', e2, hk2, hrf⟩ := refNew_at h0 hab hb h1
  simp only [Prod.mk.injEq] at e2
  obtain ⟨rfl, rfl⟩ := e2
  have hn : (emptySto a b).n = (b - a).toNat := rfl
  have hge : ∀ j ∈ refBlocks h1.length (h1.length + 1) (h1.length + 3) (mbOf h1.length) (b - a).toNat, h1.length <= j := by
    intro j hj
    rcases mem_refBlocks.1 hj with rfl | rfl | rfl | ⟨i, hi, rfl⟩
    · omega
    · omega
    · omega
    · exact mbOf_ge _ _
  have hB : Both h h2 (h.length + 1) h.length h1.length (h1.length + 1) (h1.length + 3) (mbOf h1.length) (b - a).toNat (emptySto a b) :=
    ⟨hst.keeps hk2 (by simp) (by simp), hrf, hk1.trans hk2, rfl, ⟨fun hm => by have := hge _ hm; omega, fun hm => by have := hge _ hm; omega⟩, ⟨by omega, by omega, fun j hj => by have := hge _ hj; omega⟩⟩
  obtain ⟨ps, hps⟩ : ∃ ps, ps = h.length + 1 := ⟨_, rfl⟩
  rw [<- hps] at en hB
  clear hst hk1 hk2 hrf hge hl1 hn hps
  generalize h1.length = pr at er hB
  generalize pr + 1 = T at hB
  generalize pr + 3 = M at hB
  generalize mbOf pr = mb at hB
  generalize h.length = cb at hB
  have hB' := Hid.mk hB
  clear hB
  obtain ⟨sa, cap, z, rfl, hll, hcs, hcl⟩ := hL
  have hcs' := Hid.mk hcs
  have hcl' := Hid.mk hcl
  clear hcs hcl
  (refine Ok.body body27 pin27 ?_; simp only [c27,Try.f27,Option.getD_some,nslot27,List.append_nil,List.map,List.replicate,List.length_cons,List.length_nil,Nat.reduceAdd,Nat.reduceSub,List.cons_append,List.nil_append])
  (repeat' (first | (simp -implicitDefEqProofs (maxSteps := 1000000) (disch := first | assumption | omega | (simp only [ZDI]; omega)) only [*,lenV,G27,Za,Zb,Zc,Zd,Ze,Zf,Zg,Zh,Zi,Zj,Zk,Zl,Zm,Zn,Zo,Ja,Jb,Jc,J6,Jd,Je,J7,J8,Jf,Jg,Jh,Ji,Jj,Jk,J9,Jl,Jm,wr,Jn,JA,JB,Jo,Jp,Jq,Jr,Js,Jt,Ju,Jv,Jw,Jx,Jy,Jz,J0,J1,J2,J3,J4,J5,reduceCtorEq,JC,JD,JE,JF,JG,JH,JI,JJ]) | ((with_reducible (first | apply Ok.br | apply Ok.gd | apply Ok.ld)) <;> (intro g; (try simp only [ZGS] at g); try (exfalso; omega)))))
  refine Ok.loop [BF, BF, BF, BF, BF, BF, BT, BT, BT, BF, BF, BF, BT, BT, BT, BT, BT, BT, BF, BF, BF, BF, BF, BF, BF, BF, BF, BF, BF, BT, BT, BT, BT, BT, BT, BT, BT, BT, BT, BT, BT, BT, BT, BT, BT, BT, BT, BT, BT, BT, BT, BT, BT, BT, BT, BT, BT, BT, BT, BT, BT, BT, BT, BT, BF, BF] (fun n s2 => ∃ (i : Nat) (s : Sto), n = L.length - i /\ i <= L.length /\ tv s2.e 29 = .v (.int .i64 i) /\ (∃ x1 x2 x3, s2.l = [(1, [.int .i64 a, .int .i64 b]), x1, x2, x3]) /\ Both h s2.h ps cb pr T M mb (b - a).toNat s /\ s.a = a /\ s.b = b /\ s.Good)
    (fun x s2 => x = .exit 0 /\ ∃ s : Sto, (∃ x1 x2 x3, s2.l = [(1, [.int .i64 a, .int .i64 b]), x1, x2, x3]) /\ Both h s2.h ps cb pr T M mb (b - a).toNat s /\ s.a = a /\ s.b = b /\ s.Good) (L.length - 0) ⟨0, emptySto a b, rfl, by omega, rfl, ⟨_, _, _, rfl⟩, hB'.out, rfl, rfl, good_empty a b⟩ ?_ ?_
  · intro n ⟨e', l', H⟩ hW ⟨i, s, hn, hi, h8, ⟨⟨k1, y1⟩, ⟨k2, y2⟩, ⟨k3, y3⟩, h3⟩, hBo, hsa, hsb, hgd⟩
    dsimp only at hW h8 h3 hBo
    subst l'
    rw [hW.spread]
    simp only [spread_t,spread_f,spread_n,Nat.zero_add,Nat.reduceAdd,h8]
    have hsa' := Hid.mk hsa
    have hsb' := Hid.mk hsb
    have hgd' := Hid.mk hgd
    clear hsa hsb hgd
    by_cases hlt : i < L.length
    · have hlt' : (i : Int) < (L.length : Int) := by omega
      rcases hcl'.out with rfl | ⟨b', g', o', rw', full', rfl, hbb, hfull⟩
      · simp at hlt
      · obtain ⟨x, hx⟩ : ∃ x, L[i]? = some x := ⟨_, List.getElem?_eq_getElem hlt⟩
        obtain ⟨hf1, hf2⟩ := hfull i x hx
        have hvs := hcs'.out x (List.mem_of_getElem? hx)
        clear hfull
        have hbb2 := hBo.kp.cells hbb (by simp)
        have hlight := light_at (o := x.o) (c := x.c) (q := x.q) (f := x.f) (t := x.t) (hvs.keeps hBo.kp (fun _ => away_nil _))
        obtain ⟨k, dv1, H1, dv2, H2, e, q1, q2, q3, hB2⟩ := both_step (o := x.o) (c := x.c) (q := x.q) (f := x.f) (t := x.t) hBo hvs
        have hsp := apply_span s x.o x.c x.q x.f x.t x.l
        have hBo' := Hid.mk hBo
        have hB2' := Hid.mk hB2
        have hsp' := Hid.mk hsp
        generalize lightB 0 0 x.l = lb at hlight
        obtain ⟨sa2, cap2, z2, hxv, _⟩ := hvs
        simp only [cmdV] at hf1 q1 q2 hlight
        clear hBo hB2 hsp hbb
        generalize x.v = xv at hf1 q1 q2 hlight hxv
        subst hxv
        (repeat' (first | (simp -implicitDefEqProofs (maxSteps := 1000000) (disch := first | assumption | omega | (simp only [ZDI]; omega)) only [*,lenV,eq_self,Int.ofNat_lt,G27,Za,Zb,Zc,Zd,Ze,Zf,Zg,Zh,Zi,Zj,Zk,Zl,Zm,Zn,Zo,Ja,Jb,Jc,J6,Jd,Je,J7,J8,Jf,Jg,Jh,Ji,Jj,Jk,J9,Jl,Jm,wr,Jn,JA,JB,Jo,Jp,Jq,Jr,Js,Jt,Ju,Jv,Jw,Jx,Jy,Jz,J0,J1,J2,J3,J4,J5,reduceCtorEq,JC,JD,JE,JF,JG,JH,JI,JJ]) | ((with_reducible (first | apply Ok.br | apply Ok.gd | apply Ok.ld)) <;> (intro g; (try simp only [ZGS] at g); try (exfalso; omega)))))
        all_goals first
          | exact Turn.exit ⟨rfl, rfl, s, ⟨_, _, _, rfl⟩, hBo'.out, hsa'.out, hsb'.out, hgd'.out⟩
          | exact Turn.next (L.length - (i + 1)) (by omega) ⟨rfl, i + 1, _, rfl, by omega, rfl, ⟨_, _, _, rfl⟩, hB2'.out, hsp'.out.1.trans hsa'.out, hsp'.out.2.trans hsb'.out, hgd'.out.apply _ _ _ _ _ _⟩
    · have hlt' : ¬ (i : Int) < (L.length : Int) := by omega
      have hBo' := Hid.mk hBo
      clear hBo
      (repeat' (first | (simp -implicitDefEqProofs (maxSteps := 1000000) (disch := first | assumption | omega | (simp only [ZDI]; omega)) only [*,G27,Za,Zb,Zc,Zd,Ze,Zf,Zg,Zh,Zi,Zj,Zk,Zl,Zm,Zn,Zo,Ja,Jb,Jc,J6,Jd,Je,J7,J8,Jf,Jg,Jh,Ji,Jj,Jk,J9,Jl,Jm,wr,Jn,JA,JB,Jo,Jp,Jq,Jr,Js,Jt,Ju,Jv,Jw,Jx,Jy,Jz,J0,J1,J2,J3,J4,J5,reduceCtorEq,JC,JD,JE,JF,JG,JH,JI,JJ]) | ((with_reducible (first | apply Ok.br | apply Ok.gd | apply Ok.ld)) <;> (intro g; (try simp only [ZGS] at g); try (exfalso; omega)))))
      exact Turn.exit ⟨rfl, rfl, s, ⟨_, _, _, rfl⟩, hBo'.out, hsa'.out, hsb'.out, hgd'.out⟩
  · intro x ⟨e', l', H⟩ hW ⟨hx, s, ⟨x1, x2, x3, h3⟩, hBo, hsa, hsb, hgd⟩
    dsimp only at hW h3 hBo
    subst l' hx
    rw [hW.spread]
    clear hW
    simp only [spread_t,spread_f,spread_n,Nat.zero_add,Nat.reduceAdd]
    have hBo' := Hid.mk hBo
    have hsa' := Hid.mk hsa
    have hsb' := Hid.mk hsb
    have hgd' := Hid.mk hgd
    clear hsa hsb hBo hgd
    (repeat' (first | (simp -implicitDefEqProofs (maxSteps := 1000000) (disch := first | assumption | omega | (simp only [ZDI]; omega)) only [*,G27,Za,Zb,Zc,Zd,Ze,Zf,Zg,Zh,Zi,Zj,Zk,Zl,Zm,Zn,Zo,Ja,Jb,Jc,J6,Jd,Je,J7,J8,Jf,Jg,Jh,Ji,Jj,Jk,J9,Jl,Jm,wr,Jn,JA,JB,Jo,Jp,Jq,Jr,Js,Jt,Ju,Jv,Jw,Jx,Jy,Jz,J0,J1,J2,J3,J4,J5,reduceCtorEq,JC,JD,JE,JF,JG,JH,JI,JJ]) | ((with_reducible (first | apply Ok.br | apply Ok.gd | apply Ok.ld)) <;> (intro g; (try simp only [ZGS] at g); try (exfalso; omega)))))
    exact hQ'.out _ ⟨_, ps, cb, pr, T, M, mb, s, rfl, by rw [hBo'.out.hn]; exact hBo'.out, hsa'.out, hsb'.out, hgd'.out⟩
end Go.Ev
set_option maxRecDepth 100000
namespace Go.Ev
open Go.Proofs
theorem fits_cmds {h : Heap} {d : Nat} {cs : List V} (hf : Fits X.ty h (d + 4) 48 cs) : ∃ v L, cs = [v] /\ CmdsAt h v L := by
  unfold Fits at hf
  rw [ty48] at hf
  have hmax : maxLen = 9223372036854775807 := by decide
  rw [hmax] at hf
  rcases hf with rfl | rfl | ⟨b, len, cap, full, rfl, h1, h2, h3, h4, h5, h6⟩
  · exact ⟨_, [], rfl, .nil, 0, 0, rfl, by decide, by simp, .inl rfl⟩
  · exact ⟨_, [], rfl, .any, 0, 1, rfl, by decide, by simp, .inl rfl⟩
  · have hsz : (X.ty 24).size = 6 := by rw [ty24]
    rw [hsz] at h5 h6
    have hx : ∀ i, ∃ x : Cm, i < cap -> (full.drop (i * 6)).take 6 = cmdV x.o x.c x.q x.f x.t x.v /\ StrsAt h x.v x.l := by
      intro i
      by_cases hi : i < cap
      · obtain ⟨o, c, q, f, t, v, l, e, _, _, _, _, _, hs⟩ := fits_cmd (h6 i hi)
        exact ⟨⟨o, c, q, f, t, v, l⟩, fun _ => ⟨e, hs.at⟩⟩
      · exact ⟨⟨0, 0, 0, 0, 0, .nilp, []⟩, fun h' => absurd h' hi⟩
    obtain ⟨g, hg⟩ := Classical.axiomOfChoice hx
    refine ⟨_, (List.range len).map g, rfl, .at b 0 0, cap, 0, by simp, by rw [List.length_map, List.length_range]; omega, ?_, .inr ⟨b, 0, 0, false, full, rfl, ?_, ?_⟩⟩
    · intro x hm
      obtain ⟨i, hi, rfl⟩ := List.mem_map.1 hm
      have := List.mem_range.1 hi
      exact (hg i (by omega)).2
    · unfold hcells; rw [h4]; exact grd_t rfl _
    · intro i x hi
      rw [List.getElem?_map] at hi
      cases hr : (List.range len)[i]? with
      | none => rw [hr] at hi; cases hi
      | some j =>
        rw [hr] at hi
        have hj : i < len := by have := (List.getElem?_eq_some_iff.1 hr).1; simpa using this
        have : j = i := by rw [List.getElem?_range hj] at hr; exact (Option.some.inj hr).symm
        subst this
        simp only [Option.map_some,Option.some.injEq] at hi
        subst hi
        rw [Nat.zero_add]
        refine ⟨(hg j (by omega)).1, ?_⟩
        rw [h5]
        have : (j + 1) * 6 <= cap * 6 := Nat.mul_le_mul_right 6 (by omega)
        omega
end Go.Ev
set_option maxRecDepth 100000
namespace Go.Ev
open Go.Ev renaming exPure -> Ja, ofValue -> Jb, cellsV -> Jc, load -> Jd, store -> Je, binOp -> Jf, intOp -> Jg, rdV -> Jh, vsame -> Ji, vsames -> Jj, makeSliceV -> Jk, resV -> Jl, isCell -> Jm, nilCheckV -> Jn, allV -> Jo, builtinV -> Jp, lenV -> Jq, indexAddrV -> Jr, unOp -> Js, minmaxV -> Jt, minmax -> Ju, sliceV -> Jv, asInt -> Jw, appendV -> Jx, forkB -> Jy, roY -> Jz, rwB -> J0, copyV -> J1, clearV -> J2, convV -> J3, sliceCells -> J4, shift -> J5
open Bool renaming true -> BT, false -> BF
open Nat renaming reduceEqDiff -> J6, reduceLT -> J7, reduceAdd -> J8, reduceBEq -> J9, reduceSub -> JA, reduceMul -> JB, reduceLeDiff -> JJ
open Int renaming reduceLT -> JC, reduceLE -> JD, reduceAdd -> JE, reduceSub -> JF, reduceNeg -> JG, reduceToNat -> JH, reduceEq -> JI
open Go.Proofs
set_option maxHeartbeats 16000000 in
theorem storeCodes_at (x1 x2 : Int) {h : Heap} {v : V} {L : List Cm} (hL : CmdsAt h v L) : Ev.Ok (D X (.fn 14 []) [.agg [.int .i64 x1, .int .i64 x2], v] h) fun r => r.1 = .bool true := by
  refine Ok.aim fun Q hQ => ?_
  have hQ' := Hid.mk hQ
  clear hQ
  obtain ⟨a, b, es, ha, hab, hb, _⟩ := small_at x1 x2 h
  obtain ⟨y, ep, H, ps, cb, pr, T, M, mb, s, hy, hB, hsa, hsb, hgd⟩ := play_good ha hab hb hL 30
  subst hy
  have hok : s.Ok := ⟨by omega, by omega, by omega⟩
  obtain ⟨⟨w1, H1⟩, e1, b1, g1, z1, hw1, hz1, hc1, hb1, hk1⟩ := encode_at hB.st hgd
  dsimp only at hw1 hc1 hk1
  subst hw1
  obtain ⟨⟨w2, H2⟩, e2, p2, c2, hw2, hst2, hk2, hp2, hcl2⟩ := decode_at (n := (storeE s).length) (cap := (storeE s).length) (z := z1) hc1 rfl hok hgd
  dsimp only at hw2 hst2 hk2
  subst hw2
  have hc12 := hk2.cells hc1 (by simp)
  have hk12 : Keeps [] H H2 := ⟨Nat.le_trans hk1.1 hk2.1, fun i hi hF => by rw [hk2.2 i (by have := hk1.1; omega) hF]; exact hk1.2 i hi hF⟩
  have hrf2 := hB.rf.keeps hk12 (by simp)
  obtain ⟨⟨w3, H3⟩, e3, b3, g3, z3, hw3, hz3, hc3, hb3, hk3⟩ := code_at hrf2 hok hgd
  dsimp only at hw3 hc3 hk3
  subst hw3
  have hc13 := hk3.cells hc12 (by simp)
  have hk13 : Keeps [] H H3 := ⟨Nat.le_trans hk12.1 hk3.1, fun i hi hF => by rw [hk3.2 i (by have := hk12.1; omega) hF]; exact hk12.2 i hi hF⟩
  have st3 := hst2.keeps hk3 (by simp) (by simp)
  have s1 := same_at (hB.st.keeps hk13 (by simp) (by simp)) st3
  have s2 := alike_at st3 (hB.rf.keeps hk13 (by simp))
  have h5 := D_pin (X := X) (f := 16) (b := true) rfl
  have htb := toBytes_bV (storeE s)
  have hpos : ¬ (storeE s).length = 0 := by unfold storeE; simp only [List.length_append,List.length_cons]; omega
  obtain ⟨sa, cap, z, rfl, _⟩ := hL
  clear hB hst2 st3 hk1 hk2 hk12 hk13 hk3 hrf2 hsa hsb hgd hok hz1 hz3 hb1 hb3
  (refine Ok.body body14 pin14 ?_; simp only [c14,Try.f14,Option.getD_some,nslot14,List.append_nil,List.map,List.replicate,List.length_cons,List.length_nil,Nat.reduceAdd,Nat.reduceSub,List.cons_append,List.nil_append])
  (repeat' (first | (simp -implicitDefEqProofs (maxSteps := 1000000) (disch := first | assumption | omega | (simp only [ZDI]; omega)) only [*,lenV,bV_take,bV_len,List.drop_zero,Nat.zero_add,Nat.mul_one,strEq_refl,G14,Za,Zb,Zc,Zd,Ze,Zf,Zg,Zh,Zi,Zj,Zk,Zl,Zm,Zn,Zo,Ja,Jb,Jc,J6,Jd,Je,J7,J8,Jf,Jg,Jh,Ji,Jj,Jk,J9,Jl,Jm,wr,Jn,JA,JB,Jo,Jp,Jq,Jr,Js,Jt,Ju,Jv,Jw,Jx,Jy,Jz,J0,J1,J2,J3,J4,J5,reduceCtorEq,JC,JD,JE,JF,JG,JH,JI,JJ]) | ((with_reducible (first | apply Ok.br | apply Ok.gd | apply Ok.ld)) <;> (intro g; (try simp only [ZGS] at g); try (exfalso; omega)))))
  exact hQ'.out _ rfl
end Go.Ev
