/-
Texts of this claim, one behind the other.
-/
import Derived.Test.YtidlajmifppcnaaAf
set_option linter.unusedSimpArgs false
set_option linter.unusedVariables false
set_option maxRecDepth 100000
set_option maxRecDepth 100000
namespace Go.Ev
open Go.Ev renaming exPure -> Ja, ofValue -> Jb, cellsV -> Jc, load -> Jd, store -> Je, binOp -> Jf, intOp -> Jg, rdV -> Jh, vsame -> Ji, vsames -> Jj, makeSliceV -> Jk, resV -> Jl, isCell -> Jm, nilCheckV -> Jn, allV -> Jo, builtinV -> Jp, lenV -> Jq, indexAddrV -> Jr, unOp -> Js, minmaxV -> Jt, minmax -> Ju, sliceV -> Jv, asInt -> Jw, appendV -> Jx, forkB -> Jy, roY -> Jz, rwB -> J0, copyV -> J1, clearV -> J2, convV -> J3, sliceCells -> J4, shift -> J5
open Bool renaming true -> BT, false -> BF
open Nat renaming reduceEqDiff -> J6, reduceLT -> J7, reduceAdd -> J8, reduceBEq -> J9, reduceSub -> JA, reduceMul -> JB, reduceLeDiff -> JJ
open Int renaming reduceLT -> JC, reduceLE -> JD, reduceAdd -> JE, reduceSub -> JF, reduceNeg -> JG, reduceToNat -> JH, reduceEq -> JI
open Go.Proofs
def numF : Bool -> Nat -> List UInt8 -> Option (Nat × List UInt8)
  | _, _, [] => none
  | f, n, c :: r => if (f = true /\ c.toNat = 128) \/ 144115188075855872 <= n then none else if c.toNat < 128 then some (n * 128 + c.toNat % 128, r) else numF false (n * 128 + c.toNat % 128) r
def numD : Dec Nat := numF true 0
theorem shl7 {n : Nat} (h : n < 144115188075855872) : IntKind.u64.wrap ((n : Int) * 2 ^ min 7 IntKind.u64.bits) = ((n * 128 : Nat) : Int) := by
  have : (n : Int) * 2 ^ min 7 IntKind.u64.bits = ((n * 128 : Nat) : Int) := by
    show (n : Int) * 2 ^ 7 = _
    omega
  rw [this, wrapU (by omega)]
theorem shr57 (n : Nat) : (n : Int).fdiv (2 ^ min 57 IntKind.u64.bits) = ((n / 144115188075855872 : Nat) : Int) := by
  show (n : Int).fdiv (2 ^ 57) = _
  rw [Int.fdiv_eq_ediv_of_nonneg _ (by decide)]
  omega
theorem or7 {n c : Nat} (h : n < 144115188075855872) (hc : c < 128) : IntKind.u64.wrap ((BitVec.ofInt IntKind.u64.bits ((n * 128 : Nat) : Int) ||| BitVec.ofInt IntKind.u64.bits (c : Int)).toNat : Nat) = ((n * 128 + c : Nat) : Int) := by
  have e : (BitVec.ofInt IntKind.u64.bits ((n * 128 : Nat) : Int) ||| BitVec.ofInt IntKind.u64.bits (c : Int)).toNat = n * 128 + c := by
    show (BitVec.ofInt 64 ((n * 128 : Nat) : Int) ||| BitVec.ofInt 64 (c : Int)).toNat = _
    rw [BitVec.toNat_or, BitVec.ofInt_natCast, BitVec.ofInt_natCast, BitVec.toNat_ofNat, BitVec.toNat_ofNat, Nat.mod_eq_of_lt (by omega), Nat.mod_eq_of_lt (by omega), Nat.mul_comm n 128]
    exact (Nat.two_pow_add_eq_or_of_lt (i := 7) hc n).symm
  rw [e, wrapU (by omega)]
set_option maxHeartbeats 8000000 in
theorem rdNum_at {H : Heap} {p : Nat} {v : V} {bs : List UInt8} {st : Option (List UInt8)} (h : RdAt H p v bs st) : Ev.Ok (D X (.fn 91 []) [.ptr p 0 0] H) (Took numD 0 (fun n => .int .u64 (n : Nat)) p v bs st H) := by
  refine Ok.aim fun Q hQ => ?_
  have hQ' := Hid.mk hQ
  clear hQ
  (refine Ok.body body91 pin91 ?_; simp only [c91,Try.f91,Option.getD_some,nslot91,List.append_nil,List.map,List.replicate,List.length_cons,List.length_nil,Nat.reduceAdd,Nat.reduceSub,List.cons_append,List.nil_append])
  (repeat' (first | (simp -implicitDefEqProofs (maxSteps := 1000000) (disch := first | assumption | omega | (simp only [ZDI]; omega)) only [*,G91,Za,Zb,Zc,Zd,Ze,Zf,Zg,Zh,Zi,Zj,Zk,Zl,Zm,Zn,Zo,Ja,Jb,Jc,J6,Jd,Je,J7,J8,Jf,Jg,Jh,Ji,Jj,Jk,J9,Jl,Jm,wr,Jn,JA,JB,Jo,Jp,Jq,Jr,Js,Jt,Ju,Jv,Jw,Jx,Jy,Jz,J0,J1,J2,J3,J4,J5,reduceCtorEq,JC,JD,JE,JF,JG,JH,JI,JJ]) | ((with_reducible (first | apply Ok.br | apply Ok.gd | apply Ok.ld)) <;> (intro g; (try simp only [ZGS] at g); try (exfalso; omega)))))
  refine Ok.loop [BF, BF, BT, BT, BT, BT, BT, BT, BT, BT, BT, BT, BT, BT, BT, BT, BT, BT, BT, BT, BT, BT, BT, BT, BT, BT, BT, BT, BT, BT, BT, BT, BT] (fun k s2 => ∃ (st' : Option (List UInt8)) (n : Nat) (f : Bool), k = leftN st' /\ tv s2.e 3 = .v (.int .u64 (n : Nat)) /\ tv s2.e 4 = .v (.bool f) /\ s2.l = [] /\ RdAt s2.h p v bs st' /\ Keeps [p] H s2.h /\ st'.bind (numF f n) = st.bind numD)
    (fun y s2 => y = .ret /\ s2.l = [] /\ tv s2.e 2 = .v (.int .u64 ((((st.bind numD).map (·.1)).getD 0 : Nat) : Int)) /\ RdAt s2.h p v bs ((st.bind numD).map (·.2)) /\ Keeps [p] H s2.h)
    (leftN st) ⟨st, 0, true, rfl, rfl, rfl, rfl, h, .refl _ _, rfl⟩ ?_ ?_
  · intro k ⟨e', l', g⟩ hW ⟨st', n, f, hm, h3, h4, k2, hrd, hk, hnum⟩
    dsimp only at hW h3 h4 k2 hrd hk
    subst l'
    rw [hW.spread]
    simp only [spread_t,spread_f,spread_n,Nat.zero_add,Nat.reduceAdd,h3,h4]
    clear hW hQ' h
    obtain ⟨⟨vb, g1⟩, eB, hv, hrd1, hk1⟩ := rdByte_at hrd
    dsimp only at hv hrd1 hk1
    have eBad := rdBad_at hrd1
    have eFail := rdFail_at hrd1
    obtain ⟨f1, f2⟩ := hrd1.fail
    have hkf := Hid.mk (hk.trans (hk1.trans f2))
    have hkk := Hid.mk (hk.trans hk1)
    have hf1 := Hid.mk f1
    clear f1 f2 hk hk1 hrd
    cases st' with
    | none =>
      simp only [Option.bind_none,Option.map_none,Option.getD_none,Option.isNone_none] at hv hrd1 eBad eFail hnum
      subst hv
      have hn0 : Hid (st.bind numD = none) := ⟨hnum.symm⟩
      clear hrd1 hnum
      (repeat' (first | (simp -implicitDefEqProofs (maxSteps := 1000000) (disch := first | assumption | omega | (simp only [ZDI]; omega)) only [*,shr57,G91,Za,Zb,Zc,Zd,Ze,Zf,Zg,Zh,Zi,Zj,Zk,Zl,Zm,Zn,Zo,Ja,Jb,Jc,J6,Jd,Je,J7,J8,Jf,Jg,Jh,Ji,Jj,Jk,J9,Jl,Jm,wr,Jn,JA,JB,Jo,Jp,Jq,Jr,Js,Jt,Ju,Jv,Jw,Jx,Jy,Jz,J0,J1,J2,J3,J4,J5,reduceCtorEq,JC,JD,JE,JF,JG,JH,JI,JJ]) | ((with_reducible (first | apply Ok.br | apply Ok.gd | apply Ok.ld)) <;> (intro g; (try simp only [ZGS] at g); try (exfalso; omega)))))
      exact Turn.ret ⟨rfl, rfl, rfl, by rw [hn0.out]; rfl, by rw [hn0.out]; exact hf1.out, hkf.out⟩
    | some l =>
      cases l with
      | nil =>
        simp only [Option.bind_some,byteD,numF,Option.map_none,Option.getD_none,Option.isNone_none] at hv hrd1 eBad eFail hnum
        subst hv
        have hn0 : Hid (st.bind numD = none) := ⟨hnum.symm⟩
        clear hrd1 hnum
        (repeat' (first | (simp -implicitDefEqProofs (maxSteps := 1000000) (disch := first | assumption | omega | (simp only [ZDI]; omega)) only [*,shr57,G91,Za,Zb,Zc,Zd,Ze,Zf,Zg,Zh,Zi,Zj,Zk,Zl,Zm,Zn,Zo,Ja,Jb,Jc,J6,Jd,Je,J7,J8,Jf,Jg,Jh,Ji,Jj,Jk,J9,Jl,Jm,wr,Jn,JA,JB,Jo,Jp,Jq,Jr,Js,Jt,Ju,Jv,Jw,Jx,Jy,Jz,J0,J1,J2,J3,J4,J5,reduceCtorEq,JC,JD,JE,JF,JG,JH,JI,JJ]) | ((with_reducible (first | apply Ok.br | apply Ok.gd | apply Ok.ld)) <;> (intro g; (try simp only [ZGS] at g); try (exfalso; omega)))))
        exact Turn.ret ⟨rfl, rfl, rfl, by rw [hn0.out]; rfl, by rw [hn0.out]; exact hf1.out, hkf.out⟩
      | cons c r =>
        simp only [Option.bind_some,byteD,Option.map_some,Option.getD_some,Option.isNone_some] at hv hrd1 eBad eFail hnum
        subst hv
        have hrd1' := Hid.mk hrd1
        have hc256 : c.toNat < 256 := UInt8.toNat_lt c
        have h127 : IntKind.u8.wrap ((BitVec.ofInt IntKind.u8.bits ((c.toNat : Nat) : Int) &&& BitVec.ofInt IntKind.u8.bits 127).toNat : Nat) = ((c.toNat % 128 : Nat) : Int) := by rw [and127 (by omega)]; omega
        have hcv : IntKind.u64.wrap ((c.toNat % 128 : Nat) : Int) = ((c.toNat % 128 : Nat) : Int) := wrapU (by omega)
        rw [numF] at hnum
        clear hrd1
        have hleft : leftN (some (c :: r)) = leftN (some r) + 1 := rfl
        by_cases hb : (f = true /\ c.toNat = 128)
        · rw [if_pos (.inl hb)] at hnum
          have hn0 : Hid (st.bind numD = none) := ⟨hnum.symm⟩
          obtain ⟨rfl, hc⟩ := hb
          have hc' : ((c.toNat : Nat) : Int) = 128 := by omega
          clear hnum hc hcv h127
          (repeat' (first | (simp -implicitDefEqProofs (maxSteps := 1000000) (disch := first | assumption | omega | (simp only [ZDI]; omega)) only [*,shr57,G91,Za,Zb,Zc,Zd,Ze,Zf,Zg,Zh,Zi,Zj,Zk,Zl,Zm,Zn,Zo,Ja,Jb,Jc,J6,Jd,Je,J7,J8,Jf,Jg,Jh,Ji,Jj,Jk,J9,Jl,Jm,wr,Jn,JA,JB,Jo,Jp,Jq,Jr,Js,Jt,Ju,Jv,Jw,Jx,Jy,Jz,J0,J1,J2,J3,J4,J5,reduceCtorEq,JC,JD,JE,JF,JG,JH,JI,JJ]) | ((with_reducible (first | apply Ok.br | apply Ok.gd | apply Ok.ld)) <;> (intro g; (try simp only [ZGS] at g); try (exfalso; omega)))))
          exact Turn.ret ⟨rfl, rfl, rfl, by rw [hn0.out]; rfl, by rw [hn0.out]; exact hf1.out, hkf.out⟩
        · have hbc : f = false \/ (f = true /\ ¬ ((c.toNat : Nat) : Int) = 128) := by
            cases f with
            | false => exact .inl rfl
            | true => exact .inr ⟨rfl, fun e => hb ⟨rfl, by omega⟩⟩
          by_cases hn : 144115188075855872 <= n
          · rw [if_pos (.inr hn)] at hnum
            have hn0 : Hid (st.bind numD = none) := ⟨hnum.symm⟩
            have hn1 : (0 : Int) < ((n / 144115188075855872 : Nat) : Int) := by omega
            clear hnum hcv h127 hb
            rcases hbc with rfl | ⟨rfl, hc'⟩
            all_goals
              (repeat' (first | (simp -implicitDefEqProofs (maxSteps := 1000000) (disch := first | assumption | omega | (simp only [ZDI]; omega)) only [*,shr57,G91,Za,Zb,Zc,Zd,Ze,Zf,Zg,Zh,Zi,Zj,Zk,Zl,Zm,Zn,Zo,Ja,Jb,Jc,J6,Jd,Je,J7,J8,Jf,Jg,Jh,Ji,Jj,Jk,J9,Jl,Jm,wr,Jn,JA,JB,Jo,Jp,Jq,Jr,Js,Jt,Ju,Jv,Jw,Jx,Jy,Jz,J0,J1,J2,J3,J4,J5,reduceCtorEq,JC,JD,JE,JF,JG,JH,JI,JJ]) | ((with_reducible (first | apply Ok.br | apply Ok.gd | apply Ok.ld)) <;> (intro g; (try simp only [ZGS] at g); try (exfalso; omega)))))
              exact Turn.ret ⟨rfl, rfl, rfl, by rw [hn0.out]; rfl, by rw [hn0.out]; exact hf1.out, hkf.out⟩
          · rw [if_neg (by rintro (h | h); exact hb h; exact hn h)] at hnum
            have hn1 : ¬ (0 : Int) < ((n / 144115188075855872 : Nat) : Int) := by omega
            have h7 := shl7 (n := n) (by omega)
            have hor := or7 (n := n) (c := c.toNat % 128) (by omega) (by omega)
            by_cases hlt : c.toNat < 128
            · rw [if_pos hlt] at hnum
              have hn0 : Hid (st.bind numD = some (n * 128 + c.toNat % 128, r)) := ⟨hnum.symm⟩
              have hlt' : ((c.toNat : Nat) : Int) < 128 := by omega
              clear hnum hb hlt
              rcases hbc with rfl | ⟨rfl, hc'⟩
              all_goals
                (repeat' (first | (simp -implicitDefEqProofs (maxSteps := 1000000) (disch := first | assumption | omega | (simp only [ZDI]; omega)) only [*,shr57,G91,Za,Zb,Zc,Zd,Ze,Zf,Zg,Zh,Zi,Zj,Zk,Zl,Zm,Zn,Zo,Ja,Jb,Jc,J6,Jd,Je,J7,J8,Jf,Jg,Jh,Ji,Jj,Jk,J9,Jl,Jm,wr,Jn,JA,JB,Jo,Jp,Jq,Jr,Js,Jt,Ju,Jv,Jw,Jx,Jy,Jz,J0,J1,J2,J3,J4,J5,reduceCtorEq,JC,JD,JE,JF,JG,JH,JI,JJ]) | ((with_reducible (first | apply Ok.br | apply Ok.gd | apply Ok.ld)) <;> (intro g; (try simp only [ZGS] at g); try (exfalso; omega)))))
                exact Turn.ret ⟨rfl, rfl, rfl, by rw [hn0.out]; rfl, by rw [hn0.out]; exact hrd1'.out, hkk.out⟩
            · rw [if_neg hlt] at hnum
              have hn0 := Hid.mk hnum
              have hlt' : ¬ ((c.toNat : Nat) : Int) < 128 := by omega
              clear hnum hb hlt
              rcases hbc with rfl | ⟨rfl, hc'⟩
              all_goals
                (repeat' (first | (simp -implicitDefEqProofs (maxSteps := 1000000) (disch := first | assumption | omega | (simp only [ZDI]; omega)) only [*,shr57,G91,Za,Zb,Zc,Zd,Ze,Zf,Zg,Zh,Zi,Zj,Zk,Zl,Zm,Zn,Zo,Ja,Jb,Jc,J6,Jd,Je,J7,J8,Jf,Jg,Jh,Ji,Jj,Jk,J9,Jl,Jm,wr,Jn,JA,JB,Jo,Jp,Jq,Jr,Js,Jt,Ju,Jv,Jw,Jx,Jy,Jz,J0,J1,J2,J3,J4,J5,reduceCtorEq,JC,JD,JE,JF,JG,JH,JI,JJ]) | ((with_reducible (first | apply Ok.br | apply Ok.gd | apply Ok.ld)) <;> (intro g; (try simp only [ZGS] at g); try (exfalso; omega)))))
                exact Turn.next (leftN (some r)) (by omega) ⟨rfl, some r, n * 128 + c.toNat % 128, false, rfl, rfl, rfl, rfl, hrd1'.out, hkk.out, hn0.out⟩
  · intro y ⟨e', l', g⟩ hW ⟨hy, k2, h2, hrd, hk⟩
    dsimp only at hW h2 k2 hrd hk
    subst l' hy
    rw [hW.spread]
    clear hW
    simp only [spread_t,spread_f,spread_n,Nat.zero_add,Nat.reduceAdd,h2]
    have hq := Hid.mk (hQ'.out (.int .u64 ((((st.bind numD).map (·.1)).getD 0 : Nat) : Int), g) ⟨rfl, hrd, hk⟩)
    clear hQ' hrd hk h
    generalize ((st.bind numD).map (·.1)).getD 0 = m at hq
    (repeat' (first | (simp -implicitDefEqProofs (maxSteps := 1000000) (disch := first | assumption | omega | (simp only [ZDI]; omega)) only [*,G91,Za,Zb,Zc,Zd,Ze,Zf,Zg,Zh,Zi,Zj,Zk,Zl,Zm,Zn,Zo,Ja,Jb,Jc,J6,Jd,Je,J7,J8,Jf,Jg,Jh,Ji,Jj,Jk,J9,Jl,Jm,wr,Jn,JA,JB,Jo,Jp,Jq,Jr,Js,Jt,Ju,Jv,Jw,Jx,Jy,Jz,J0,J1,J2,J3,J4,J5,reduceCtorEq,JC,JD,JE,JF,JG,JH,JI,JJ]) | ((with_reducible (first | apply Ok.br | apply Ok.gd | apply Ok.ld)) <;> (intro g; (try simp only [ZGS] at g); try (exfalso; omega)))))
    exact hq.out
end Go.Ev
set_option maxRecDepth 100000
namespace Go.Ev
open Go.Ev renaming exPure -> Ja, ofValue -> Jb, cellsV -> Jc, load -> Jd, store -> Je, binOp -> Jf, intOp -> Jg, rdV -> Jh, vsame -> Ji, vsames -> Jj, makeSliceV -> Jk, resV -> Jl, isCell -> Jm, nilCheckV -> Jn, allV -> Jo, builtinV -> Jp, lenV -> Jq, indexAddrV -> Jr, unOp -> Js, minmaxV -> Jt, minmax -> Ju, sliceV -> Jv, asInt -> Jw, appendV -> Jx, forkB -> Jy, roY -> Jz, rwB -> J0, copyV -> J1, clearV -> J2, convV -> J3, sliceCells -> J4, shift -> J5
open Bool renaming true -> BT, false -> BF
open Nat renaming reduceEqDiff -> J6, reduceLT -> J7, reduceAdd -> J8, reduceBEq -> J9, reduceSub -> JA, reduceMul -> JB, reduceLeDiff -> JJ
open Int renaming reduceLT -> JC, reduceLE -> JD, reduceAdd -> JE, reduceSub -> JF, reduceNeg -> JG, reduceToNat -> JH, reduceEq -> JI
open Go.Proofs
def intD : Dec Int := fun l => (byteD l).bind fun x => (numD x.2).bind fun y => if 1 < x.1.toNat \/ 9223372036854775808 <= y.1 then none else some (if x.1.toNat = 1 then -(y.1 : Int) - 1 else y.1, y.2)
def boolD : Dec Bool := fun l => (byteD l).bind fun x => if 1 < x.1.toNat then none else some (decide (x.1.toNat = 1), x.2)
def textD : Dec ByteArray := fun l => (numD l).bind fun x => if 1048576 < x.1 \/ x.2.length < x.1 then none else some (⟨(x.2.take x.1).toArray⟩, x.2.drop x.1)
theorem notI {n : Nat} (h : n < 9223372036854775808) : IntKind.i64.wrap ((BitVec.ofInt IntKind.i64.bits (if IntKind.i64.signed = true then -1 else IntKind.i64.max) ^^^ BitVec.ofInt IntKind.i64.bits (n : Int)).toNat : Nat) = -(n : Int) - 1 := by
  have e1 : BitVec.ofInt IntKind.i64.bits (if IntKind.i64.signed = true then -1 else IntKind.i64.max) = BitVec.allOnes 64 := by
    show BitVec.ofInt 64 (-1) = BitVec.allOnes 64
    decide
  have e3 : (BitVec.ofInt IntKind.i64.bits (if IntKind.i64.signed = true then -1 else IntKind.i64.max) ^^^ BitVec.ofInt IntKind.i64.bits (n : Int)).toNat = 18446744073709551615 - n := by
    rw [e1]
    show (BitVec.allOnes 64 ^^^ BitVec.ofInt 64 (n : Int)).toNat = _
    rw [BitVec.allOnes_xor, BitVec.toNat_not, BitVec.ofInt_natCast, BitVec.toNat_ofNat]
    omega
  rw [e3]
  unfold IntKind.wrap
  simp [IntKind.bits, IntKind.signed]
  omega
set_option maxHeartbeats 8000000 in
theorem rdInt_at {H : Heap} {p : Nat} {v : V} {bs : List UInt8} {st : Option (List UInt8)} (h : RdAt H p v bs st) : Ev.Ok (D X (.fn 68 []) [.ptr p 0 0] H) (Took intD 0 (fun n => .int .i64 n) p v bs st H) := by
  refine Ok.aim fun Q hQ => ?_
  have hQ' := Hid.mk hQ
  clear hQ
  obtain ⟨⟨vb, g1⟩, eB, hv, hrd1, hk1⟩ := rdByte_at h
  dsimp only at hv hrd1 hk1
  obtain ⟨⟨vn, g2⟩, eN, hvn, hrd2, hk2⟩ := rdNum_at hrd1
  dsimp only at hvn hrd2 hk2
  have eBad := rdBad_at hrd2
  have eFail := rdFail_at hrd2
  obtain ⟨f1, f2⟩ := hrd2.fail
  have hI : st.bind intD = (st.bind byteD).bind fun x => (numD x.2).bind fun y => if 1 < x.1.toNat \/ 9223372036854775808 <= y.1 then none else some (if x.1.toNat = 1 then -(y.1 : Int) - 1 else y.1, y.2) := by cases st <;> rfl
  have hbad : st.bind intD = none -> Hid (Q (.int .i64 0, g2.set p (.cells 0 true [v, .int .i64 bs.length, .bool true]))) := fun e => ⟨hQ'.out _ ⟨by rw [e]; rfl, by rw [e]; exact f1, (hk1.trans hk2).trans f2⟩⟩
  have hgood : ∀ n r, st.bind intD = some (n, r) -> RdAt g2 p v bs (some r) -> Hid (Q (.int .i64 n, g2)) := fun n r e e2 => ⟨hQ'.out _ ⟨by rw [e]; rfl, by rw [e]; exact e2, hk1.trans hk2⟩⟩
  clear hQ' hrd1 hk1 hk2 f1 f2
  cases hx : st.bind byteD with
  | none =>
    rw [hx] at hI
    simp only [hx,Option.map_none,Option.bind_none,Option.getD_none,Option.isNone_none] at hv hvn hrd2 eBad
    subst hv hvn
    have hq := hbad hI
    clear hbad hgood hI hrd2 hx h
    (refine Ok.body body68 pin68 ?_; simp only [c68,Try.f68,Option.getD_some,nslot68,List.append_nil,List.map,List.replicate,List.length_cons,List.length_nil,Nat.reduceAdd,Nat.reduceSub,List.cons_append,List.nil_append])
    (repeat' (first | (simp -implicitDefEqProofs (maxSteps := 1000000) (disch := first | assumption | omega | (simp only [ZDI]; omega)) only [*,G68,Za,Zb,Zc,Zd,Ze,Zf,Zg,Zh,Zi,Zj,Zk,Zl,Zm,Zn,Zo,Ja,Jb,Jc,J6,Jd,Je,J7,J8,Jf,Jg,Jh,Ji,Jj,Jk,J9,Jl,Jm,wr,Jn,JA,JB,Jo,Jp,Jq,Jr,Js,Jt,Ju,Jv,Jw,Jx,Jy,Jz,J0,J1,J2,J3,J4,J5,reduceCtorEq,JC,JD,JE,JF,JG,JH,JI,JJ]) | ((with_reducible (first | apply Ok.br | apply Ok.gd | apply Ok.ld)) <;> (intro g; (try simp only [ZGS] at g); try (exfalso; omega)))))
    exact hq.out
  | some x =>
    obtain ⟨c, r⟩ := x
    simp only [hx,Option.bind_some] at hI
    simp only [hx,Option.map_some,Option.bind_some,Option.getD_some] at hv hvn hrd2 eBad
    subst hv
    cases hy : numD r with
    | none =>
      simp only [hy,Option.bind_none,Option.map_none,Option.getD_none,Option.isNone_none] at hI hvn hrd2 eBad
      subst hvn
      have hq := hbad hI
      clear hbad hgood hI hrd2 hx h hy
      (refine Ok.body body68 pin68 ?_; simp only [c68,Try.f68,Option.getD_some,nslot68,List.append_nil,List.map,List.replicate,List.length_cons,List.length_nil,Nat.reduceAdd,Nat.reduceSub,List.cons_append,List.nil_append])
      (repeat' (first | (simp -implicitDefEqProofs (maxSteps := 1000000) (disch := first | assumption | omega | (simp only [ZDI]; omega)) only [*,G68,Za,Zb,Zc,Zd,Ze,Zf,Zg,Zh,Zi,Zj,Zk,Zl,Zm,Zn,Zo,Ja,Jb,Jc,J6,Jd,Je,J7,J8,Jf,Jg,Jh,Ji,Jj,Jk,J9,Jl,Jm,wr,Jn,JA,JB,Jo,Jp,Jq,Jr,Js,Jt,Ju,Jv,Jw,Jx,Jy,Jz,J0,J1,J2,J3,J4,J5,reduceCtorEq,JC,JD,JE,JF,JG,JH,JI,JJ]) | ((with_reducible (first | apply Ok.br | apply Ok.gd | apply Ok.ld)) <;> (intro g; (try simp only [ZGS] at g); try (exfalso; omega)))))
      exact hq.out
    | some y =>
      obtain ⟨n, r'⟩ := y
      simp only [hy,Option.bind_some,Option.map_some,Option.getD_some,Option.isNone_some] at hI hvn hrd2 eBad
      subst hvn
      by_cases h1 : 1 < c.toNat
      · have h1' : (1 : Int) < ((c.toNat : Nat) : Int) := by omega
        rw [if_pos (.inl h1)] at hI
        have hq := hbad hI
        clear hbad hgood hI hrd2 hx h hy h1
        (refine Ok.body body68 pin68 ?_; simp only [c68,Try.f68,Option.getD_some,nslot68,List.append_nil,List.map,List.replicate,List.length_cons,List.length_nil,Nat.reduceAdd,Nat.reduceSub,List.cons_append,List.nil_append])
        (repeat' (first | (simp -implicitDefEqProofs (maxSteps := 1000000) (disch := first | assumption | omega | (simp only [ZDI]; omega)) only [*,G68,Za,Zb,Zc,Zd,Ze,Zf,Zg,Zh,Zi,Zj,Zk,Zl,Zm,Zn,Zo,Ja,Jb,Jc,J6,Jd,Je,J7,J8,Jf,Jg,Jh,Ji,Jj,Jk,J9,Jl,Jm,wr,Jn,JA,JB,Jo,Jp,Jq,Jr,Js,Jt,Ju,Jv,Jw,Jx,Jy,Jz,J0,J1,J2,J3,J4,J5,reduceCtorEq,JC,JD,JE,JF,JG,JH,JI,JJ]) | ((with_reducible (first | apply Ok.br | apply Ok.gd | apply Ok.ld)) <;> (intro g; (try simp only [ZGS] at g); try (exfalso; omega)))))
        exact hq.out
      · have h1' : ¬ (1 : Int) < ((c.toNat : Nat) : Int) := by omega
        by_cases h2 : 9223372036854775808 <= n
        · have h2' : (9223372036854775808 : Int) <= (n : Int) := by omega
          rw [if_pos (.inr h2)] at hI
          have hq := hbad hI
          clear hbad hgood hI hrd2 hx h hy h1 h2
          (refine Ok.body body68 pin68 ?_; simp only [c68,Try.f68,Option.getD_some,nslot68,List.append_nil,List.map,List.replicate,List.length_cons,List.length_nil,Nat.reduceAdd,Nat.reduceSub,List.cons_append,List.nil_append])
          (repeat' (first | (simp -implicitDefEqProofs (maxSteps := 1000000) (disch := first | assumption | omega | (simp only [ZDI]; omega)) only [*,G68,Za,Zb,Zc,Zd,Ze,Zf,Zg,Zh,Zi,Zj,Zk,Zl,Zm,Zn,Zo,Ja,Jb,Jc,J6,Jd,Je,J7,J8,Jf,Jg,Jh,Ji,Jj,Jk,J9,Jl,Jm,wr,Jn,JA,JB,Jo,Jp,Jq,Jr,Js,Jt,Ju,Jv,Jw,Jx,Jy,Jz,J0,J1,J2,J3,J4,J5,reduceCtorEq,JC,JD,JE,JF,JG,JH,JI,JJ]) | ((with_reducible (first | apply Ok.br | apply Ok.gd | apply Ok.ld)) <;> (intro g; (try simp only [ZGS] at g); try (exfalso; omega)))))
          exact hq.out
        · have h2' : ¬ (9223372036854775808 : Int) <= (n : Int) := by omega
          rw [if_neg (by omega)] at hI
          have hw : IntKind.i64.wrap (n : Int) = (n : Int) := wrapI (by omega)
          have hno := notI (n := n) (by omega)
          by_cases h3 : c.toNat = 1
          · have h3' : ((c.toNat : Nat) : Int) = 1 := by omega
            rw [if_pos h3] at hI
            have hq := hgood _ _ hI hrd2
            clear hbad hgood hI hrd2 hx h hy h1 h2 h3 h1'
            (refine Ok.body body68 pin68 ?_; simp only [c68,Try.f68,Option.getD_some,nslot68,List.append_nil,List.map,List.replicate,List.length_cons,List.length_nil,Nat.reduceAdd,Nat.reduceSub,List.cons_append,List.nil_append])
            (repeat' (first | (simp -implicitDefEqProofs (maxSteps := 1000000) (disch := first | assumption | omega | (simp only [ZDI]; omega)) only [*,G68,Za,Zb,Zc,Zd,Ze,Zf,Zg,Zh,Zi,Zj,Zk,Zl,Zm,Zn,Zo,Ja,Jb,Jc,J6,Jd,Je,J7,J8,Jf,Jg,Jh,Ji,Jj,Jk,J9,Jl,Jm,wr,Jn,JA,JB,Jo,Jp,Jq,Jr,Js,Jt,Ju,Jv,Jw,Jx,Jy,Jz,J0,J1,J2,J3,J4,J5,reduceCtorEq,JC,JD,JE,JF,JG,JH,JI,JJ]) | ((with_reducible (first | apply Ok.br | apply Ok.gd | apply Ok.ld)) <;> (intro g; (try simp only [ZGS] at g); try (exfalso; omega)))))
            exact hq.out
          · have h3' : ¬ ((c.toNat : Nat) : Int) = 1 := by omega
            rw [if_neg h3] at hI
            have hq := hgood _ _ hI hrd2
            clear hbad hgood hI hrd2 hx h hy h1 h2 h3
            (refine Ok.body body68 pin68 ?_; simp only [c68,Try.f68,Option.getD_some,nslot68,List.append_nil,List.map,List.replicate,List.length_cons,List.length_nil,Nat.reduceAdd,Nat.reduceSub,List.cons_append,List.nil_append])
            (repeat' (first | (simp -implicitDefEqProofs (maxSteps := 1000000) (disch := first | assumption | omega | (simp only [ZDI]; omega)) only [*,G68,Za,Zb,Zc,Zd,Ze,Zf,Zg,Zh,Zi,Zj,Zk,Zl,Zm,Zn,Zo,Ja,Jb,Jc,J6,Jd,Je,J7,J8,Jf,Jg,Jh,Ji,Jj,Jk,J9,Jl,Jm,wr,Jn,JA,JB,Jo,Jp,Jq,Jr,Js,Jt,Ju,Jv,Jw,Jx,Jy,Jz,J0,J1,J2,J3,J4,J5,reduceCtorEq,JC,JD,JE,JF,JG,JH,JI,JJ]) | ((with_reducible (first | apply Ok.br | apply Ok.gd | apply Ok.ld)) <;> (intro g; (try simp only [ZGS] at g); try (exfalso; omega)))))
            exact hq.out
set_option maxHeartbeats 8000000 in
theorem rdBool_at {H : Heap} {p : Nat} {v : V} {bs : List UInt8} {st : Option (List UInt8)} (h : RdAt H p v bs st) : Ev.Ok (D X (.fn 69 []) [.ptr p 0 0] H) (Took boolD false .bool p v bs st H) := by
  refine Ok.aim fun Q hQ => ?_
  have hQ' := Hid.mk hQ
  clear hQ
  obtain ⟨⟨vb, g1⟩, eB, hv, hrd1, hk1⟩ := rdByte_at h
  dsimp only at hv hrd1 hk1
  have eFail := rdFail_at hrd1
  obtain ⟨f1, f2⟩ := hrd1.fail
  have hI : st.bind boolD = (st.bind byteD).bind fun x => if 1 < x.1.toNat then none else some (decide (x.1.toNat = 1), x.2) := by cases st <;> rfl
  cases hx : st.bind byteD with
  | none =>
    rw [hx] at hI
    simp only [hx,Option.map_none,Option.bind_none,Option.getD_none,Option.isNone_none] at hv hrd1
    subst hv
    have hI' : st.bind boolD = none := hI
    have hz0 : ((UInt8.toNat 0 : Nat) : Int) = 0 := rfl
    have hq : Hid (Q (.bool false, g1)) := ⟨hQ'.out _ ⟨by rw [hI']; rfl, by rw [hI']; exact hrd1, hk1⟩⟩
    clear hQ' hrd1 hk1 f1 f2 hI hI' hx h
    (refine Ok.body body69 pin69 ?_; simp only [c69,Try.f69,Option.getD_some,nslot69,List.append_nil,List.map,List.replicate,List.length_cons,List.length_nil,Nat.reduceAdd,Nat.reduceSub,List.cons_append,List.nil_append])
    (repeat' (first | (simp -implicitDefEqProofs (maxSteps := 1000000) (disch := first | assumption | omega | (simp only [ZDI]; omega)) only [*,G69,Za,Zb,Zc,Zd,Ze,Zf,Zg,Zh,Zi,Zj,Zk,Zl,Zm,Zn,Zo,Ja,Jb,Jc,J6,Jd,Je,J7,J8,Jf,Jg,Jh,Ji,Jj,Jk,J9,Jl,Jm,wr,Jn,JA,JB,Jo,Jp,Jq,Jr,Js,Jt,Ju,Jv,Jw,Jx,Jy,Jz,J0,J1,J2,J3,J4,J5,reduceCtorEq,JC,JD,JE,JF,JG,JH,JI,JJ]) | ((with_reducible (first | apply Ok.br | apply Ok.gd | apply Ok.ld)) <;> (intro g; (try simp only [ZGS] at g); try (exfalso; omega)))))
    exact hq.out
  | some x =>
    obtain ⟨c, r⟩ := x
    simp only [hx,Option.bind_some] at hI
    simp only [hx,Option.map_some,Option.bind_some,Option.getD_some] at hv hrd1
    subst hv
    by_cases h1 : 1 < c.toNat
    · have h1' : (1 : Int) < ((c.toNat : Nat) : Int) := by omega
      have h3' : ¬ ((c.toNat : Nat) : Int) = 1 := by omega
      rw [if_pos h1] at hI
      have hq : Hid (Q (.bool false, g1.set p (.cells 0 true [v, .int .i64 bs.length, .bool true]))) := ⟨hQ'.out _ ⟨by rw [hI]; rfl, by rw [hI]; exact f1, hk1.trans f2⟩⟩
      clear hQ' hrd1 hk1 f1 f2 hI hx h h1
      (refine Ok.body body69 pin69 ?_; simp only [c69,Try.f69,Option.getD_some,nslot69,List.append_nil,List.map,List.replicate,List.length_cons,List.length_nil,Nat.reduceAdd,Nat.reduceSub,List.cons_append,List.nil_append])
      (repeat' (first | (simp -implicitDefEqProofs (maxSteps := 1000000) (disch := first | assumption | omega | (simp only [ZDI]; omega)) only [*,G69,Za,Zb,Zc,Zd,Ze,Zf,Zg,Zh,Zi,Zj,Zk,Zl,Zm,Zn,Zo,Ja,Jb,Jc,J6,Jd,Je,J7,J8,Jf,Jg,Jh,Ji,Jj,Jk,J9,Jl,Jm,wr,Jn,JA,JB,Jo,Jp,Jq,Jr,Js,Jt,Ju,Jv,Jw,Jx,Jy,Jz,J0,J1,J2,J3,J4,J5,reduceCtorEq,JC,JD,JE,JF,JG,JH,JI,JJ]) | ((with_reducible (first | apply Ok.br | apply Ok.gd | apply Ok.ld)) <;> (intro g; (try simp only [ZGS] at g); try (exfalso; omega)))))
      exact hq.out
    · have h1' : ¬ (1 : Int) < ((c.toNat : Nat) : Int) := by omega
      rw [if_neg h1] at hI
      have hq : Hid (Q (.bool (decide (c.toNat = 1)), g1)) := ⟨hQ'.out _ ⟨by rw [hI]; rfl, by rw [hI]; exact hrd1, hk1⟩⟩
      have he : decide (((c.toNat : Nat) : Int) = 1) = decide (c.toNat = 1) := by
        by_cases e : c.toNat = 1
        · rw [decide_eq_true e, decide_eq_true (by omega)]
        · rw [decide_eq_false e, decide_eq_false (by omega)]
      clear hQ' hrd1 hk1 f1 f2 hI hx h h1
      (refine Ok.body body69 pin69 ?_; simp only [c69,Try.f69,Option.getD_some,nslot69,List.append_nil,List.map,List.replicate,List.length_cons,List.length_nil,Nat.reduceAdd,Nat.reduceSub,List.cons_append,List.nil_append])
      (repeat' (first | (simp -implicitDefEqProofs (maxSteps := 1000000) (disch := first | assumption | omega | (simp only [ZDI]; omega)) only [*,G69,Za,Zb,Zc,Zd,Ze,Zf,Zg,Zh,Zi,Zj,Zk,Zl,Zm,Zn,Zo,Ja,Jb,Jc,J6,Jd,Je,J7,J8,Jf,Jg,Jh,Ji,Jj,Jk,J9,Jl,Jm,wr,Jn,JA,JB,Jo,Jp,Jq,Jr,Js,Jt,Ju,Jv,Jw,Jx,Jy,Jz,J0,J1,J2,J3,J4,J5,reduceCtorEq,JC,JD,JE,JF,JG,JH,JI,JJ]) | ((with_reducible (first | apply Ok.br | apply Ok.gd | apply Ok.ld)) <;> (intro g; (try simp only [ZGS] at g); try (exfalso; omega)))))
      exact hq.out
end Go.Ev
set_option maxRecDepth 100000
namespace Go.Ev
open Go.Ev renaming exPure -> Ja, ofValue -> Jb, cellsV -> Jc, load -> Jd, store -> Je, binOp -> Jf, intOp -> Jg, rdV -> Jh, vsame -> Ji, vsames -> Jj, makeSliceV -> Jk, resV -> Jl, isCell -> Jm, nilCheckV -> Jn, allV -> Jo, builtinV -> Jp, lenV -> Jq, indexAddrV -> Jr, unOp -> Js, minmaxV -> Jt, minmax -> Ju, sliceV -> Jv, asInt -> Jw, appendV -> Jx, forkB -> Jy, roY -> Jz, rwB -> J0, copyV -> J1, clearV -> J2, convV -> J3, sliceCells -> J4, shift -> J5
open Bool renaming true -> BT, false -> BF
open Nat renaming reduceEqDiff -> J6, reduceLT -> J7, reduceAdd -> J8, reduceBEq -> J9, reduceSub -> JA, reduceMul -> JB, reduceLeDiff -> JJ
open Int renaming reduceLT -> JC, reduceLE -> JD, reduceAdd -> JE, reduceSub -> JF, reduceNeg -> JG, reduceToNat -> JH, reduceEq -> JI
open Go.Proofs
theorem optArr_s {α : Type} (a : α) : (some a).toArray = #[a] := rfl
theorem optArr_n {α : Type} : (none : Option α).toArray = #[] := rfl
theorem toBytes_bV : ∀ l : List UInt8, toBytes (bV l) = some l
  | [] => rfl
  | c :: l => by
    show toBytes (V.int .u8 (c.toNat : Nat) :: bV l) = _
    rw [toBytes, toBytes_bV l]
    show some (UInt8.ofNat ((c.toNat : Nat) : Int).toNat :: l) = _
    rw [Int.toNat_natCast, UInt8.ofNat_toNat]
theorem bV_cut (l : List UInt8) (k n : Nat) : ((bV l).drop k).take n = bV ((l.drop k).take n) := by
  unfold bV
  rw [List.map_take, List.map_drop]
theorem bV_cut0 (l : List UInt8) (n : Nat) : (bV l).take n = bV (l.take n) := by
  unfold bV
  rw [List.map_take]
theorem numF_short : ∀ (l : List UInt8) (f : Bool) (n m : Nat) (r : List UInt8), numF f n l = some (m, r) -> r.length < l.length
  | [], f, n, m, r, h => by simp [numF] at h
  | c :: l, f, n, m, r, h => by
    rw [numF] at h
    split at h
    · cases h
    · split at h
      · cases h; simp
      · have := numF_short l _ _ _ _ h
        simp; omega
set_option maxHeartbeats 8000000 in
theorem rdText_at {H : Heap} {p : Nat} {v : V} {bs : List UInt8} {st : Option (List UInt8)} (h : RdAt H p v bs st) : Ev.Ok (D X (.fn 94 []) [.ptr p 0 0] H) (Took textD ⟨#[]⟩ .str p v bs st H) := by
  refine Ok.aim fun Q hQ => ?_
  have hQ' := Hid.mk hQ
  clear hQ
  obtain ⟨⟨vn, g2⟩, eN, hvn, hrd2, hk2⟩ := rdNum_at h
  dsimp only at hvn hrd2 hk2
  have eBad := rdBad_at hrd2
  have eLeft := rdLeft_at hrd2
  have eFail := rdFail_at hrd2
  obtain ⟨f1, f2⟩ := hrd2.fail
  have hI : st.bind textD = (st.bind numD).bind fun x => if 1048576 < x.1 \/ x.2.length < x.1 then none else some (⟨(x.2.take x.1).toArray⟩, x.2.drop x.1) := by cases st <;> rfl
  cases hx : st.bind numD with
  | none =>
    rw [hx] at hI
    have hI' : st.bind textD = none := hI
    simp only [hx,Option.map_none,Option.getD_none,Option.isNone_none,leftN] at hvn hrd2 eBad eLeft
    subst hvn
    have hq : Hid (Q (.str ⟨#[]⟩, g2)) := ⟨hQ'.out _ ⟨by rw [hI']; rfl, by rw [hI']; exact hrd2, hk2⟩⟩
    have hw0 := wrapU (n := 0) (by omega)
    clear hQ' hrd2 hk2 f1 f2 hI hI' hx h
    (refine Ok.body body94 pin94 ?_; simp only [c94,Try.f94,Option.getD_some,nslot94,List.append_nil,List.map,List.replicate,List.length_cons,List.length_nil,Nat.reduceAdd,Nat.reduceSub,List.cons_append,List.nil_append])
    (repeat' (first | (simp -implicitDefEqProofs (maxSteps := 1000000) (disch := first | assumption | omega | (simp only [ZDI]; omega)) only [*,G94,Za,Zb,Zc,Zd,Ze,Zf,Zg,Zh,Zi,Zj,Zk,Zl,Zm,Zn,Zo,Ja,Jb,Jc,J6,Jd,Je,J7,J8,Jf,Jg,Jh,Ji,Jj,Jk,J9,Jl,Jm,wr,Jn,JA,JB,Jo,Jp,Jq,Jr,Js,Jt,Ju,Jv,Jw,Jx,Jy,Jz,J0,J1,J2,J3,J4,J5,reduceCtorEq,JC,JD,JE,JF,JG,JH,JI,JJ]) | ((with_reducible (first | apply Ok.br | apply Ok.gd | apply Ok.ld)) <;> (intro g; (try simp only [ZGS] at g); try (exfalso; omega)))))
    exact hq.out
  | some x =>
    obtain ⟨n, r⟩ := x
    simp only [hx,Option.bind_some] at hI
    simp only [hx,Option.map_some,Option.getD_some,Option.isNone_some,leftN] at hvn hrd2 eBad eLeft
    subst hvn
    have hroom := hrd2.room
    obtain ⟨k, hkl, hkr, hcell⟩ := hrd2.cells
    have hkr := hkr r rfl
    have hrl : r.length = bs.length - k := by rw [hkr, List.length_drop]
    have hwl := wrapU (n := (r.length : Int)) (by omega)
    by_cases hbig : 1048576 < n \/ r.length < n
    · rw [if_pos hbig] at hI
      have hq : Hid (Q (.str ⟨#[]⟩, g2.set p (.cells 0 true [v, .int .i64 bs.length, .bool true]))) := ⟨hQ'.out _ ⟨by rw [hI]; rfl, by rw [hI]; exact f1, hk2.trans f2⟩⟩
      clear hQ' hrd2 hk2 f1 f2 hI hx h hkr hcell hkl hrl
      by_cases h1 : 1048576 < n
      · have h1' : (1048576 : Int) < (n : Int) := by omega
        clear hbig h1
        (refine Ok.body body94 pin94 ?_; simp only [c94,Try.f94,Option.getD_some,nslot94,List.append_nil,List.map,List.replicate,List.length_cons,List.length_nil,Nat.reduceAdd,Nat.reduceSub,List.cons_append,List.nil_append])
        (repeat' (first | (simp -implicitDefEqProofs (maxSteps := 1000000) (disch := first | assumption | omega | (simp only [ZDI]; omega)) only [*,G94,Za,Zb,Zc,Zd,Ze,Zf,Zg,Zh,Zi,Zj,Zk,Zl,Zm,Zn,Zo,Ja,Jb,Jc,J6,Jd,Je,J7,J8,Jf,Jg,Jh,Ji,Jj,Jk,J9,Jl,Jm,wr,Jn,JA,JB,Jo,Jp,Jq,Jr,Js,Jt,Ju,Jv,Jw,Jx,Jy,Jz,J0,J1,J2,J3,J4,J5,reduceCtorEq,JC,JD,JE,JF,JG,JH,JI,JJ]) | ((with_reducible (first | apply Ok.br | apply Ok.gd | apply Ok.ld)) <;> (intro g; (try simp only [ZGS] at g); try (exfalso; omega)))))
        exact hq.out
      · have h1' : ¬ (1048576 : Int) < (n : Int) := by omega
        have h2' : (r.length : Int) < (n : Int) := by omega
        clear hbig h1
        (refine Ok.body body94 pin94 ?_; simp only [c94,Try.f94,Option.getD_some,nslot94,List.append_nil,List.map,List.replicate,List.length_cons,List.length_nil,Nat.reduceAdd,Nat.reduceSub,List.cons_append,List.nil_append])
        (repeat' (first | (simp -implicitDefEqProofs (maxSteps := 1000000) (disch := first | assumption | omega | (simp only [ZDI]; omega)) only [*,G94,Za,Zb,Zc,Zd,Ze,Zf,Zg,Zh,Zi,Zj,Zk,Zl,Zm,Zn,Zo,Ja,Jb,Jc,J6,Jd,Je,J7,J8,Jf,Jg,Jh,Ji,Jj,Jk,J9,Jl,Jm,wr,Jn,JA,JB,Jo,Jp,Jq,Jr,Js,Jt,Ju,Jv,Jw,Jx,Jy,Jz,J0,J1,J2,J3,J4,J5,reduceCtorEq,JC,JD,JE,JF,JG,JH,JI,JJ]) | ((with_reducible (first | apply Ok.br | apply Ok.gd | apply Ok.ld)) <;> (intro g; (try simp only [ZGS] at g); try (exfalso; omega)))))
        exact hq.out
    · rw [if_neg hbig] at hI
      have h1' : ¬ (1048576 : Int) < (n : Int) := by omega
      have h2' : ¬ (r.length : Int) < (n : Int) := by omega
      have hwn : IntKind.i64.wrap (n : Int) = (n : Int) := wrapI (by omega)
      rcases hrd2.kept with ⟨e, _⟩ | ⟨b, hbp, hv, hbc⟩
      · exfalso
        have h3 : st = some bs \/ st = none \/ ∃ r, st = some r := by
          cases st with
          | none => exact .inr (.inl rfl)
          | some r => exact .inr (.inr ⟨r, rfl⟩)
        obtain ⟨k0, _, h4, _⟩ := h.cells
        rcases h3 with h3 | h3 | ⟨r0, h3⟩
        · rw [h3, e] at hx; simp [numD, numF] at hx
        · rw [h3] at hx; cases hx
        · have := h4 _ h3
          rw [e, List.drop_nil] at this
          rw [h3, this] at hx; simp [numD, numF] at hx
      · have hkept := hrd2.kept
        subst hv
        have hp := hcells_lt hcell
        have hb := hcells_lt hbc
        have hK : Keeps [p] g2 (g2.set p (.cells 0 true [.sl (.at b 0 0) bs.length bs.length 1, .int .i64 ((k + n : Nat) : Int), .bool false])) := (Keeps.refl _ _).set (.inl (by simp)) _
        have hrd : RdAt (g2.set p (.cells 0 true [.sl (.at b 0 0) bs.length bs.length 1, .int .i64 ((k + n : Nat) : Int), .bool false])) p (.sl (.at b 0 0) bs.length bs.length 1) bs (some (r.drop n)) :=
          ⟨hkept.keep hK, ⟨k + n, by omega, fun r' e => by cases e; rw [hkr, List.drop_drop], hcells_set_eq hp⟩, hroom⟩
        have hq : Hid (Q (.str ⟨(r.take n).toArray⟩, g2.set p (.cells 0 true [.sl (.at b 0 0) bs.length bs.length 1, .int .i64 ((k + n : Nat) : Int), .bool false]))) :=
          ⟨hQ'.out _ ⟨by rw [hI]; rfl, by rw [hI]; exact hrd, hk2.trans hK⟩⟩
        have hsl : (bs.drop k).take n = r.take n := by rw [hkr]
        have hk1 : (k : Int) + (n : Int) = ((k + n : Nat) : Int) := by omega
        have hk2' : ((k + n : Nat) : Int) - (n : Int) = (k : Int) := by omega
        have hblen : (bV bs).length = bs.length := bV_len bs
        have hle : k + n <= bs.length := by omega
        simp only [Option.isNone_some] at hcell
        have hcut := bV_cut bs k n
        rw [hsl] at hcut
        have hcut0 := bV_cut0 bs n
        have htb := toBytes_bV (r.take n)
        have hkn : k + n - k = n := by omega
        have hk0 : ¬ k = 0 := by
          obtain ⟨k0, _, h4, _⟩ := h.cells
          cases st with
          | none => cases hx
          | some r0 =>
            have h5 := numF_short _ _ _ _ _ hx
            rw [h4 _ rfl, List.length_drop] at h5
            omega
        clear hQ' hrd2 hk2 f1 f2 hI hx h hkr hrl hkept hK hrd hsl hbig
        by_cases hn0 : n = 0
        · have ht0 : r.take n = [] := by rw [hn0]; rfl
          rw [ht0] at hq
          have hz2 : decide (n = 0) = true := decide_eq_true hn0
          have hle0 : k + n <= k := by omega
          clear hcut hcut0 htb ht0
          by_cases hkk : k < bs.length
          · clear hle0 hn0
            (refine Ok.body body94 pin94 ?_; simp only [c94,Try.f94,Option.getD_some,nslot94,List.append_nil,List.map,List.replicate,List.length_cons,List.length_nil,Nat.reduceAdd,Nat.reduceSub,List.cons_append,List.nil_append])
            (repeat' (first | (simp -implicitDefEqProofs (maxSteps := 1000000) (disch := first | assumption | omega | (simp only [ZDI]; omega)) only [*,lenV,SA.add,optArr_s,optArr_n,Array.toList_append,toBytes,G94,Za,Zb,Zc,Zd,Ze,Zf,Zg,Zh,Zi,Zj,Zk,Zl,Zm,Zn,Zo,Ja,Jb,Jc,J6,Jd,Je,J7,J8,Jf,Jg,Jh,Ji,Jj,Jk,J9,Jl,Jm,wr,Jn,JA,JB,Jo,Jp,Jq,Jr,Js,Jt,Ju,Jv,Jw,Jx,Jy,Jz,J0,J1,J2,J3,J4,J5,reduceCtorEq,JC,JD,JE,JF,JG,JH,JI,JJ]) | ((with_reducible (first | apply Ok.br | apply Ok.gd | apply Ok.ld)) <;> (intro g; (try simp only [ZGS] at g); try (exfalso; omega)))))
            exact hq.out
          · clear hn0
            (refine Ok.body body94 pin94 ?_; simp only [c94,Try.f94,Option.getD_some,nslot94,List.append_nil,List.map,List.replicate,List.length_cons,List.length_nil,Nat.reduceAdd,Nat.reduceSub,List.cons_append,List.nil_append])
            (repeat' (first | (simp -implicitDefEqProofs (maxSteps := 1000000) (disch := first | assumption | omega | (simp only [ZDI]; omega)) only [*,lenV,SA.add,optArr_s,optArr_n,Array.toList_append,toBytes,G94,Za,Zb,Zc,Zd,Ze,Zf,Zg,Zh,Zi,Zj,Zk,Zl,Zm,Zn,Zo,Ja,Jb,Jc,J6,Jd,Je,J7,J8,Jf,Jg,Jh,Ji,Jj,Jk,J9,Jl,Jm,wr,Jn,JA,JB,Jo,Jp,Jq,Jr,Js,Jt,Ju,Jv,Jw,Jx,Jy,Jz,J0,J1,J2,J3,J4,J5,reduceCtorEq,JC,JD,JE,JF,JG,JH,JI,JJ]) | ((with_reducible (first | apply Ok.br | apply Ok.gd | apply Ok.ld)) <;> (intro g; (try simp only [ZGS] at g); try (exfalso; omega)))))
            exact hq.out
        · have hkk : k < bs.length := by omega
          (refine Ok.body body94 pin94 ?_; simp only [c94,Try.f94,Option.getD_some,nslot94,List.append_nil,List.map,List.replicate,List.length_cons,List.length_nil,Nat.reduceAdd,Nat.reduceSub,List.cons_append,List.nil_append])
          (repeat' (first | (simp -implicitDefEqProofs (maxSteps := 1000000) (disch := first | assumption | omega | (simp only [ZDI]; omega)) only [*,lenV,SA.add,optArr_s,optArr_n,Array.toList_append,G94,Za,Zb,Zc,Zd,Ze,Zf,Zg,Zh,Zi,Zj,Zk,Zl,Zm,Zn,Zo,Ja,Jb,Jc,J6,Jd,Je,J7,J8,Jf,Jg,Jh,Ji,Jj,Jk,J9,Jl,Jm,wr,Jn,JA,JB,Jo,Jp,Jq,Jr,Js,Jt,Ju,Jv,Jw,Jx,Jy,Jz,J0,J1,J2,J3,J4,J5,reduceCtorEq,JC,JD,JE,JF,JG,JH,JI,JJ]) | ((with_reducible (first | apply Ok.br | apply Ok.gd | apply Ok.ld)) <;> (intro g; (try simp only [ZGS] at g); try (exfalso; omega)))))
          exact hq.out
end Go.Ev
set_option maxRecDepth 100000
namespace Go.Ev
open Go.Ev renaming exPure -> Ja, ofValue -> Jb, cellsV -> Jc, load -> Jd, store -> Je, binOp -> Jf, intOp -> Jg, rdV -> Jh, vsame -> Ji, vsames -> Jj, makeSliceV -> Jk, resV -> Jl, isCell -> Jm, nilCheckV -> Jn, allV -> Jo, builtinV -> Jp, lenV -> Jq, indexAddrV -> Jr, unOp -> Js, minmaxV -> Jt, minmax -> Ju, sliceV -> Jv, asInt -> Jw, appendV -> Jx, forkB -> Jy, roY -> Jz, rwB -> J0, copyV -> J1, clearV -> J2, convV -> J3, sliceCells -> J4, shift -> J5
open Bool renaming true -> BT, false -> BF
open Nat renaming reduceEqDiff -> J6, reduceLT -> J7, reduceAdd -> J8, reduceBEq -> J9, reduceSub -> JA, reduceMul -> JB, reduceLeDiff -> JJ
open Int renaming reduceLT -> JC, reduceLE -> JD, reduceAdd -> JE, reduceSub -> JF, reduceNeg -> JG, reduceToNat -> JH, reduceEq -> JI
open Go.Proofs
def manyD {α : Type} (d : Dec α) : Nat -> Dec (List α)
  | 0, l => some ([], l)
  | n + 1, l => (d l).bind fun x => (manyD d n x.2).map fun y => (x.1 :: y.1, y.2)
def listD {α : Type} (d : Dec α) : Dec (List α) := fun l => (numD l).bind fun x => if 4096 < x.1 \/ x.2.length < x.1 then none else manyD d x.1 x.2
def refD : Dec RP := fun l => (intD l).bind fun x => (intD x.2).bind fun y => some ((x.1, y.1), y.2)
def GroS {α : Type} (H h : Heap) (v : V) (xs : List α) (f : α -> List V) (z : Nat) : Prop := (xs = [] /\ v = .sl .nil 0 0 0) \/ ∃ b g, H.length <= b /\ 0 < xs.length /\ v = .sl (.at b g 0) xs.length xs.length z /\ hcells h b g = some (true, xs.flatMap f)
theorem flatS_len {α : Type} {f : α -> List V} {z : Nat} (h : ∀ a, (f a).length = z) : ∀ xs : List α, (xs.flatMap f).length = xs.length * z
  | [] => by simp
  | x :: xs => by rw [List.flatMap_cons, List.length_append, h, flatS_len h xs, List.length_cons, Nat.succ_mul]; omega
theorem RdAt.grow {H g g' : Heap} {p : Nat} {v : V} {bs : List UInt8} {st0 st : Option (List UInt8)} (h0 : RdAt H p v bs st0) (h : RdAt g p v bs st) (hk : ∀ i, i < H.length -> g'[i]? = g[i]?) : RdAt g' p v bs st := by
  have hc : ∀ b q x, b < H.length -> hcells g b q = some x -> hcells g' b q = some x := fun b q x hb e => by
    unfold hcells at e ⊢
    rw [hk b hb]; exact e
  obtain ⟨k0, _, _, hp⟩ := h0.cells
  obtain ⟨k, h1, h2, h3⟩ := h.cells
  refine ⟨?_, ⟨k, h1, h2, hc _ _ _ (hcells_lt hp) h3⟩, h.room⟩
  rcases h0.kept with ⟨e1, e2⟩ | ⟨b, e1, e2, e3⟩
  · exact .inl ⟨e1, e2⟩
  · rcases h.kept with ⟨e4, e5⟩ | ⟨b', e4, e5, e6⟩
    · exact .inl ⟨e4, e5⟩
    · rw [e2] at e5
      cases e5
      exact .inr ⟨b, e1, e2, hc _ _ _ (hcells_lt e3) e6⟩
def Listed {α : Type} (H : Heap) (p : Nat) (v : V) (bs : List UInt8) (t : Option (List α × List UInt8)) (f : α -> List V) (z : Nat) (y : V × Heap) : Prop :=
  ((t = none /\ y.1 = .sl .nil 0 0 0) \/ ∃ xs r, t = some (xs, r) /\ GroS H y.2 y.1 xs f z) /\ RdAt y.2 p v bs (t.map (·.2)) /\ Keeps [p] H y.2
def Fetch {α : Type} (dec : Dec α) (f : α -> V) (p : Nat) (v : V) (bs : List UInt8) (st : Option (List UInt8)) (H : Heap) (y : V × Heap) : Prop :=
  ∃ k, y.1 = f k /\ (∀ x, st.bind dec = some x -> k = x.1) /\ RdAt y.2 p v bs ((st.bind dec).map (·.2)) /\ Keeps [p] H y.2
theorem Took.got {α : Type} {dec : Dec α} {d : α} {f : α -> V} {p : Nat} {v : V} {bs : List UInt8} {st : Option (List UInt8)} {H : Heap} {y : V × Heap} (h : Took dec d f p v bs st H y) : Fetch dec f p v bs st H y :=
  ⟨_, h.1, fun x e => by rw [e]; rfl, h.2.1, h.2.2⟩
theorem rdTextG_at {H : Heap} {p : Nat} {v : V} {bs : List UInt8} {st : Option (List UInt8)} (h : RdAt H p v bs st) : Ev.Ok (D X (.fn 94 []) [.ptr p 0 0] H) (Fetch textD .str p v bs st H) :=
  (rdText_at h).mono fun _ h => h.got
set_option maxHeartbeats 4000000 in
theorem rdRefG_at {H : Heap} {p : Nat} {v : V} {bs : List UInt8} {st : Option (List UInt8)} (h : RdAt H p v bs st) : Ev.Ok (D X (.fn 72 []) [.ptr p 0 0] H) (Fetch refD (fun k => .agg [.int .i64 k.1, .int .i64 k.2]) p v bs st H) := by
  refine Ok.aim fun Q hQ => ?_
  have hQ' := Hid.mk hQ
  clear hQ
  obtain ⟨⟨v1, g1⟩, e1, hv1, hrd1, hk1⟩ := rdInt_at h
  dsimp only at hv1 hrd1 hk1
  obtain ⟨⟨v2, g2⟩, e2, hv2, hrd2, hk2⟩ := rdInt_at hrd1
  dsimp only at hv2 hrd2 hk2
  subst hv1 hv2
  have hI : st.bind refD = (st.bind intD).bind fun x => (intD x.2).bind fun y => some ((x.1, y.1), y.2) := by cases st <;> rfl
  have hfin : ∀ a b, (∀ x, st.bind refD = some x -> (a, b) = x.1) -> RdAt g2 p v bs ((st.bind refD).map (·.2)) -> Q (.agg [.int .i64 a, .int .i64 b], g2) := fun a b h1 h2 =>
    hQ'.out _ ⟨(a, b), rfl, h1, h2, hk1.trans hk2⟩
  have hq : Hid (Q (.agg [.int .i64 (((st.bind intD).map (·.1)).getD 0), .int .i64 (((((st.bind intD).map (·.2)).bind intD).map (·.1)).getD 0)], g2)) := by
    refine ⟨hfin _ _ (fun x e => ?_) ?_⟩
    · rw [hI] at e
      cases hx : st.bind intD with
      | none => rw [hx] at e; cases e
      | some y =>
        rw [hx] at e
        simp only [Option.bind_some] at e
        simp only [Option.map_some,Option.getD_some,Option.bind_some]
        cases hy : intD y.2 with
        | none => rw [hy] at e; cases e
        | some z => rw [hy] at e; cases e; rfl
    · rw [hI]
      cases hx : st.bind intD with
      | none => simp only [hx,Option.map_none,Option.bind_none] at hrd2 ⊢; exact hrd2
      | some y =>
        simp only [hx,Option.map_some,Option.bind_some] at hrd2 ⊢
        cases hy : intD y.2 with
        | none => simp only [hy,Option.map_none,Option.bind_none] at hrd2 ⊢; exact hrd2
        | some z => simp only [hy,Option.map_some,Option.bind_some] at hrd2 ⊢; exact hrd2
  generalize ((st.bind intD).map (·.1)).getD 0 = a at e1 hq
  generalize ((((st.bind intD).map (·.2)).bind intD).map (·.1)).getD 0 = b at e2 hq
  clear hfin hI hrd1 hrd2 hk1 hk2 h hQ'
  (refine Ok.body body72 pin72 ?_; simp only [c72,Try.f72,Option.getD_some,nslot72,List.append_nil,List.map,List.replicate,List.length_cons,List.length_nil,Nat.reduceAdd,Nat.reduceSub,List.cons_append,List.nil_append])
  (repeat' (first | (simp -implicitDefEqProofs (maxSteps := 1000000) (disch := first | assumption | omega | (simp only [ZDI]; omega)) only [*,G72,Za,Zb,Zc,Zd,Ze,Zf,Zg,Zh,Zi,Zj,Zk,Zl,Zm,Zn,Zo,Ja,Jb,Jc,J6,Jd,Je,J7,J8,Jf,Jg,Jh,Ji,Jj,Jk,J9,Jl,Jm,wr,Jn,JA,JB,Jo,Jp,Jq,Jr,Js,Jt,Ju,Jv,Jw,Jx,Jy,Jz,J0,J1,J2,J3,J4,J5,reduceCtorEq,JC,JD,JE,JF,JG,JH,JI,JJ]) | ((with_reducible (first | apply Ok.br | apply Ok.gd | apply Ok.ld)) <;> (intro g; (try simp only [ZGS] at g); try (exfalso; omega)))))
  exact hq.out
end Go.Ev
set_option maxRecDepth 100000
namespace Go.Ev
open Go.Ev renaming exPure -> Ja, ofValue -> Jb, cellsV -> Jc, load -> Jd, store -> Je, binOp -> Jf, intOp -> Jg, rdV -> Jh, vsame -> Ji, vsames -> Jj, makeSliceV -> Jk, resV -> Jl, isCell -> Jm, nilCheckV -> Jn, allV -> Jo, builtinV -> Jp, lenV -> Jq, indexAddrV -> Jr, unOp -> Js, minmaxV -> Jt, minmax -> Ju, sliceV -> Jv, asInt -> Jw, appendV -> Jx, forkB -> Jy, roY -> Jz, rwB -> J0, copyV -> J1, clearV -> J2, convV -> J3, sliceCells -> J4, shift -> J5
open Bool renaming true -> BT, false -> BF
open Nat renaming reduceEqDiff -> J6, reduceLT -> J7, reduceAdd -> J8, reduceBEq -> J9, reduceSub -> JA, reduceMul -> JB, reduceLeDiff -> JJ
open Int renaming reduceLT -> JC, reduceLE -> JD, reduceAdd -> JE, reduceSub -> JF, reduceNeg -> JG, reduceToNat -> JH, reduceEq -> JI
open Go.Proofs
set_option maxHeartbeats 16000000 in
theorem getTexts_at {H : Heap} {p : Nat} {v : V} {bs : List UInt8} {st : Option (List UInt8)} (h : RdAt H p v bs st) : Ev.Ok (D X (.fn 93 []) [.ptr p 0 0, .fn 94 []] H) (Listed H p v bs (st.bind (listD textD)) (fun s : ByteArray => [V.str s]) 1) := by
  refine Ok.aim fun Q hQ => ?_
  have hQ' := Hid.mk hQ
  clear hQ
  obtain ⟨⟨vn, g1⟩, eN, hvn, hrd1, hk1⟩ := rdNum_at h
  dsimp only at hvn hrd1 hk1
  have eBad1 := rdBad_at hrd1
  have eLeft := rdLeft_at hrd1
  have eFail := rdFail_at hrd1
  obtain ⟨f1, f2⟩ := hrd1.fail
  have eBadF := rdBad_at f1
  simp only [Option.isNone_none] at eBadF
  have hI : st.bind (listD textD) = (st.bind numD).bind fun x => if 4096 < x.1 \/ x.2.length < x.1 then none else manyD textD x.1 x.2 := by cases st <;> rfl
  have hbad : ∀ g, st.bind (listD textD) = none -> RdAt g p v bs none -> Keeps [p] H g -> Hid (Q (.sl .nil 0 0 0, g)) := fun g e h1 h2 => ⟨hQ'.out _ ⟨.inl ⟨e, rfl⟩, by rw [e]; exact h1, h2⟩⟩
  cases hx : st.bind numD with
  | none =>
    rw [hx] at hI
    simp only [hx,Option.map_none,Option.getD_none,Option.isNone_none,leftN] at hvn hrd1 eBad1 eLeft
    subst hvn
    have hq := hbad _ hI hrd1 hk1
    have hw0 := wrapU (n := 0) (by omega)
    clear hQ' hrd1 hk1 f1 f2 hI hx h hbad eFail eBadF
    (refine Ok.body body93 pin93 ?_; simp only [c93,Try.f93,Option.getD_some,nslot93,List.append_nil,List.map,List.replicate,List.length_cons,List.length_nil,Nat.reduceAdd,Nat.reduceSub,List.cons_append,List.nil_append])
    (repeat' (first | (simp -implicitDefEqProofs (maxSteps := 1000000) (disch := first | assumption | omega | (simp only [ZDI]; omega)) only [*,G93,Za,Zb,Zc,Zd,Ze,Zf,Zg,Zh,Zi,Zj,Zk,Zl,Zm,Zn,Zo,Ja,Jb,Jc,J6,Jd,Je,J7,J8,Jf,Jg,Jh,Ji,Jj,Jk,J9,Jl,Jm,wr,Jn,JA,JB,Jo,Jp,Jq,Jr,Js,Jt,Ju,Jv,Jw,Jx,Jy,Jz,J0,J1,J2,J3,J4,J5,reduceCtorEq,JC,JD,JE,JF,JG,JH,JI,JJ]) | ((with_reducible (first | apply Ok.br | apply Ok.gd | apply Ok.ld)) <;> (intro g; (try simp only [ZGS] at g); try (exfalso; omega)))))
    refine Ok.unroll ?_
    (repeat' (first | (simp -implicitDefEqProofs (maxSteps := 1000000) (disch := first | assumption | omega | (simp only [ZDI]; omega)) only [*,G93,Za,Zb,Zc,Zd,Ze,Zf,Zg,Zh,Zi,Zj,Zk,Zl,Zm,Zn,Zo,Ja,Jb,Jc,J6,Jd,Je,J7,J8,Jf,Jg,Jh,Ji,Jj,Jk,J9,Jl,Jm,wr,Jn,JA,JB,Jo,Jp,Jq,Jr,Js,Jt,Ju,Jv,Jw,Jx,Jy,Jz,J0,J1,J2,J3,J4,J5,reduceCtorEq,JC,JD,JE,JF,JG,JH,JI,JJ]) | ((with_reducible (first | apply Ok.br | apply Ok.gd | apply Ok.ld)) <;> (intro g; (try simp only [ZGS] at g); try (exfalso; omega)))))
    exact hq.out
  | some x =>
    obtain ⟨n, r⟩ := x
    simp only [hx,Option.bind_some] at hI
    simp only [hx,Option.map_some,Option.getD_some,Option.isNone_some,leftN] at hvn hrd1 eBad1 eLeft
    subst hvn
    have hroom := hrd1.room
    obtain ⟨k, hkl, hkr, hcell⟩ := hrd1.cells
    have hkr := hkr r rfl
    have hrl : r.length = bs.length - k := by rw [hkr, List.length_drop]
    have hwl := wrapU (n := (r.length : Int)) (by omega)
    by_cases hbig : 4096 < n \/ r.length < n
    · rw [if_pos hbig] at hI
      have hq := hbad _ hI f1 (hk1.trans f2)
      have hn1 : (0 : Int) < (n : Int) := by omega
      clear hQ' hrd1 hk1 f1 f2 hI hx h hkr hcell hkl hrl hbad eBad1
      have hb2 : ((4096 : Int) < (n : Int)) \/ (¬ (4096 : Int) < (n : Int) /\ (r.length : Int) < (n : Int)) := by omega
      clear hbig
      rcases hb2 with h1' | ⟨h1', h2'⟩
      all_goals
        (refine Ok.body body93 pin93 ?_; simp only [c93,Try.f93,Option.getD_some,nslot93,List.append_nil,List.map,List.replicate,List.length_cons,List.length_nil,Nat.reduceAdd,Nat.reduceSub,List.cons_append,List.nil_append])
        (repeat' (first | (simp -implicitDefEqProofs (maxSteps := 1000000) (disch := first | assumption | omega | (simp only [ZDI]; omega)) only [*,G93,Za,Zb,Zc,Zd,Ze,Zf,Zg,Zh,Zi,Zj,Zk,Zl,Zm,Zn,Zo,Ja,Jb,Jc,J6,Jd,Je,J7,J8,Jf,Jg,Jh,Ji,Jj,Jk,J9,Jl,Jm,wr,Jn,JA,JB,Jo,Jp,Jq,Jr,Js,Jt,Ju,Jv,Jw,Jx,Jy,Jz,J0,J1,J2,J3,J4,J5,reduceCtorEq,JC,JD,JE,JF,JG,JH,JI,JJ]) | ((with_reducible (first | apply Ok.br | apply Ok.gd | apply Ok.ld)) <;> (intro g; (try simp only [ZGS] at g); try (exfalso; omega)))))
        refine Ok.unroll ?_
        (repeat' (first | (simp -implicitDefEqProofs (maxSteps := 1000000) (disch := first | assumption | omega | (simp only [ZDI]; omega)) only [*,G93,Za,Zb,Zc,Zd,Ze,Zf,Zg,Zh,Zi,Zj,Zk,Zl,Zm,Zn,Zo,Ja,Jb,Jc,J6,Jd,Je,J7,J8,Jf,Jg,Jh,Ji,Jj,Jk,J9,Jl,Jm,wr,Jn,JA,JB,Jo,Jp,Jq,Jr,Js,Jt,Ju,Jv,Jw,Jx,Jy,Jz,J0,J1,J2,J3,J4,J5,reduceCtorEq,JC,JD,JE,JF,JG,JH,JI,JJ]) | ((with_reducible (first | apply Ok.br | apply Ok.gd | apply Ok.ld)) <;> (intro g; (try simp only [ZGS] at g); try (exfalso; omega)))))
        exact hq.out
    · rw [if_neg hbig] at hI
      have h1' : ¬ (4096 : Int) < (n : Int) := by omega
      have h2' : ¬ (r.length : Int) < (n : Int) := by omega
      have hn : n <= 4096 := by omega
      have hk1' := Hid.mk hk1
      have h0 := Hid.mk h
      have hrd1' := Hid.mk hrd1
      have hI' := Hid.mk hI
      have hbad' := Hid.mk hbad
      clear hrd1 hk1 f1 f2 hI hx h hkr hcell hkl hrl hbad eBad1 eBadF eFail hbig
      (refine Ok.body body93 pin93 ?_; simp only [c93,Try.f93,Option.getD_some,nslot93,List.append_nil,List.map,List.replicate,List.length_cons,List.length_nil,Nat.reduceAdd,Nat.reduceSub,List.cons_append,List.nil_append])
      (repeat' (first | (simp -implicitDefEqProofs (maxSteps := 1000000) (disch := first | assumption | omega | (simp only [ZDI]; omega)) only [*,G93,Za,Zb,Zc,Zd,Ze,Zf,Zg,Zh,Zi,Zj,Zk,Zl,Zm,Zn,Zo,Ja,Jb,Jc,J6,Jd,Je,J7,J8,Jf,Jg,Jh,Ji,Jj,Jk,J9,Jl,Jm,wr,Jn,JA,JB,Jo,Jp,Jq,Jr,Js,Jt,Ju,Jv,Jw,Jx,Jy,Jz,J0,J1,J2,J3,J4,J5,reduceCtorEq,JC,JD,JE,JF,JG,JH,JI,JJ]) | ((with_reducible (first | apply Ok.br | apply Ok.gd | apply Ok.ld)) <;> (intro g; (try simp only [ZGS] at g); try (exfalso; omega)))))
      clear eN eLeft hwl h1' h2'
      refine Ok.loop [BF, BF, BF, BF, BF, BF, BT, BT, BF, BF, BF, BF, BF, BF, BF, BF, BF, BF, BF, BF, BF, BT, BT, BT, BT, BT, BT, BT, BT, BT, BT, BT, BT, BT, BT, BT, BT, BF, BF, BF] (fun m s2 => ∃ (i : Nat) (st' : Option (List UInt8)) (w : Nat) (q : List V), m = n - i /\ i <= n /\ tv s2.e 7 = .v (.int .u64 (i : Nat)) /\ s2.l = [(w, q)] /\ RdAt s2.h p v bs st' /\ Keeps [p] H s2.h /\
          ((st' = none /\ manyD textD n r = none) \/ ∃ r' xs vv, st' = some r' /\ tv s2.e 6 = .v vv /\ GroS H s2.h vv xs (fun s : ByteArray => [V.str s]) 1 /\ xs.length = i /\ manyD textD n r = (manyD textD (n - i) r').map fun y => (xs ++ y.1, y.2)))
        (fun y s2 => y = .exit 0 /\ ∃ (w : Nat) (q : List V), s2.l = [(w, q)] /\ RdAt s2.h p v bs ((manyD textD n r).map (·.2)) /\ Keeps [p] H s2.h /\
          (manyD textD n r = none \/ ∃ xs r' vv, manyD textD n r = some (xs, r') /\ tv s2.e 6 = .v vv /\ GroS H s2.h vv xs (fun s : ByteArray => [V.str s]) 1))
        (n - 0) ⟨0, some r, 0, [], rfl, Nat.zero_le _, rfl, rfl, hrd1'.out, hk1'.out, .inr ⟨r, [], _, rfl, rfl, .inl ⟨rfl, rfl⟩, rfl, by rw [Nat.sub_zero]; cases manyD textD n r <;> rfl⟩⟩ ?_ ?_
      · intro m ⟨e', l', g⟩ hW ⟨i, st', w, q, hm, hi, h7, k2, hrd, hk, hcase⟩
        dsimp only at hW h7 k2 hrd hk hcase
        subst l'
        rw [hW.spread]
        have eBad := rdBad_at hrd
        by_cases hlt : i < n
        · have hlt' : (i : Int) < (n : Int) := by omega
          rcases hcase with ⟨rfl, hnone⟩ | ⟨r', xs, vv, rfl, h6, hgro, hxl, hmany⟩
          · simp only [spread_t,spread_f,spread_n,Nat.zero_add,Nat.reduceAdd,h7]
            clear hW hQ'
            simp only [Option.isNone_none] at eBad
            have hT := Hid.mk hnone
            have hrdd := Hid.mk hrd
            have hkd := Hid.mk hk
            clear hnone hrd hk
            (repeat' (first | (simp -implicitDefEqProofs (maxSteps := 1000000) (disch := first | assumption | omega | (simp only [ZDI]; omega)) only [*,G93,Za,Zb,Zc,Zd,Ze,Zf,Zg,Zh,Zi,Zj,Zk,Zl,Zm,Zn,Zo,Ja,Jb,Jc,J6,Jd,Je,J7,J8,Jf,Jg,Jh,Ji,Jj,Jk,J9,Jl,Jm,wr,Jn,JA,JB,Jo,Jp,Jq,Jr,Js,Jt,Ju,Jv,Jw,Jx,Jy,Jz,J0,J1,J2,J3,J4,J5,reduceCtorEq,JC,JD,JE,JF,JG,JH,JI,JJ]) | ((with_reducible (first | apply Ok.br | apply Ok.gd | apply Ok.ld)) <;> (intro g; (try simp only [ZGS] at g); try (exfalso; omega)))))
            exact Turn.exit ⟨rfl, rfl, w, q, rfl, by rw [hT.out]; exact hrdd.out, hkd.out, .inl hT.out⟩
          · simp only [spread_t,spread_f,spread_n,Nat.zero_add,Nat.reduceAdd,h7,h6]
            clear hW hQ'
            simp only [Option.isNone_some] at eBad
            obtain ⟨⟨vk, g2⟩, eG, x, hv, hxk, hrd2, hk2⟩ := rdTextG_at hrd
            dsimp only at hv hrd2 hk2
            subst hv
            obtain ⟨kp, _, _, hpc⟩ := h0.out.cells
            have hpl := hcells_lt hpc
            have hkk := hk.trans hk2
            have hwi : IntKind.u64.wrap ((i : Int) + 1) = ((i + 1 : Nat) : Int) := by rw [wrapU (by omega)]; omega
            have hnext : ∀ vv2 g3, (∀ j, j < H.length -> g3[j]? = g2[j]?) -> H.length <= g3.length -> GroS H g3 vv2 (xs ++ [x]) (fun s : ByteArray => [V.str s]) 1 -> ∃ st2, RdAt g3 p v bs st2 /\ Keeps [p] H g3 /\
                ((st2 = none /\ manyD textD n r = none) \/ ∃ r2 ys, st2 = some r2 /\ GroS H g3 vv2 ys (fun s : ByteArray => [V.str s]) 1 /\ ys.length = i + 1 /\ manyD textD n r = (manyD textD (n - (i + 1)) r2).map fun y => (ys ++ y.1, y.2)) := by
              intro vv2 g3 hg hgl hgro2
              refine ⟨_, h0.out.grow hrd2 hg, ⟨hgl, fun j hj hF => (hg j hj).trans (hkk.2 j hj hF)⟩, ?_⟩
              have e1 : n - i = (n - (i + 1)) + 1 := by omega
              rw [e1, manyD] at hmany
              cases hd : textD r' with
              | none =>
                left
                rw [hmany, hd]
                exact ⟨by show Option.map _ (textD r') = none; rw [hd]; rfl, rfl⟩
              | some z =>
                right
                have hxz := hxk z hd
                refine ⟨z.2, xs ++ [x], by show Option.map _ (textD r') = _; rw [hd]; rfl, hgro2, by simp [hxl], ?_⟩
                rw [hmany, hd, hxz]
                simp only [Option.bind_some,Option.map_map,Function.comp_def,List.append_assoc,List.cons_append,List.nil_append]
            have hnext' := Hid.mk hnext
            have hbk : ∀ b, H.length <= b -> b ∉ [p] := fun b hb => by simp; omega
            have hHl := hkk.1
            rcases hgro with ⟨rfl, rfl⟩ | ⟨b, q0, hb, hxs, rfl, hc⟩
            · clear hnext hrd hk hrd2 hk2 hkk hmany hxk
              (repeat' (first | (simp -implicitDefEqProofs (maxSteps := 1000000) (disch := first | assumption | omega | (simp only [ZDI]; omega)) only [*,lenV,G93,Za,Zb,Zc,Zd,Ze,Zf,Zg,Zh,Zi,Zj,Zk,Zl,Zm,Zn,Zo,Ja,Jb,Jc,J6,Jd,Je,J7,J8,Jf,Jg,Jh,Ji,Jj,Jk,J9,Jl,Jm,wr,Jn,JA,JB,Jo,Jp,Jq,Jr,Js,Jt,Ju,Jv,Jw,Jx,Jy,Jz,J0,J1,J2,J3,J4,J5,reduceCtorEq,JC,JD,JE,JF,JG,JH,JI,JJ]) | ((with_reducible (first | apply Ok.br | apply Ok.gd | apply Ok.ld)) <;> (intro g; (try simp only [ZGS] at g); try (exfalso; omega)))))
              obtain ⟨st2, a1, a2, a3⟩ := hnext'.out (.sl (.at g2.length 0 0) 1 1 1) (g2 ++ [.cells 0 true ((fun s : ByteArray => [V.str s]) x)]) (fun j hj => List.getElem?_append_left (by omega)) (by simp; omega) (.inr ⟨g2.length, 0, hHl, by simp, rfl, hc_new⟩)
              refine Turn.next (n - (i + 1)) (by omega) ⟨rfl, i + 1, st2, _, _, rfl, by omega, rfl, rfl, a1, a2, ?_⟩
              rcases a3 with a3 | ⟨r2, ys, a4, a5, a6, a7⟩
              · exact .inl a3
              · exact .inr ⟨r2, ys, _, a4, rfl, a5, a6, a7⟩
            · have hc2 := hk2.cells hc (hbk b hb)
              have hbl := hcells_lt hc2
              have hfl : (xs.flatMap (fun s : ByteArray => [V.str s])).length = xs.length * 1 := flatS_len (f := (fun s : ByteArray => [V.str s])) (z := 1) (fun _ => rfl) xs
              have htk : (xs.flatMap (fun s : ByteArray => [V.str s])).take (xs.length * 1) = xs.flatMap (fun s : ByteArray => [V.str s]) := List.take_of_length_le (by rw [hfl]; exact Nat.le_refl _)
              have htk1 := htk
              rw [Nat.mul_one] at htk1
              have hn1 : ¬ (xs.length + 1 <= xs.length) := by omega
              have hL : (xs.length + 1) * 16 <= 35184372088832 /\ xs.length + 1 <= 35184372088832 := by omega
              clear hnext hrd hk hrd2 hk2 hkk hmany hc hxk hxl
              (repeat' (first | (simp -implicitDefEqProofs (maxSteps := 1000000) (disch := first | assumption | omega | (simp only [ZDI]; omega)) only [*,lenV,List.drop_zero,Nat.mul_one,Nat.zero_add,G93,Za,Zb,Zc,Zd,Ze,Zf,Zg,Zh,Zi,Zj,Zk,Zl,Zm,Zn,Zo,Ja,Jb,Jc,J6,Jd,Je,J7,J8,Jf,Jg,Jh,Ji,Jj,Jk,J9,Jl,Jm,wr,Jn,JA,JB,Jo,Jp,Jq,Jr,Js,Jt,Ju,Jv,Jw,Jx,Jy,Jz,J0,J1,J2,J3,J4,J5,reduceCtorEq,JC,JD,JE,JF,JG,JH,JI,JJ]) | ((with_reducible (first | apply Ok.br | apply Ok.gd | apply Ok.ld)) <;> (intro g; (try simp only [ZGS] at g); try (exfalso; omega)))))
              obtain ⟨st2, a1, a2, a3⟩ := hnext'.out (.sl (.at b (q0 + 1) 0) (xs.length + 1) (xs.length + 1) 1) (g2.set b (.cells (q0 + 1) true (xs.flatMap (fun s : ByteArray => [V.str s]) ++ (fun s : ByteArray => [V.str s]) x))) (fun j hj => List.getElem?_set_ne (by omega)) (by simp; omega)
                (.inr ⟨b, q0 + 1, hb, by simp, by simp, by rw [hcells_set_eq hbl, List.flatMap_append]; simp⟩)
              refine Turn.next (n - (i + 1)) (by omega) ⟨rfl, i + 1, st2, _, _, rfl, by omega, rfl, rfl, a1, a2, ?_⟩
              rcases a3 with a3 | ⟨r2, ys, a4, a5, a6, a7⟩
              · exact .inl a3
              · exact .inr ⟨r2, ys, _, a4, rfl, a5, a6, a7⟩
        · have hlt' : ¬ (i : Int) < (n : Int) := by omega
          have hpost : Hid (RdAt g p v bs ((manyD textD n r).map (·.2)) /\ (manyD textD n r = none \/ ∃ xs r' vv, manyD textD n r = some (xs, r') /\ tv e' 6 = .v vv /\ GroS H g vv xs (fun s : ByteArray => [V.str s]) 1)) := by
            refine ⟨?_⟩
            rcases hcase with ⟨rfl, hnone⟩ | ⟨r', xs, vv, rfl, h6, hgro, hxl, hmany⟩
            · rw [hnone]; exact ⟨hrd, .inl rfl⟩
            · have e0 : n - i = 0 := by omega
              rw [e0, manyD] at hmany
              rw [hmany]
              exact ⟨hrd, .inr ⟨xs, r', vv, by simp, h6, hgro⟩⟩
          have hkd := Hid.mk hk
          simp only [spread_t,spread_f,spread_n,Nat.zero_add,Nat.reduceAdd,h7]
          clear hW hQ' hcase hrd hk
          (repeat' (first | (simp -implicitDefEqProofs (maxSteps := 1000000) (disch := first | assumption | omega | (simp only [ZDI]; omega)) only [*,G93,Za,Zb,Zc,Zd,Ze,Zf,Zg,Zh,Zi,Zj,Zk,Zl,Zm,Zn,Zo,Ja,Jb,Jc,J6,Jd,Je,J7,J8,Jf,Jg,Jh,Ji,Jj,Jk,J9,Jl,Jm,wr,Jn,JA,JB,Jo,Jp,Jq,Jr,Js,Jt,Ju,Jv,Jw,Jx,Jy,Jz,J0,J1,J2,J3,J4,J5,reduceCtorEq,JC,JD,JE,JF,JG,JH,JI,JJ]) | ((with_reducible (first | apply Ok.br | apply Ok.gd | apply Ok.ld)) <;> (intro g; (try simp only [ZGS] at g); try (exfalso; omega)))))
          exact Turn.exit ⟨rfl, rfl, w, q, rfl, hpost.out.1, hkd.out, hpost.out.2⟩
      · intro y ⟨e', l', g⟩ hW ⟨hy, w, q, k2, hrd, hk, hcase⟩
        dsimp only at hW k2 hrd hk hcase
        subst l' hy
        rw [hW.spread]
        clear hW
        have eBad := rdBad_at hrd
        rcases hcase with hnone | ⟨xs, r', vv, hsome, h6, hgro⟩
        · simp only [hnone,Option.map_none,Option.isNone_none] at eBad hrd
          simp only [spread_t,spread_f,spread_n,Nat.zero_add,Nat.reduceAdd]
          have hq := hbad'.out _ (hI'.out.trans hnone) hrd hk
          clear hQ' hrd hk hnone
          (repeat' (first | (simp -implicitDefEqProofs (maxSteps := 1000000) (disch := first | assumption | omega | (simp only [ZDI]; omega)) only [*,G93,Za,Zb,Zc,Zd,Ze,Zf,Zg,Zh,Zi,Zj,Zk,Zl,Zm,Zn,Zo,Ja,Jb,Jc,J6,Jd,Je,J7,J8,Jf,Jg,Jh,Ji,Jj,Jk,J9,Jl,Jm,wr,Jn,JA,JB,Jo,Jp,Jq,Jr,Js,Jt,Ju,Jv,Jw,Jx,Jy,Jz,J0,J1,J2,J3,J4,J5,reduceCtorEq,JC,JD,JE,JF,JG,JH,JI,JJ]) | ((with_reducible (first | apply Ok.br | apply Ok.gd | apply Ok.ld)) <;> (intro g; (try simp only [ZGS] at g); try (exfalso; omega)))))
          exact hq.out
        · simp only [hsome,Option.map_some,Option.isNone_some] at eBad hrd
          simp only [spread_t,spread_f,spread_n,Nat.zero_add,Nat.reduceAdd,h6]
          have hq : Hid (Q (vv, g)) := ⟨hQ'.out _ ⟨.inr ⟨xs, r', hI'.out.trans hsome, hgro⟩, by rw [hI'.out, hsome]; exact hrd, hk⟩⟩
          clear hQ' hrd hk hsome hgro
          (repeat' (first | (simp -implicitDefEqProofs (maxSteps := 1000000) (disch := first | assumption | omega | (simp only [ZDI]; omega)) only [*,G93,Za,Zb,Zc,Zd,Ze,Zf,Zg,Zh,Zi,Zj,Zk,Zl,Zm,Zn,Zo,Ja,Jb,Jc,J6,Jd,Je,J7,J8,Jf,Jg,Jh,Ji,Jj,Jk,J9,Jl,Jm,wr,Jn,JA,JB,Jo,Jp,Jq,Jr,Js,Jt,Ju,Jv,Jw,Jx,Jy,Jz,J0,J1,J2,J3,J4,J5,reduceCtorEq,JC,JD,JE,JF,JG,JH,JI,JJ]) | ((with_reducible (first | apply Ok.br | apply Ok.gd | apply Ok.ld)) <;> (intro g; (try simp only [ZGS] at g); try (exfalso; omega)))))
          exact hq.out
end Go.Ev
set_option maxRecDepth 100000
namespace Go.Ev
open Go.Ev renaming exPure -> Ja, ofValue -> Jb, cellsV -> Jc, load -> Jd, store -> Je, binOp -> Jf, intOp -> Jg, rdV -> Jh, vsame -> Ji, vsames -> Jj, makeSliceV -> Jk, resV -> Jl, isCell -> Jm, nilCheckV -> Jn, allV -> Jo, builtinV -> Jp, lenV -> Jq, indexAddrV -> Jr, unOp -> Js, minmaxV -> Jt, minmax -> Ju, sliceV -> Jv, asInt -> Jw, appendV -> Jx, forkB -> Jy, roY -> Jz, rwB -> J0, copyV -> J1, clearV -> J2, convV -> J3, sliceCells -> J4, shift -> J5
open Bool renaming true -> BT, false -> BF
open Nat renaming reduceEqDiff -> J6, reduceLT -> J7, reduceAdd -> J8, reduceBEq -> J9, reduceSub -> JA, reduceMul -> JB, reduceLeDiff -> JJ
open Int renaming reduceLT -> JC, reduceLE -> JD, reduceAdd -> JE, reduceSub -> JF, reduceNeg -> JG, reduceToNat -> JH, reduceEq -> JI
open Go.Proofs
def vl {α : Type} (x : Option (α × List UInt8)) (d : α) : α := (x.map (·.1)).getD d
def rs {α : Type} (x : Option (α × List UInt8)) : Option (List UInt8) := x.map (·.2)
theorem took_step {α : Type} {dec : Dec α} {d : α} {f : α -> V} {fn : V} {args : List V} {H g : Heap} {p : Nat} {v : V} {bs : List UInt8} {st0 st : Option (List UInt8)}
    (hF : ∀ G, RdAt G p v bs st -> Ev.Ok (D X fn args G) (Took dec d f p v bs st G)) (h : RdAt H p v bs st0) (hrd : RdAt g p v bs st) (hk : Keeps [p] H g) {cs : List V} (hc : hcells g H.length 0 = some (true, cs)) (cs' : List V) :
    ∃ x a g', x = st.bind dec /\ a = vl x d /\ D X fn args (g.set H.length (.cells 0 true cs')) = some (f a, g') /\ RdAt g' p v bs (rs x) /\ Keeps [p] H g' /\ hcells g' H.length 0 = some (true, cs') /\ H.length < g'.length /\ Keeps [p, H.length] g g' := by
  obtain ⟨kp, _, _, hp⟩ := h.cells
  have hpl := hcells_lt hp
  have hcl := hcells_lt hc
  have h1 : RdAt (g.set H.length (.cells 0 true cs')) p v bs st := h.grow hrd fun i hi => List.getElem?_set_ne (by omega)
  obtain ⟨⟨w, g'⟩, e, hv, hr, hk2⟩ := hF _ h1
  dsimp only at hv hr hk2
  subst hv
  have hc' := hk2.cells (hcells_set_eq hcl) (by simp; omega)
  exact ⟨_, _, g', rfl, rfl, e, hr, (hk.set (.inr (Nat.le_refl _)) _).trans ⟨hk2.1, hk2.2⟩, hc', hcells_lt hc', ((Keeps.refl [p, H.length] g).set (.inl (by simp)) _).trans ⟨hk2.1, fun i hi hF => hk2.2 i hi fun e => hF (by simp at e; simp [e])⟩⟩
theorem GroS.keep {α : Type} {H h h' : Heap} {v : V} {xs : List α} {f : α -> List V} {z p : Nat} (hg : GroS H h v xs f z) (hk : Keeps [p] h h') (hp : p < H.length) : GroS H h' v xs f z := by
  rcases hg with hg | ⟨b, g, h1, h2, h3, h4⟩
  · exact .inl hg
  · exact .inr ⟨b, g, h1, h2, h3, hk.cells h4 (by simp; omega)⟩
theorem GroS.keep2 {α : Type} {H h h' : Heap} {v : V} {xs : List α} {f : α -> List V} {z p q : Nat} (hg : GroS H h v xs f z) (hk : Keeps [p, q] h h') (hp : p < H.length) (hq : q < H.length) : GroS H h' v xs f z := by
  rcases hg with hg | ⟨b, g, h1, h2, h3, h4⟩
  · exact .inl hg
  · exact .inr ⟨b, g, h1, h2, h3, hk.cells h4 (by simp; omega)⟩
theorem GroS.set {α : Type} {H h : Heap} {v : V} {xs : List α} {f : α -> List V} {z i : Nat} (hg : GroS H h v xs f z) (hi : i < H.length) (x : Blk) : GroS H (h.set i x) v xs f z := by
  rcases hg with hg | ⟨b, g, h1, h2, h3, h4⟩
  · exact .inl hg
  · exact .inr ⟨b, g, h1, h2, h3, by rw [hcells_set_ne (by omega)]; exact h4⟩
theorem GroS.low {α : Type} {H0 H h : Heap} {v : V} {xs : List α} {f : α -> List V} {z : Nat} (hg : GroS H h v xs f z) (hl : H0.length <= H.length) : GroS H0 h v xs f z := by
  rcases hg with hg | ⟨b, g, h1, h2, h3, h4⟩
  · exact .inl hg
  · exact .inr ⟨b, g, by omega, h2, h3, h4⟩
theorem manyD_len {α : Type} {d : Dec α} : ∀ {n : Nat} {l : List UInt8} {xs : List α} {r : List UInt8}, manyD d n l = some (xs, r) -> xs.length = n
  | 0, l, xs, r, h => by cases h; rfl
  | n + 1, l, xs, r, h => by
    rw [manyD] at h
    cases hd : d l with
    | none => rw [hd] at h; cases h
    | some x =>
      rw [hd, Option.bind_some] at h
      cases hm : manyD d n x.2 with
      | none => rw [hm] at h; cases h
      | some y =>
        rw [hm] at h
        cases h
        rw [List.length_cons, manyD_len (xs := y.1) (r := y.2) hm]
theorem listD_len {α : Type} {d : Dec α} {st : Option (List UInt8)} {xs : List α} {r : List UInt8} (h : st.bind (listD d) = some (xs, r)) : xs.length <= 4096 := by
  cases st with
  | none => cases h
  | some l =>
    rw [Option.bind_some, listD] at h
    cases hn : numD l with
    | none => rw [hn] at h; cases h
    | some x =>
      rw [hn, Option.bind_some] at h
      split at h
      · cases h
      · have := manyD_len h; omega
theorem GroS.strs {H h : Heap} {v : V} {xs : List ByteArray} (hg : GroS H h v xs (fun s => [V.str s]) 1) (hl : xs.length <= 4096) : StrsAt h v xs := by
  rcases hg with ⟨rfl, rfl⟩ | ⟨b, g, h1, h2, h3, h4⟩
  · exact ⟨.nil, 0, 0, rfl, by simp, trivial, .inl rfl⟩
  · refine ⟨_, _, _, h3, by omega, trivial, .inr ⟨b, g, 0, _, _, rfl, h4, fun i s hs => ?_⟩⟩
    rw [Nat.zero_add]
    have : ∀ (l : List ByteArray) (j : Nat), l[j]? = some s -> (l.flatMap fun s => [V.str s])[j]? = some (.str s) := by
      intro l
      induction l with
      | nil => intro j hj; simp at hj
      | cons y l ih =>
        intro j hj
        rw [List.flatMap_cons]
        cases j with
        | zero => simp at hj; subst hj; rfl
        | succ j => simpa using ih j (by simpa using hj)
    exact this xs i hs
abbrev CmT := Int × Int × Int × Int × Int × List ByteArray
def cmdD : Dec CmT := fun l => (byteD l).bind fun x0 => (intD x0.2).bind fun x1 => (intD x1.2).bind fun x2 => (intD x2.2).bind fun x3 => (intD x3.2).bind fun x4 => (listD textD x4.2).bind fun x5 => some ((((x0.1.toNat : Nat) : Int), x1.1, x2.1, x3.1, x4.1, x5.1), x5.2)
def CmdTook (p : Nat) (v : V) (bs : List UInt8) (st : Option (List UInt8)) (H : Heap) (y : V × Heap) : Prop :=
  ∃ o c q f t dv dl, y.1 = .agg (cmV o c q f t dv) /\ GroS H y.2 dv dl (fun s => [V.str s]) 1 /\ ((st.bind cmdD = none /\ o = 0 /\ c = 0 /\ q = 0 /\ f = 0 /\ t = 0 /\ dv = .sl .nil 0 0 0 /\ dl = []) \/ ∃ r, st.bind cmdD = some ((o, c, q, f, t, dl), r) /\ dl.length <= 4096) /\ RdAt y.2 p v bs ((st.bind cmdD).map (·.2)) /\ Keeps [p] H y.2
theorem cmdD_run {st : Option (List UInt8)} {x0 : Option (UInt8 × List UInt8)} {x1 x2 x3 x4 : Option (Int × List UInt8)} {x5 : Option (List ByteArray × List UInt8)} (h0 : x0 = st.bind byteD) (h1 : x1 = (rs x0).bind intD) (h2 : x2 = (rs x1).bind intD) (h3 : x3 = (rs x2).bind intD) (h4 : x4 = (rs x3).bind intD) (h5 : x5 = (rs x4).bind (listD textD)) :
    st.bind cmdD = x5.map fun y => (((((vl x0 0).toNat : Nat) : Int), vl x1 0, vl x2 0, vl x3 0, vl x4 0, y.1), y.2) := by
  have e : st.bind cmdD = x0.bind fun x0 => (intD x0.2).bind fun x1 => (intD x1.2).bind fun x2 => (intD x2.2).bind fun x3 => (intD x3.2).bind fun x4 => (listD textD x4.2).bind fun x5 => some ((((x0.1.toNat : Nat) : Int), x1.1, x2.1, x3.1, x4.1, x5.1), x5.2) := by rw [h0]; cases st <;> rfl
  rw [e]
  clear e h0
  cases x0 with
  | none => subst h1; cases h2; cases h3; cases h4; subst h5; rfl
  | some x0 =>
    simp only [rs,Option.map_some,Option.bind_some] at h1 ⊢
    rw [<- h1]
    cases x1 with
    | none => cases h2; cases h3; cases h4; subst h5; rfl
    | some x1 =>
      simp only [rs,Option.map_some,Option.bind_some] at h2 ⊢
      rw [<- h2]
      cases x2 with
      | none => cases h3; cases h4; subst h5; rfl
      | some x2 =>
        simp only [rs,Option.map_some,Option.bind_some] at h3 ⊢
        rw [<- h3]
        cases x3 with
        | none => cases h4; subst h5; rfl
        | some x3 =>
          simp only [rs,Option.map_some,Option.bind_some] at h4 ⊢
          rw [<- h4]
          cases x4 with
          | none => subst h5; rfl
          | some x4 =>
            simp only [rs,Option.map_some,Option.bind_some] at h5 ⊢
            rw [<- h5]
            cases x5 <;> rfl
set_option maxHeartbeats 16000000 in
theorem rdCmd_at {H : Heap} {p : Nat} {v : V} {bs : List UInt8} {st : Option (List UInt8)} (h : RdAt H p v bs st) : Ev.Ok (D X (.fn 70 []) [.ptr p 0 0] H) (CmdTook p v bs st H) := by
  refine Ok.aim fun Q hQ => ?_
  have hQ' := Hid.mk hQ
  clear hQ
  obtain ⟨kp, _, _, hp⟩ := h.cells
  have hpl := hcells_lt hp
  obtain ⟨⟨w0, g0⟩, e0, hv0, r0, k0⟩ := rdByte_at (h.keep (Keeps.app [] H [.cells 0 true [.int .i64 0, .int .i64 0, .int .i64 0, .int .i64 0, .int .i64 0, .sl .nil 0 0 0]]))
  dsimp only at hv0 r0 k0
  have c0 := k0.cells hc_new (by simp; omega)
  have l0 := hcells_lt c0
  obtain ⟨x0, hx0⟩ : ∃ x, x = st.bind byteD := ⟨_, rfl⟩
  obtain ⟨a0, ha0⟩ : ∃ a, a = (vl x0 0).toNat := ⟨_, rfl⟩
  have hb0 : a0 < 256 := by rw [ha0]; exact UInt8.toNat_lt _
  rw [<- hx0] at hv0 r0
  change w0 = .int .u8 (((vl x0 0).toNat : Nat) : Int) at hv0
  change RdAt g0 p v bs (rs x0) at r0
  rw [<- ha0] at hv0
  subst hv0
  obtain ⟨x1, a1, g1, hx1, ha1, e1, r1, k1, c1, l1, _⟩ := took_step (fun G hG => rdInt_at hG) h r0 ((Keeps.app [p] H _).trans k0) c0 [.int .i64 (a0 : Nat), .int .i64 0, .int .i64 0, .int .i64 0, .int .i64 0, .sl .nil 0 0 0]
  obtain ⟨x2, a2, g2, hx2, ha2, e2, r2, k2, c2, l2, _⟩ := took_step (fun G hG => rdInt_at hG) h r1 k1 c1 [.int .i64 (a0 : Nat), .int .i64 a1, .int .i64 0, .int .i64 0, .int .i64 0, .sl .nil 0 0 0]
  obtain ⟨x3, a3, g3, hx3, ha3, e3, r3, k3, c3, l3, _⟩ := took_step (fun G hG => rdInt_at hG) h r2 k2 c2 [.int .i64 (a0 : Nat), .int .i64 a1, .int .i64 a2, .int .i64 0, .int .i64 0, .sl .nil 0 0 0]
  obtain ⟨x4, a4, g4, hx4, ha4, e4, r4, k4, c4, l4, _⟩ := took_step (fun G hG => rdInt_at hG) h r3 k3 c3 [.int .i64 (a0 : Nat), .int .i64 a1, .int .i64 a2, .int .i64 a3, .int .i64 0, .sl .nil 0 0 0]
  have r4' : RdAt (g4.set H.length (.cells 0 true [.int .i64 (a0 : Nat), .int .i64 a1, .int .i64 a2, .int .i64 a3, .int .i64 a4, .sl .nil 0 0 0])) p v bs (rs x4) := h.grow r4 fun i hi => List.getElem?_set_ne (by omega)
  obtain ⟨⟨w5, g5⟩, e5, hv5, r5, k5⟩ := getTexts_at r4'
  obtain ⟨x5, hx5⟩ : ∃ x, x = (rs x4).bind (listD textD) := ⟨_, rfl⟩
  dsimp only at hv5 r5 k5
  rw [<- hx5] at hv5 r5
  have c5 := k5.cells (hcells_set_eq l4) (by simp; omega)
  have l5 := hcells_lt c5
  have K5 : Keeps [p] H g5 := (k4.set (.inr (Nat.le_refl _)) _).trans ⟨k5.1, fun i hi hF => k5.2 i hi hF⟩
  have hrun := cmdD_run hx0 hx1 hx2 hx3 hx4 hx5
  rw [<- ha0, <- ha1, <- ha2, <- ha3, <- ha4] at hrun
  have hsl : ∃ s n c z, w5 = .sl s n c z := by
    rcases hv5 with ⟨_, rfl⟩ | ⟨xs, r, _, ⟨_, rfl⟩ | ⟨b, q, _, _, rfl, _⟩⟩
    · exact ⟨_, _, _, _, rfl⟩
    · exact ⟨_, _, _, _, rfl⟩
    · exact ⟨_, _, _, _, rfl⟩
  have r6 : RdAt (g5.set H.length (.cells 0 true [.int .i64 (a0 : Nat), .int .i64 a1, .int .i64 a2, .int .i64 a3, .int .i64 a4, w5])) p v bs (rs x5) := h.grow r5 fun i hi => List.getElem?_set_ne (by omega)
  have eBad := rdBad_at r6
  have hst : (st.bind cmdD).map (·.2) = rs x5 := by rw [hrun]; cases x5 <;> rfl
  have hfin : ∀ o c q f t dv dl cs, GroS (g4.set H.length (.cells 0 true [.int .i64 (a0 : Nat), .int .i64 a1, .int .i64 a2, .int .i64 a3, .int .i64 a4, .sl .nil 0 0 0])) g5 dv dl (fun s => [V.str s]) 1 -> ((st.bind cmdD = none /\ o = 0 /\ c = 0 /\ q = 0 /\ f = 0 /\ t = 0 /\ dv = .sl .nil 0 0 0 /\ dl = []) \/ ∃ r, st.bind cmdD = some ((o, c, q, f, t, dl), r) /\ dl.length <= 4096) -> Q (.agg (cmV o c q f t dv), g5.set H.length (.cells 0 true cs)) := fun o c q f t dv dl cs z1 z2 =>
    hQ'.out _ ⟨o, c, q, f, t, dv, dl, rfl, (z1.set (by simpa using l4) _).low (by have := k4.1; simp; omega), z2, by rw [hst]; exact h.grow r5 fun i hi => List.getElem?_set_ne (by omega), K5.set (.inr (Nat.le_refl _)) _⟩
  clear r0 r1 r2 r3 r4 r4' r5 r6 k0 k1 k2 k3 k4 k5 K5 hx0 hx1 hx2 hx3 hx4 ha0 ha1 ha2 ha3 ha4 hQ' hst h hp
  cases x5
  case' none =>
    have hw : w5 = .sl .nil 0 0 0 := by
      rcases hv5 with ⟨_, e⟩ | ⟨xs, r, e, _⟩
      · exact e
      · cases e
    subst hw
    simp only [rs,Option.map_none,Option.isNone_none] at eBad
    have hq : ∀ cs, Q (.agg (cmV 0 0 0 0 0 (.sl .nil 0 0 0)), g5.set H.length (.cells 0 true cs)) := fun cs => hfin 0 0 0 0 0 _ [] cs (.inl ⟨rfl, rfl⟩) (.inl ⟨hrun, rfl, rfl, rfl, rfl, rfl, rfl, rfl⟩)
    have hq' := Hid.mk hq
    clear hfin hrun hq hv5 hsl hx5
  case' some y =>
    obtain ⟨xs, r⟩ := y
    have hg : GroS (g4.set H.length (.cells 0 true [.int .i64 (a0 : Nat), .int .i64 a1, .int .i64 a2, .int .i64 a3, .int .i64 a4, .sl .nil 0 0 0])) g5 w5 xs (fun s => [V.str s]) 1 := by
      rcases hv5 with ⟨e, _⟩ | ⟨xs', r', e, hg⟩
      · cases e
      · cases e; exact hg
    simp only [rs,Option.map_some,Option.isNone_some] at eBad
    have hq : ∀ cs, Q (.agg (cmV (a0 : Nat) a1 a2 a3 a4 w5), g5.set H.length (.cells 0 true cs)) := fun cs => hfin _ _ _ _ _ _ _ cs hg (.inr ⟨r, hrun, listD_len hx5.symm⟩)
    have hq' := Hid.mk hq
    obtain ⟨sa, sn, sc, sz, rfl⟩ := hsl
    clear hfin hrun hq hv5 hx5 hg
  all_goals
    (refine Ok.body body70 pin70 ?_; simp only [c70,Try.f70,Option.getD_some,nslot70,List.append_nil,List.map,List.replicate,List.length_cons,List.length_nil,Nat.reduceAdd,Nat.reduceSub,List.cons_append,List.nil_append])
    (repeat' (first | (simp -implicitDefEqProofs (maxSteps := 1000000) (disch := first | assumption | omega | (simp only [ZDI]; omega)) only [*,lenV,G70,Za,Zb,Zc,Zd,Ze,Zf,Zg,Zh,Zi,Zj,Zk,Zl,Zm,Zn,Zo,Ja,Jb,Jc,J6,Jd,Je,J7,J8,Jf,Jg,Jh,Ji,Jj,Jk,J9,Jl,Jm,wr,Jn,JA,JB,Jo,Jp,Jq,Jr,Js,Jt,Ju,Jv,Jw,Jx,Jy,Jz,J0,J1,J2,J3,J4,J5,reduceCtorEq,JC,JD,JE,JF,JG,JH,JI,JJ]) | ((with_reducible (first | apply Ok.br | apply Ok.gd | apply Ok.ld)) <;> (intro g; (try simp only [ZGS] at g); try (exfalso; omega)))))
    refine Ok.unroll ?_
    (repeat' (first | (simp -implicitDefEqProofs (maxSteps := 1000000) (disch := first | assumption | omega | (simp only [ZDI]; omega)) only [*,lenV,G70,Za,Zb,Zc,Zd,Ze,Zf,Zg,Zh,Zi,Zj,Zk,Zl,Zm,Zn,Zo,Ja,Jb,Jc,J6,Jd,Je,J7,J8,Jf,Jg,Jh,Ji,Jj,Jk,J9,Jl,Jm,wr,Jn,JA,JB,Jo,Jp,Jq,Jr,Js,Jt,Ju,Jv,Jw,Jx,Jy,Jz,J0,J1,J2,J3,J4,J5,reduceCtorEq,JC,JD,JE,JF,JG,JH,JI,JJ]) | ((with_reducible (first | apply Ok.br | apply Ok.gd | apply Ok.ld)) <;> (intro g; (try simp only [ZGS] at g); try (exfalso; omega)))))
    refine Ok.unroll ?_
    (repeat' (first | (simp -implicitDefEqProofs (maxSteps := 1000000) (disch := first | assumption | omega | (simp only [ZDI]; omega)) only [*,lenV,G70,Za,Zb,Zc,Zd,Ze,Zf,Zg,Zh,Zi,Zj,Zk,Zl,Zm,Zn,Zo,Ja,Jb,Jc,J6,Jd,Je,J7,J8,Jf,Jg,Jh,Ji,Jj,Jk,J9,Jl,Jm,wr,Jn,JA,JB,Jo,Jp,Jq,Jr,Js,Jt,Ju,Jv,Jw,Jx,Jy,Jz,J0,J1,J2,J3,J4,J5,reduceCtorEq,JC,JD,JE,JF,JG,JH,JI,JJ]) | ((with_reducible (first | apply Ok.br | apply Ok.gd | apply Ok.ld)) <;> (intro g; (try simp only [ZGS] at g); try (exfalso; omega)))))
    refine Ok.unroll ?_
    (repeat' (first | (simp -implicitDefEqProofs (maxSteps := 1000000) (disch := first | assumption | omega | (simp only [ZDI]; omega)) only [*,lenV,G70,Za,Zb,Zc,Zd,Ze,Zf,Zg,Zh,Zi,Zj,Zk,Zl,Zm,Zn,Zo,Ja,Jb,Jc,J6,Jd,Je,J7,J8,Jf,Jg,Jh,Ji,Jj,Jk,J9,Jl,Jm,wr,Jn,JA,JB,Jo,Jp,Jq,Jr,Js,Jt,Ju,Jv,Jw,Jx,Jy,Jz,J0,J1,J2,J3,J4,J5,reduceCtorEq,JC,JD,JE,JF,JG,JH,JI,JJ]) | ((with_reducible (first | apply Ok.br | apply Ok.gd | apply Ok.ld)) <;> (intro g; (try simp only [ZGS] at g); try (exfalso; omega)))))
    refine Ok.unroll ?_
    (repeat' (first | (simp -implicitDefEqProofs (maxSteps := 1000000) (disch := first | assumption | omega | (simp only [ZDI]; omega)) only [*,lenV,G70,Za,Zb,Zc,Zd,Ze,Zf,Zg,Zh,Zi,Zj,Zk,Zl,Zm,Zn,Zo,Ja,Jb,Jc,J6,Jd,Je,J7,J8,Jf,Jg,Jh,Ji,Jj,Jk,J9,Jl,Jm,wr,Jn,JA,JB,Jo,Jp,Jq,Jr,Js,Jt,Ju,Jv,Jw,Jx,Jy,Jz,J0,J1,J2,J3,J4,J5,reduceCtorEq,JC,JD,JE,JF,JG,JH,JI,JJ]) | ((with_reducible (first | apply Ok.br | apply Ok.gd | apply Ok.ld)) <;> (intro g; (try simp only [ZGS] at g); try (exfalso; omega)))))
    refine Ok.unroll ?_
    (repeat' (first | (simp -implicitDefEqProofs (maxSteps := 1000000) (disch := first | assumption | omega | (simp only [ZDI]; omega)) only [*,lenV,G70,Za,Zb,Zc,Zd,Ze,Zf,Zg,Zh,Zi,Zj,Zk,Zl,Zm,Zn,Zo,Ja,Jb,Jc,J6,Jd,Je,J7,J8,Jf,Jg,Jh,Ji,Jj,Jk,J9,Jl,Jm,wr,Jn,JA,JB,Jo,Jp,Jq,Jr,Js,Jt,Ju,Jv,Jw,Jx,Jy,Jz,J0,J1,J2,J3,J4,J5,reduceCtorEq,JC,JD,JE,JF,JG,JH,JI,JJ]) | ((with_reducible (first | apply Ok.br | apply Ok.gd | apply Ok.ld)) <;> (intro g; (try simp only [ZGS] at g); try (exfalso; omega)))))
    exact hq'.out _
end Go.Ev
set_option maxRecDepth 100000
namespace Go.Ev
open Go.Proofs
theorem ofNat_small {k : Nat} (h : k < 256) : (UInt8.ofNat k).toNat = k := by rw [UInt8.toNat_ofNat']; omega
theorem numF_hi : ∀ (m : Nat) (rest : List UInt8), m < 144115188075855872 -> numF true 0 (hiE m ++ rest) = if m = 0 then numF true 0 rest else numF false m rest := by
  intro m
  induction m using Nat.strongRecOn with
  | ind m ih =>
    intro rest hm
    by_cases h0 : m = 0
    · subst h0; rw [hiE]; simp
    · rw [if_neg h0, hiE, if_neg h0, List.append_assoc, ih (m / 128) (by omega) _ (by omega)]
      have hc : (UInt8.ofNat (m % 128 + 128)).toNat = m % 128 + 128 := ofNat_small (by omega)
      by_cases h1 : m / 128 = 0
      · rw [if_pos h1, List.cons_append, List.nil_append, numF, hc, if_neg (by omega), if_neg (by omega)]
        congr 1; omega
      · rw [if_neg h1, List.cons_append, List.nil_append, numF, hc, if_neg (by simp; omega), if_neg (by omega)]
        congr 1; omega
theorem numD_E {n : Nat} (hn : n < 18446744073709551616) (r : List UInt8) : numD (numE n ++ r) = some (n, r) := by
  unfold numD numE
  rw [List.append_assoc, numF_hi _ _ (by omega)]
  have hc : (UInt8.ofNat (n % 128)).toNat = n % 128 := ofNat_small (by omega)
  by_cases h1 : n / 128 = 0
  · rw [if_pos h1, List.cons_append, List.nil_append, numF, hc, if_neg (by omega), if_pos (by omega)]
    congr 2; omega
  · rw [if_neg h1, List.cons_append, List.nil_append, numF, hc, if_neg (by simp; omega), if_pos (by omega)]
    congr 2; omega
theorem intD_E {n : Int} (hn : In64' n) (r : List UInt8) : intD (intE n ++ r) = some (n, r) := by
  unfold In64' at hn
  unfold intE intD
  by_cases h : n < 0
  · rw [if_pos h]
    simp only [List.cons_append,byteD,Option.bind_some]
    rw [numD_E (by omega)]
    simp only [Option.bind_some]
    rw [if_neg (by have : (1 : UInt8).toNat = 1 := rfl; omega), if_pos (show UInt8.toNat 1 = 1 from rfl)]
    congr 2; omega
  · rw [if_neg h]
    simp only [List.cons_append,byteD,Option.bind_some]
    rw [numD_E (by omega)]
    simp only [Option.bind_some]
    rw [if_neg (by have : (0 : UInt8).toNat = 0 := rfl; omega), if_neg (by decide)]
    congr 2; omega
theorem boolD_E (b : Bool) (r : List UInt8) : boolD ((if b then 1 else 0) :: r) = some (b, r) := by
  cases b <;> rfl
theorem textD_E {s : ByteArray} (hs : s.size <= 1048576) (r : List UInt8) : textD (textE s ++ r) = some (s, r) := by
  have hl : s.data.toList.length = s.size := by rw [Array.length_toList]; rfl
  unfold textD textE
  rw [List.append_assoc, numD_E (by omega)]
  simp only [Option.bind_some]
  rw [if_neg (by rw [List.length_append, hl]; omega), <- hl, List.take_left, List.drop_left]
theorem manyD_E {α : Type} {d : Dec α} {e : α -> List UInt8} (r : List UInt8) : ∀ (xs : List α), (∀ x ∈ xs, ∀ r, d (e x ++ r) = some (x, r)) -> manyD d xs.length (xs.flatMap e ++ r) = some (xs, r)
  | [], _ => rfl
  | x :: xs, h => by
    rw [List.length_cons, manyD, List.flatMap_cons, List.append_assoc, h x (by simp)]
    simp only [Option.bind_some]
    rw [manyD_E r xs fun y hy => h y (by simp [hy])]
    rfl
theorem flat_pos {α : Type} {e : α -> List UInt8} (he : ∀ x, 0 < (e x).length) : ∀ xs : List α, xs.length <= (xs.flatMap e).length
  | [] => by simp
  | x :: xs => by
    have := flat_pos he xs
    have := he x
    rw [List.flatMap_cons, List.length_append, List.length_cons]; omega
theorem listD_E {α : Type} {d : Dec α} {e : α -> List UInt8} (he : ∀ x, 0 < (e x).length) (r : List UInt8) (xs : List α) (hl : xs.length <= 4096) (h : ∀ x ∈ xs, ∀ r, d (e x ++ r) = some (x, r)) : listD d (numE xs.length ++ (xs.flatMap e ++ r)) = some (xs, r) := by
  unfold listD
  rw [numD_E (by omega)]
  simp only [Option.bind_some]
  rw [if_neg (by have := flat_pos he xs; rw [List.length_append]; omega)]
  exact manyD_E r xs h
theorem textE_pos (s : ByteArray) : 0 < (textE s).length := by unfold textE; rw [List.length_append]; have := numE_pos s.size; omega
theorem cmdD_E {o c q f t : Int} {l : List ByteArray} (ho : 0 <= o /\ o < 256) (hc : In64' c) (hq : In64' q) (hf : In64' f) (ht : In64' t) (hl : l.length <= 4096) (hs : ∀ s ∈ l, s.size <= 1048576) (r : List UInt8) :
    cmdD (cmdE o c q f t l ++ r) = some ((o, c, q, f, t, l), r) := by
  unfold cmdD cmdE textsE
  simp only [List.append_assoc,List.cons_append,List.nil_append,byteD,Option.bind_some]
  rw [intD_E hc]
  simp only [Option.bind_some]
  rw [intD_E hq]
  simp only [Option.bind_some]
  rw [intD_E hf]
  simp only [Option.bind_some]
  rw [intD_E ht]
  simp only [Option.bind_some]
  rw [listD_E textE_pos r l hl fun s h r => textD_E (hs s h) r]
  simp only [Option.bind_some]
  rw [ofNat_small (by omega)]
  congr 3; omega
def Loc {α : Type} (d : Dec α) : Prop := ∀ s v r t, d s = some (v, r) -> d (s ++ t) = some (v, r ++ t)
theorem Loc.cut {α : Type} {d : Dec α} (h : Loc d) {s : List UInt8} {c : UInt8} {x : α} (he : d (s ++ [c]) = some (x, [])) : d s = none := by
  cases hd : d s with
  | none => rfl
  | some y =>
    have := h s y.1 y.2 [c] hd
    rw [he] at this
    simp at this
theorem byteD_loc : Loc byteD := by
  intro s v r t h
  cases s with
  | nil => cases h
  | cons c s => cases h; rfl
theorem numF_loc : ∀ (s : List UInt8) (f : Bool) (n v : Nat) (r t : List UInt8), numF f n s = some (v, r) -> numF f n (s ++ t) = some (v, r ++ t)
  | [], f, n, v, r, t, h => by simp [numF] at h
  | c :: s, f, n, v, r, t, h => by
    rw [numF] at h
    rw [List.cons_append, numF]
    split at h
    · cases h
    · rename_i h1
      rw [if_neg h1]
      split at h
      · rename_i h2; rw [if_pos h2]; cases h; rfl
      · rename_i h2; rw [if_neg h2]; exact numF_loc s _ _ _ _ _ h
theorem numD_loc : Loc numD := fun s v r t h => numF_loc s _ _ v r t h
theorem intD_loc : Loc intD := by
  intro s v r t h
  unfold intD at h ⊢
  cases e1 : byteD s with
  | none => rw [e1] at h; cases h
  | some y1 =>
    rw [e1] at h
    have e1' := byteD_loc s y1.1 y1.2 t e1
    rw [e1']
    simp only [Option.bind_some] at h ⊢
    cases e2 : numD y1.2 with
    | none => rw [e2] at h; cases h
    | some y2 =>
      rw [e2] at h
      have e2' := numD_loc y1.2 y2.1 y2.2 t e2
      rw [e2']
      simp only [Option.bind_some] at h ⊢
      split at h
      · cases h
      · rename_i h1
        rw [if_neg h1]
        cases h; rfl
theorem boolD_loc : Loc boolD := by
  intro s v r t h
  unfold boolD at h ⊢
  cases e1 : byteD s with
  | none => rw [e1] at h; cases h
  | some y1 =>
    rw [e1] at h
    have e1' := byteD_loc s y1.1 y1.2 t e1
    rw [e1']
    simp only [Option.bind_some] at h ⊢
    split at h
    · cases h
    · rename_i h1
      rw [if_neg h1]
      cases h; rfl
theorem textD_loc : Loc textD := by
  intro s v r t h
  unfold textD at h ⊢
  cases e1 : numD s with
  | none => rw [e1] at h; cases h
  | some y1 =>
    rw [e1] at h
    rw [numD_loc s y1.1 y1.2 t e1]
    simp only [Option.bind_some] at h ⊢
    split at h
    · cases h
    · rename_i h1
      cases h
      rw [if_neg (by rw [List.length_append]; omega), List.take_append_of_le_length (by omega), List.drop_append_of_le_length (by omega)]
theorem manyD_loc {α : Type} {d : Dec α} (hd : Loc d) : ∀ n, Loc (manyD d n)
  | 0 => by intro s v r t h; cases h; rfl
  | n + 1 => by
    intro s v r t h
    rw [manyD] at h ⊢
    cases e1 : d s with
    | none => rw [e1] at h; cases h
    | some y1 =>
      rw [e1] at h
      rw [hd s y1.1 y1.2 t e1]
      simp only [Option.bind_some] at h ⊢
      cases e : manyD d n y1.2 with
      | none => rw [e] at h; cases h
      | some y =>
        rw [e] at h
        rw [manyD_loc hd n y1.2 y.1 y.2 t e]
        cases h; rfl
theorem listD_loc {α : Type} {d : Dec α} (hd : Loc d) : Loc (listD d) := by
  intro s v r t h
  unfold listD at h ⊢
  cases e1 : numD s with
  | none => rw [e1] at h; cases h
  | some y1 =>
    rw [e1] at h
    rw [numD_loc s y1.1 y1.2 t e1]
    simp only [Option.bind_some] at h ⊢
    split at h
    · cases h
    · rename_i h1
      rw [if_neg (by rw [List.length_append]; omega)]
      exact manyD_loc hd _ _ v r t h
theorem cmdD_loc : Loc cmdD := by
  intro s v r t h
  unfold cmdD at h ⊢
  cases e1 : byteD s with
  | none => rw [e1] at h; cases h
  | some y1 =>
    rw [e1] at h
    have e1' := byteD_loc s y1.1 y1.2 t e1
    rw [e1']
    simp only [Option.bind_some] at h ⊢
    cases e2 : intD y1.2 with
    | none => rw [e2] at h; cases h
    | some y2 =>
      rw [e2] at h
      have e2' := intD_loc y1.2 y2.1 y2.2 t e2
      rw [e2']
      simp only [Option.bind_some] at h ⊢
      cases e3 : intD y2.2 with
      | none => rw [e3] at h; cases h
      | some y3 =>
        rw [e3] at h
        have e3' := intD_loc y2.2 y3.1 y3.2 t e3
        rw [e3']
        simp only [Option.bind_some] at h ⊢
        cases e4 : intD y3.2 with
        | none => rw [e4] at h; cases h
        | some y4 =>
          rw [e4] at h
          have e4' := intD_loc y3.2 y4.1 y4.2 t e4
          rw [e4']
          simp only [Option.bind_some] at h ⊢
          cases e5 : intD y4.2 with
          | none => rw [e5] at h; cases h
          | some y5 =>
            rw [e5] at h
            have e5' := intD_loc y4.2 y5.1 y5.2 t e5
            rw [e5']
            simp only [Option.bind_some] at h ⊢
            cases e6 : listD textD y5.2 with
            | none => rw [e6] at h; cases h
            | some y6 =>
              rw [e6] at h
              have e6' := (listD_loc textD_loc) y5.2 y6.1 y6.2 t e6
              rw [e6']
              simp only [Option.bind_some] at h ⊢
              cases h; rfl
end Go.Ev
set_option maxRecDepth 100000
namespace Go.Ev
open Go.Ev renaming exPure -> Ja, ofValue -> Jb, cellsV -> Jc, load -> Jd, store -> Je, binOp -> Jf, intOp -> Jg, rdV -> Jh, vsame -> Ji, vsames -> Jj, makeSliceV -> Jk, resV -> Jl, isCell -> Jm, nilCheckV -> Jn, allV -> Jo, builtinV -> Jp, lenV -> Jq, indexAddrV -> Jr, unOp -> Js, minmaxV -> Jt, minmax -> Ju, sliceV -> Jv, asInt -> Jw, appendV -> Jx, forkB -> Jy, roY -> Jz, rwB -> J0, copyV -> J1, clearV -> J2, convV -> J3, sliceCells -> J4, shift -> J5
open Bool renaming true -> BT, false -> BF
open Nat renaming reduceEqDiff -> J6, reduceLT -> J7, reduceAdd -> J8, reduceBEq -> J9, reduceSub -> JA, reduceMul -> JB, reduceLeDiff -> JJ
open Int renaming reduceLT -> JC, reduceLE -> JD, reduceAdd -> JE, reduceSub -> JF, reduceNeg -> JG, reduceToNat -> JH, reduceEq -> JI
open Go.Proofs
set_option maxHeartbeats 16000000 in
theorem getRefs_at {H : Heap} {p : Nat} {v : V} {bs : List UInt8} {st : Option (List UInt8)} (h : RdAt H p v bs st) : Ev.Ok (D X (.fn 71 []) [.ptr p 0 0, .fn 72 []] H) (Listed H p v bs (st.bind (listD refD)) (fun k : RP => [V.int .i64 k.1, V.int .i64 k.2]) 2) := by
  refine Ok.aim fun Q hQ => ?_
  have hQ' := Hid.mk hQ
  clear hQ
  obtain ⟨⟨vn, g1⟩, eN, hvn, hrd1, hk1⟩ := rdNum_at h
  dsimp only at hvn hrd1 hk1
  have eBad1 := rdBad_at hrd1
  have eLeft := rdLeft_at hrd1
  have eFail := rdFail_at hrd1
  obtain ⟨f1, f2⟩ := hrd1.fail
  have eBadF := rdBad_at f1
  simp only [Option.isNone_none] at eBadF
  have hI : st.bind (listD refD) = (st.bind numD).bind fun x => if 4096 < x.1 \/ x.2.length < x.1 then none else manyD refD x.1 x.2 := by cases st <;> rfl
  have hbad : ∀ g, st.bind (listD refD) = none -> RdAt g p v bs none -> Keeps [p] H g -> Hid (Q (.sl .nil 0 0 0, g)) := fun g e h1 h2 => ⟨hQ'.out _ ⟨.inl ⟨e, rfl⟩, by rw [e]; exact h1, h2⟩⟩
  cases hx : st.bind numD with
  | none =>
    rw [hx] at hI
    simp only [hx,Option.map_none,Option.getD_none,Option.isNone_none,leftN] at hvn hrd1 eBad1 eLeft
    subst hvn
    have hq := hbad _ hI hrd1 hk1
    have hw0 := wrapU (n := 0) (by omega)
    clear hQ' hrd1 hk1 f1 f2 hI hx h hbad eFail eBadF
    (refine Ok.body body71 pin71 ?_; simp only [c71,Try.f71,Option.getD_some,nslot71,List.append_nil,List.map,List.replicate,List.length_cons,List.length_nil,Nat.reduceAdd,Nat.reduceSub,List.cons_append,List.nil_append])
    (repeat' (first | (simp -implicitDefEqProofs (maxSteps := 1000000) (disch := first | assumption | omega | (simp only [ZDI]; omega)) only [*,G71,Za,Zb,Zc,Zd,Ze,Zf,Zg,Zh,Zi,Zj,Zk,Zl,Zm,Zn,Zo,Ja,Jb,Jc,J6,Jd,Je,J7,J8,Jf,Jg,Jh,Ji,Jj,Jk,J9,Jl,Jm,wr,Jn,JA,JB,Jo,Jp,Jq,Jr,Js,Jt,Ju,Jv,Jw,Jx,Jy,Jz,J0,J1,J2,J3,J4,J5,reduceCtorEq,JC,JD,JE,JF,JG,JH,JI,JJ]) | ((with_reducible (first | apply Ok.br | apply Ok.gd | apply Ok.ld)) <;> (intro g; (try simp only [ZGS] at g); try (exfalso; omega)))))
    refine Ok.unroll ?_
    (repeat' (first | (simp -implicitDefEqProofs (maxSteps := 1000000) (disch := first | assumption | omega | (simp only [ZDI]; omega)) only [*,G71,Za,Zb,Zc,Zd,Ze,Zf,Zg,Zh,Zi,Zj,Zk,Zl,Zm,Zn,Zo,Ja,Jb,Jc,J6,Jd,Je,J7,J8,Jf,Jg,Jh,Ji,Jj,Jk,J9,Jl,Jm,wr,Jn,JA,JB,Jo,Jp,Jq,Jr,Js,Jt,Ju,Jv,Jw,Jx,Jy,Jz,J0,J1,J2,J3,J4,J5,reduceCtorEq,JC,JD,JE,JF,JG,JH,JI,JJ]) | ((with_reducible (first | apply Ok.br | apply Ok.gd | apply Ok.ld)) <;> (intro g; (try simp only [ZGS] at g); try (exfalso; omega)))))
    exact hq.out
  | some x =>
    obtain ⟨n, r⟩ := x
    simp only [hx,Option.bind_some] at hI
    simp only [hx,Option.map_some,Option.getD_some,Option.isNone_some,leftN] at hvn hrd1 eBad1 eLeft
    subst hvn
    have hroom := hrd1.room
    obtain ⟨k, hkl, hkr, hcell⟩ := hrd1.cells
    have hkr := hkr r rfl
    have hrl : r.length = bs.length - k := by rw [hkr, List.length_drop]
    have hwl := wrapU (n := (r.length : Int)) (by omega)
    by_cases hbig : 4096 < n \/ r.length < n
    · rw [if_pos hbig] at hI
      have hq := hbad _ hI f1 (hk1.trans f2)
      have hn1 : (0 : Int) < (n : Int) := by omega
      clear hQ' hrd1 hk1 f1 f2 hI hx h hkr hcell hkl hrl hbad eBad1
      have hb2 : ((4096 : Int) < (n : Int)) \/ (¬ (4096 : Int) < (n : Int) /\ (r.length : Int) < (n : Int)) := by omega
      clear hbig
      rcases hb2 with h1' | ⟨h1', h2'⟩
      all_goals
        (refine Ok.body body71 pin71 ?_; simp only [c71,Try.f71,Option.getD_some,nslot71,List.append_nil,List.map,List.replicate,List.length_cons,List.length_nil,Nat.reduceAdd,Nat.reduceSub,List.cons_append,List.nil_append])
        (repeat' (first | (simp -implicitDefEqProofs (maxSteps := 1000000) (disch := first | assumption | omega | (simp only [ZDI]; omega)) only [*,G71,Za,Zb,Zc,Zd,Ze,Zf,Zg,Zh,Zi,Zj,Zk,Zl,Zm,Zn,Zo,Ja,Jb,Jc,J6,Jd,Je,J7,J8,Jf,Jg,Jh,Ji,Jj,Jk,J9,Jl,Jm,wr,Jn,JA,JB,Jo,Jp,Jq,Jr,Js,Jt,Ju,Jv,Jw,Jx,Jy,Jz,J0,J1,J2,J3,J4,J5,reduceCtorEq,JC,JD,JE,JF,JG,JH,JI,JJ]) | ((with_reducible (first | apply Ok.br | apply Ok.gd | apply Ok.ld)) <;> (intro g; (try simp only [ZGS] at g); try (exfalso; omega)))))
        refine Ok.unroll ?_
        (repeat' (first | (simp -implicitDefEqProofs (maxSteps := 1000000) (disch := first | assumption | omega | (simp only [ZDI]; omega)) only [*,G71,Za,Zb,Zc,Zd,Ze,Zf,Zg,Zh,Zi,Zj,Zk,Zl,Zm,Zn,Zo,Ja,Jb,Jc,J6,Jd,Je,J7,J8,Jf,Jg,Jh,Ji,Jj,Jk,J9,Jl,Jm,wr,Jn,JA,JB,Jo,Jp,Jq,Jr,Js,Jt,Ju,Jv,Jw,Jx,Jy,Jz,J0,J1,J2,J3,J4,J5,reduceCtorEq,JC,JD,JE,JF,JG,JH,JI,JJ]) | ((with_reducible (first | apply Ok.br | apply Ok.gd | apply Ok.ld)) <;> (intro g; (try simp only [ZGS] at g); try (exfalso; omega)))))
        exact hq.out
    · rw [if_neg hbig] at hI
      have h1' : ¬ (4096 : Int) < (n : Int) := by omega
      have h2' : ¬ (r.length : Int) < (n : Int) := by omega
      have hn : n <= 4096 := by omega
      have hk1' := Hid.mk hk1
      have h0 := Hid.mk h
      have hrd1' := Hid.mk hrd1
      have hI' := Hid.mk hI
      have hbad' := Hid.mk hbad
      clear hrd1 hk1 f1 f2 hI hx h hkr hcell hkl hrl hbad eBad1 eBadF eFail hbig
      (refine Ok.body body71 pin71 ?_; simp only [c71,Try.f71,Option.getD_some,nslot71,List.append_nil,List.map,List.replicate,List.length_cons,List.length_nil,Nat.reduceAdd,Nat.reduceSub,List.cons_append,List.nil_append])
      (repeat' (first | (simp -implicitDefEqProofs (maxSteps := 1000000) (disch := first | assumption | omega | (simp only [ZDI]; omega)) only [*,G71,Za,Zb,Zc,Zd,Ze,Zf,Zg,Zh,Zi,Zj,Zk,Zl,Zm,Zn,Zo,Ja,Jb,Jc,J6,Jd,Je,J7,J8,Jf,Jg,Jh,Ji,Jj,Jk,J9,Jl,Jm,wr,Jn,JA,JB,Jo,Jp,Jq,Jr,Js,Jt,Ju,Jv,Jw,Jx,Jy,Jz,J0,J1,J2,J3,J4,J5,reduceCtorEq,JC,JD,JE,JF,JG,JH,JI,JJ]) | ((with_reducible (first | apply Ok.br | apply Ok.gd | apply Ok.ld)) <;> (intro g; (try simp only [ZGS] at g); try (exfalso; omega)))))
      clear eN eLeft hwl h1' h2'
      refine Ok.loop [BF, BF, BF, BF, BF, BF, BT, BT, BF, BF, BF, BF, BF, BF, BF, BF, BF, BF, BF, BF, BF, BT, BT, BT, BT, BT, BT, BT, BT, BT, BT, BT, BT, BT, BT, BT, BT, BF, BF, BF] (fun m s2 => ∃ (i : Nat) (st' : Option (List UInt8)) (w : Nat) (q : List V), m = n - i /\ i <= n /\ tv s2.e 7 = .v (.int .u64 (i : Nat)) /\ s2.l = [(w, q)] /\ RdAt s2.h p v bs st' /\ Keeps [p] H s2.h /\
          ((st' = none /\ manyD refD n r = none) \/ ∃ r' xs vv, st' = some r' /\ tv s2.e 6 = .v vv /\ GroS H s2.h vv xs (fun k : RP => [V.int .i64 k.1, V.int .i64 k.2]) 2 /\ xs.length = i /\ manyD refD n r = (manyD refD (n - i) r').map fun y => (xs ++ y.1, y.2)))
        (fun y s2 => y = .exit 0 /\ ∃ (w : Nat) (q : List V), s2.l = [(w, q)] /\ RdAt s2.h p v bs ((manyD refD n r).map (·.2)) /\ Keeps [p] H s2.h /\
          (manyD refD n r = none \/ ∃ xs r' vv, manyD refD n r = some (xs, r') /\ tv s2.e 6 = .v vv /\ GroS H s2.h vv xs (fun k : RP => [V.int .i64 k.1, V.int .i64 k.2]) 2))
        (n - 0) ⟨0, some r, 0, [], rfl, Nat.zero_le _, rfl, rfl, hrd1'.out, hk1'.out, .inr ⟨r, [], _, rfl, rfl, .inl ⟨rfl, rfl⟩, rfl, by rw [Nat.sub_zero]; cases manyD refD n r <;> rfl⟩⟩ ?_ ?_
      · intro m ⟨e', l', g⟩ hW ⟨i, st', w, q, hm, hi, h7, k2, hrd, hk, hcase⟩
        dsimp only at hW h7 k2 hrd hk hcase
        subst l'
        rw [hW.spread]
        have eBad := rdBad_at hrd
        by_cases hlt : i < n
        · have hlt' : (i : Int) < (n : Int) := by omega
          rcases hcase with ⟨rfl, hnone⟩ | ⟨r', xs, vv, rfl, h6, hgro, hxl, hmany⟩
          · simp only [spread_t,spread_f,spread_n,Nat.zero_add,Nat.reduceAdd,h7]
            clear hW hQ'
            simp only [Option.isNone_none] at eBad
            have hT := Hid.mk hnone
            have hrdd := Hid.mk hrd
            have hkd := Hid.mk hk
            clear hnone hrd hk
            (repeat' (first | (simp -implicitDefEqProofs (maxSteps := 1000000) (disch := first | assumption | omega | (simp only [ZDI]; omega)) only [*,G71,Za,Zb,Zc,Zd,Ze,Zf,Zg,Zh,Zi,Zj,Zk,Zl,Zm,Zn,Zo,Ja,Jb,Jc,J6,Jd,Je,J7,J8,Jf,Jg,Jh,Ji,Jj,Jk,J9,Jl,Jm,wr,Jn,JA,JB,Jo,Jp,Jq,Jr,Js,Jt,Ju,Jv,Jw,Jx,Jy,Jz,J0,J1,J2,J3,J4,J5,reduceCtorEq,JC,JD,JE,JF,JG,JH,JI,JJ]) | ((with_reducible (first | apply Ok.br | apply Ok.gd | apply Ok.ld)) <;> (intro g; (try simp only [ZGS] at g); try (exfalso; omega)))))
            exact Turn.exit ⟨rfl, rfl, w, q, rfl, by rw [hT.out]; exact hrdd.out, hkd.out, .inl hT.out⟩
          · simp only [spread_t,spread_f,spread_n,Nat.zero_add,Nat.reduceAdd,h7,h6]
            clear hW hQ'
            simp only [Option.isNone_some] at eBad
            obtain ⟨⟨vk, g2⟩, eG, x, hv, hxk, hrd2, hk2⟩ := rdRefG_at hrd
            dsimp only at hv hrd2 hk2
            subst hv
            obtain ⟨kp, _, _, hpc⟩ := h0.out.cells
            have hpl := hcells_lt hpc
            have hkk := hk.trans hk2
            have hwi : IntKind.u64.wrap ((i : Int) + 1) = ((i + 1 : Nat) : Int) := by rw [wrapU (by omega)]; omega
            have hnext : ∀ vv2 g3, (∀ j, j < H.length -> g3[j]? = g2[j]?) -> H.length <= g3.length -> GroS H g3 vv2 (xs ++ [x]) (fun k : RP => [V.int .i64 k.1, V.int .i64 k.2]) 2 -> ∃ st2, RdAt g3 p v bs st2 /\ Keeps [p] H g3 /\
                ((st2 = none /\ manyD refD n r = none) \/ ∃ r2 ys, st2 = some r2 /\ GroS H g3 vv2 ys (fun k : RP => [V.int .i64 k.1, V.int .i64 k.2]) 2 /\ ys.length = i + 1 /\ manyD refD n r = (manyD refD (n - (i + 1)) r2).map fun y => (ys ++ y.1, y.2)) := by
              intro vv2 g3 hg hgl hgro2
              refine ⟨_, h0.out.grow hrd2 hg, ⟨hgl, fun j hj hF => (hg j hj).trans (hkk.2 j hj hF)⟩, ?_⟩
              have e1 : n - i = (n - (i + 1)) + 1 := by omega
              rw [e1, manyD] at hmany
              cases hd : refD r' with
              | none =>
                left
                rw [hmany, hd]
                exact ⟨by show Option.map _ (refD r') = none; rw [hd]; rfl, rfl⟩
              | some z =>
                right
                have hxz := hxk z hd
                refine ⟨z.2, xs ++ [x], by show Option.map _ (refD r') = _; rw [hd]; rfl, hgro2, by simp [hxl], ?_⟩
                rw [hmany, hd, hxz]
                simp only [Option.bind_some,Option.map_map,Function.comp_def,List.append_assoc,List.cons_append,List.nil_append]
            have hnext' := Hid.mk hnext
            have hbk : ∀ b, H.length <= b -> b ∉ [p] := fun b hb => by simp; omega
            have hHl := hkk.1
            rcases hgro with ⟨rfl, rfl⟩ | ⟨b, q0, hb, hxs, rfl, hc⟩
            · clear hnext hrd hk hrd2 hk2 hkk hmany hxk
              (repeat' (first | (simp -implicitDefEqProofs (maxSteps := 1000000) (disch := first | assumption | omega | (simp only [ZDI]; omega)) only [*,lenV,G71,Za,Zb,Zc,Zd,Ze,Zf,Zg,Zh,Zi,Zj,Zk,Zl,Zm,Zn,Zo,Ja,Jb,Jc,J6,Jd,Je,J7,J8,Jf,Jg,Jh,Ji,Jj,Jk,J9,Jl,Jm,wr,Jn,JA,JB,Jo,Jp,Jq,Jr,Js,Jt,Ju,Jv,Jw,Jx,Jy,Jz,J0,J1,J2,J3,J4,J5,reduceCtorEq,JC,JD,JE,JF,JG,JH,JI,JJ]) | ((with_reducible (first | apply Ok.br | apply Ok.gd | apply Ok.ld)) <;> (intro g; (try simp only [ZGS] at g); try (exfalso; omega)))))
              obtain ⟨st2, a1, a2, a3⟩ := hnext'.out (.sl (.at g2.length 0 0) 1 1 2) (g2 ++ [.cells 0 true ((fun k : RP => [V.int .i64 k.1, V.int .i64 k.2]) x)]) (fun j hj => List.getElem?_append_left (by omega)) (by simp; omega) (.inr ⟨g2.length, 0, hHl, by simp, rfl, hc_new⟩)
              refine Turn.next (n - (i + 1)) (by omega) ⟨rfl, i + 1, st2, _, _, rfl, by omega, rfl, rfl, a1, a2, ?_⟩
              rcases a3 with a3 | ⟨r2, ys, a4, a5, a6, a7⟩
              · exact .inl a3
              · exact .inr ⟨r2, ys, _, a4, rfl, a5, a6, a7⟩
            · have hc2 := hk2.cells hc (hbk b hb)
              have hbl := hcells_lt hc2
              have hfl : (xs.flatMap (fun k : RP => [V.int .i64 k.1, V.int .i64 k.2])).length = xs.length * 2 := flatS_len (f := (fun k : RP => [V.int .i64 k.1, V.int .i64 k.2])) (z := 2) (fun _ => rfl) xs
              have htk : (xs.flatMap (fun k : RP => [V.int .i64 k.1, V.int .i64 k.2])).take (xs.length * 2) = xs.flatMap (fun k : RP => [V.int .i64 k.1, V.int .i64 k.2]) := List.take_of_length_le (by rw [hfl]; exact Nat.le_refl _)
              skip
              have hn1 : ¬ (xs.length + 1 <= xs.length) := by omega
              have hL : (xs.length + 1) * 16 <= 35184372088832 /\ xs.length + 1 <= 35184372088832 := by omega
              clear hnext hrd hk hrd2 hk2 hkk hmany hc hxk hxl
              (repeat' (first | (simp -implicitDefEqProofs (maxSteps := 1000000) (disch := first | assumption | omega | (simp only [ZDI]; omega)) only [*,lenV,List.drop_zero,Nat.mul_one,Nat.zero_add,G71,Za,Zb,Zc,Zd,Ze,Zf,Zg,Zh,Zi,Zj,Zk,Zl,Zm,Zn,Zo,Ja,Jb,Jc,J6,Jd,Je,J7,J8,Jf,Jg,Jh,Ji,Jj,Jk,J9,Jl,Jm,wr,Jn,JA,JB,Jo,Jp,Jq,Jr,Js,Jt,Ju,Jv,Jw,Jx,Jy,Jz,J0,J1,J2,J3,J4,J5,reduceCtorEq,JC,JD,JE,JF,JG,JH,JI,JJ]) | ((with_reducible (first | apply Ok.br | apply Ok.gd | apply Ok.ld)) <;> (intro g; (try simp only [ZGS] at g); try (exfalso; omega)))))
              obtain ⟨st2, a1, a2, a3⟩ := hnext'.out (.sl (.at b (q0 + 1) 0) (xs.length + 1) (xs.length + 1) 2) (g2.set b (.cells (q0 + 1) true (xs.flatMap (fun k : RP => [V.int .i64 k.1, V.int .i64 k.2]) ++ (fun k : RP => [V.int .i64 k.1, V.int .i64 k.2]) x))) (fun j hj => List.getElem?_set_ne (by omega)) (by simp; omega)
                (.inr ⟨b, q0 + 1, hb, by simp, by simp, by rw [hcells_set_eq hbl, List.flatMap_append]; simp⟩)
              refine Turn.next (n - (i + 1)) (by omega) ⟨rfl, i + 1, st2, _, _, rfl, by omega, rfl, rfl, a1, a2, ?_⟩
              rcases a3 with a3 | ⟨r2, ys, a4, a5, a6, a7⟩
              · exact .inl a3
              · exact .inr ⟨r2, ys, _, a4, rfl, a5, a6, a7⟩
        · have hlt' : ¬ (i : Int) < (n : Int) := by omega
          have hpost : Hid (RdAt g p v bs ((manyD refD n r).map (·.2)) /\ (manyD refD n r = none \/ ∃ xs r' vv, manyD refD n r = some (xs, r') /\ tv e' 6 = .v vv /\ GroS H g vv xs (fun k : RP => [V.int .i64 k.1, V.int .i64 k.2]) 2)) := by
            refine ⟨?_⟩
            rcases hcase with ⟨rfl, hnone⟩ | ⟨r', xs, vv, rfl, h6, hgro, hxl, hmany⟩
            · rw [hnone]; exact ⟨hrd, .inl rfl⟩
            · have e0 : n - i = 0 := by omega
              rw [e0, manyD] at hmany
              rw [hmany]
              exact ⟨hrd, .inr ⟨xs, r', vv, by simp, h6, hgro⟩⟩
          have hkd := Hid.mk hk
          simp only [spread_t,spread_f,spread_n,Nat.zero_add,Nat.reduceAdd,h7]
          clear hW hQ' hcase hrd hk
          (repeat' (first | (simp -implicitDefEqProofs (maxSteps := 1000000) (disch := first | assumption | omega | (simp only [ZDI]; omega)) only [*,G71,Za,Zb,Zc,Zd,Ze,Zf,Zg,Zh,Zi,Zj,Zk,Zl,Zm,Zn,Zo,Ja,Jb,Jc,J6,Jd,Je,J7,J8,Jf,Jg,Jh,Ji,Jj,Jk,J9,Jl,Jm,wr,Jn,JA,JB,Jo,Jp,Jq,Jr,Js,Jt,Ju,Jv,Jw,Jx,Jy,Jz,J0,J1,J2,J3,J4,J5,reduceCtorEq,JC,JD,JE,JF,JG,JH,JI,JJ]) | ((with_reducible (first | apply Ok.br | apply Ok.gd | apply Ok.ld)) <;> (intro g; (try simp only [ZGS] at g); try (exfalso; omega)))))
          exact Turn.exit ⟨rfl, rfl, w, q, rfl, hpost.out.1, hkd.out, hpost.out.2⟩
      · intro y ⟨e', l', g⟩ hW ⟨hy, w, q, k2, hrd, hk, hcase⟩
        dsimp only at hW k2 hrd hk hcase
        subst l' hy
        rw [hW.spread]
        clear hW
        have eBad := rdBad_at hrd
        rcases hcase with hnone | ⟨xs, r', vv, hsome, h6, hgro⟩
        · simp only [hnone,Option.map_none,Option.isNone_none] at eBad hrd
          simp only [spread_t,spread_f,spread_n,Nat.zero_add,Nat.reduceAdd]
          have hq := hbad'.out _ (hI'.out.trans hnone) hrd hk
          clear hQ' hrd hk hnone
          (repeat' (first | (simp -implicitDefEqProofs (maxSteps := 1000000) (disch := first | assumption | omega | (simp only [ZDI]; omega)) only [*,G71,Za,Zb,Zc,Zd,Ze,Zf,Zg,Zh,Zi,Zj,Zk,Zl,Zm,Zn,Zo,Ja,Jb,Jc,J6,Jd,Je,J7,J8,Jf,Jg,Jh,Ji,Jj,Jk,J9,Jl,Jm,wr,Jn,JA,JB,Jo,Jp,Jq,Jr,Js,Jt,Ju,Jv,Jw,Jx,Jy,Jz,J0,J1,J2,J3,J4,J5,reduceCtorEq,JC,JD,JE,JF,JG,JH,JI,JJ]) | ((with_reducible (first | apply Ok.br | apply Ok.gd | apply Ok.ld)) <;> (intro g; (try simp only [ZGS] at g); try (exfalso; omega)))))
          exact hq.out
        · simp only [hsome,Option.map_some,Option.isNone_some] at eBad hrd
          simp only [spread_t,spread_f,spread_n,Nat.zero_add,Nat.reduceAdd,h6]
          have hq : Hid (Q (vv, g)) := ⟨hQ'.out _ ⟨.inr ⟨xs, r', hI'.out.trans hsome, hgro⟩, by rw [hI'.out, hsome]; exact hrd, hk⟩⟩
          clear hQ' hrd hk hsome hgro
          (repeat' (first | (simp -implicitDefEqProofs (maxSteps := 1000000) (disch := first | assumption | omega | (simp only [ZDI]; omega)) only [*,G71,Za,Zb,Zc,Zd,Ze,Zf,Zg,Zh,Zi,Zj,Zk,Zl,Zm,Zn,Zo,Ja,Jb,Jc,J6,Jd,Je,J7,J8,Jf,Jg,Jh,Ji,Jj,Jk,J9,Jl,Jm,wr,Jn,JA,JB,Jo,Jp,Jq,Jr,Js,Jt,Ju,Jv,Jw,Jx,Jy,Jz,J0,J1,J2,J3,J4,J5,reduceCtorEq,JC,JD,JE,JF,JG,JH,JI,JJ]) | ((with_reducible (first | apply Ok.br | apply Ok.gd | apply Ok.ld)) <;> (intro g; (try simp only [ZGS] at g); try (exfalso; omega)))))
          exact hq.out
end Go.Ev
set_option maxRecDepth 100000
namespace Go.Ev
open Go.Ev renaming exPure -> Ja, ofValue -> Jb, cellsV -> Jc, load -> Jd, store -> Je, binOp -> Jf, intOp -> Jg, rdV -> Jh, vsame -> Ji, vsames -> Jj, makeSliceV -> Jk, resV -> Jl, isCell -> Jm, nilCheckV -> Jn, allV -> Jo, builtinV -> Jp, lenV -> Jq, indexAddrV -> Jr, unOp -> Js, minmaxV -> Jt, minmax -> Ju, sliceV -> Jv, asInt -> Jw, appendV -> Jx, forkB -> Jy, roY -> Jz, rwB -> J0, copyV -> J1, clearV -> J2, convV -> J3, sliceCells -> J4, shift -> J5
open Bool renaming true -> BT, false -> BF
open Nat renaming reduceEqDiff -> J6, reduceLT -> J7, reduceAdd -> J8, reduceBEq -> J9, reduceSub -> JA, reduceMul -> JB, reduceLeDiff -> JJ
open Int renaming reduceLT -> JC, reduceLE -> JD, reduceAdd -> JE, reduceSub -> JF, reduceNeg -> JG, reduceToNat -> JH, reduceEq -> JI
open Go.Proofs
theorem GroS.row {H h : Heap} {v : V} {xs : List RP} (hg : GroS H h v xs (fun k => [V.int .i64 k.1, V.int .i64 k.2]) 2) (hl : xs.length <= 4096) : RowAt h v xs := by
  rcases hg with ⟨rfl, rfl⟩ | ⟨b, g, h1, h2, h3, h4⟩
  · exact ⟨.nil, 0, 0, rfl, by simp, by omega, .inl rfl⟩
  · refine ⟨_, _, _, h3, Nat.le_refl _, by omega, .inr ⟨b, g, 0, _, _, rfl, h4, fun i x hx => ?_, by rw [flatS_len (z := 2) (fun _ => rfl)]; omega⟩⟩
    rw [Nat.zero_add]
    have : ∀ (l : List RP) (j : Nat), l[j]? = some x -> ((l.flatMap fun k => [V.int .i64 k.1, V.int .i64 k.2]).drop (j * 2)).take 2 = [.int .i64 x.1, .int .i64 x.2] := by
      intro l
      induction l with
      | nil => intro j hj; simp at hj
      | cons y l ih =>
        intro j hj
        rw [List.flatMap_cons]
        cases j with
        | zero => simp at hj; subst hj; rfl
        | succ j =>
          have e : (j + 1) * 2 = j * 2 + 1 + 1 := by omega
          rw [e]
          exact ih j (by simpa using hj)
    exact this xs i hx
def zeroIn : In := ⟨0, 0, 0, 0, 0, 0, 0, false, 0, 0, 0, 0, 0, .sl .nil 0 0 0, [], 0, .sl .nil 0 0 0, []⟩
def bareIn (x : In) : In := { x with dv := .nilp, pv := .nilp }
def instD : Dec In := fun l => (intD l).bind fun x1 => (intD x1.2).bind fun x2 => (intD x2.2).bind fun x3 => (intD x3.2).bind fun x4 => (intD x4.2).bind fun x5 => (intD x5.2).bind fun x6 => (intD x6.2).bind fun x7 => (boolD x7.2).bind fun x8 => (cmdD x8.2).bind fun x9 => (intD x9.2).bind fun x10 => (listD refD x10.2).bind fun x11 => some (bareIn ⟨x1.1, x2.1, x3.1, x4.1, x5.1, x6.1, x7.1, x8.1, x9.1.1, x9.1.2.1, x9.1.2.2.1, x9.1.2.2.2.1, x9.1.2.2.2.2.1, .nilp, x9.1.2.2.2.2.2, x10.1, .nilp, x11.1⟩, x11.2)
theorem instD_run {st : Option (List UInt8)} {x1 : Option (Int × List UInt8)} {x2 : Option (Int × List UInt8)} {x3 : Option (Int × List UInt8)} {x4 : Option (Int × List UInt8)} {x5 : Option (Int × List UInt8)} {x6 : Option (Int × List UInt8)} {x7 : Option (Int × List UInt8)} {x8 : Option (Bool × List UInt8)} {x9 : Option (CmT × List UInt8)} {x10 : Option (Int × List UInt8)} {x11 : Option (List RP × List UInt8)} (h1 : x1 = st.bind intD) (h2 : x2 = (rs x1).bind (intD)) (h3 : x3 = (rs x2).bind (intD)) (h4 : x4 = (rs x3).bind (intD)) (h5 : x5 = (rs x4).bind (intD)) (h6 : x6 = (rs x5).bind (intD)) (h7 : x7 = (rs x6).bind (intD)) (h8 : x8 = (rs x7).bind (boolD)) (h9 : x9 = (rs x8).bind (cmdD)) (h10 : x10 = (rs x9).bind (intD)) (h11 : x11 = (rs x10).bind (listD refD)) :
    st.bind instD = x11.map fun y => (bareIn ⟨vl x1 0, vl x2 0, vl x3 0, vl x4 0, vl x5 0, vl x6 0, vl x7 0, vl x8 false, (vl x9 (0, 0, 0, 0, 0, [])).1, (vl x9 (0, 0, 0, 0, 0, [])).2.1, (vl x9 (0, 0, 0, 0, 0, [])).2.2.1, (vl x9 (0, 0, 0, 0, 0, [])).2.2.2.1, (vl x9 (0, 0, 0, 0, 0, [])).2.2.2.2.1, .nilp, (vl x9 (0, 0, 0, 0, 0, [])).2.2.2.2.2, vl x10 0, .nilp, y.1⟩, y.2) := by
  have e : st.bind instD = x1.bind fun x1 => (intD x1.2).bind fun x2 => (intD x2.2).bind fun x3 => (intD x3.2).bind fun x4 => (intD x4.2).bind fun x5 => (intD x5.2).bind fun x6 => (intD x6.2).bind fun x7 => (boolD x7.2).bind fun x8 => (cmdD x8.2).bind fun x9 => (intD x9.2).bind fun x10 => (listD refD x10.2).bind fun x11 => some (bareIn ⟨x1.1, x2.1, x3.1, x4.1, x5.1, x6.1, x7.1, x8.1, x9.1.1, x9.1.2.1, x9.1.2.2.1, x9.1.2.2.2.1, x9.1.2.2.2.2.1, .nilp, x9.1.2.2.2.2.2, x10.1, .nilp, x11.1⟩, x11.2) := by rw [h1]; cases st <;> rfl
  rw [e]
  clear e h1
  cases x1 with
  | none => cases h2; cases h3; cases h4; cases h5; cases h6; cases h7; cases h8; cases h9; cases h10; subst h11; rfl
  | some x1 =>
    simp only [rs,Option.map_some,Option.bind_some] at h2 ⊢
    rw [<- h2]
    cases x2 with
    | none => cases h3; cases h4; cases h5; cases h6; cases h7; cases h8; cases h9; cases h10; subst h11; rfl
    | some x2 =>
      simp only [rs,Option.map_some,Option.bind_some] at h3 ⊢
      rw [<- h3]
      cases x3 with
      | none => cases h4; cases h5; cases h6; cases h7; cases h8; cases h9; cases h10; subst h11; rfl
      | some x3 =>
        simp only [rs,Option.map_some,Option.bind_some] at h4 ⊢
        rw [<- h4]
        cases x4 with
        | none => cases h5; cases h6; cases h7; cases h8; cases h9; cases h10; subst h11; rfl
        | some x4 =>
          simp only [rs,Option.map_some,Option.bind_some] at h5 ⊢
          rw [<- h5]
          cases x5 with
          | none => cases h6; cases h7; cases h8; cases h9; cases h10; subst h11; rfl
          | some x5 =>
            simp only [rs,Option.map_some,Option.bind_some] at h6 ⊢
            rw [<- h6]
            cases x6 with
            | none => cases h7; cases h8; cases h9; cases h10; subst h11; rfl
            | some x6 =>
              simp only [rs,Option.map_some,Option.bind_some] at h7 ⊢
              rw [<- h7]
              cases x7 with
              | none => cases h8; cases h9; cases h10; subst h11; rfl
              | some x7 =>
                simp only [rs,Option.map_some,Option.bind_some] at h8 ⊢
                rw [<- h8]
                cases x8 with
                | none => cases h9; cases h10; subst h11; rfl
                | some x8 =>
                  simp only [rs,Option.map_some,Option.bind_some] at h9 ⊢
                  rw [<- h9]
                  cases x9 with
                  | none => cases h10; subst h11; rfl
                  | some x9 =>
                    simp only [rs,Option.map_some,Option.bind_some] at h10 ⊢
                    rw [<- h10]
                    cases x10 with
                    | none =>  subst h11; rfl
                    | some x10 =>
                      simp only [rs,Option.map_some,Option.bind_some] at h11 ⊢
                      rw [<- h11]
                      cases x11 <;> rfl
def InstTook (p : Nat) (v : V) (bs : List UInt8) (st : Option (List UInt8)) (H : Heap) (y : V × Heap) : Prop :=
  ∃ z : In, y.1 = .agg (inV z) /\ InAt y.2 z /\ ((st.bind instD = none /\ z = zeroIn) \/ ∃ r, st.bind instD = some (bareIn z, r)) /\ RdAt y.2 p v bs (rs (st.bind instD)) /\ Keeps [p] H y.2
set_option maxHeartbeats 64000000 in
theorem rdInst_at {H : Heap} {p : Nat} {v : V} {bs : List UInt8} {st : Option (List UInt8)} (h : RdAt H p v bs st) : Ev.Ok (D X (.fn 40 []) [.ptr p 0 0] H) (InstTook p v bs st H) := by
  refine Ok.aim fun Q hQ => ?_
  have hQ' := Hid.mk hQ
  clear hQ
  obtain ⟨kp, _, _, hp⟩ := h.cells
  have hpl := hcells_lt hp
  obtain ⟨⟨w1, g1⟩, e1, hv1, r1, k1⟩ := rdInt_at (h.keep (Keeps.app [] H [.cells 0 true [.int .i64 0, .int .i64 0, .int .i64 0, .int .i64 0, .int .i64 0, .int .i64 0, .int .i64 0, .bool false, .int .i64 0, .int .i64 0, .int .i64 0, .int .i64 0, .int .i64 0, .sl .nil 0 0 0, .int .i64 0, .sl .nil 0 0 0]]))
  dsimp only at hv1 r1 k1
  have c1 := k1.cells hc_new (by simp; omega)
  have l1 := hcells_lt c1
  obtain ⟨x1, hx1⟩ : ∃ x, x = st.bind intD := ⟨_, rfl⟩
  obtain ⟨a1, ha1⟩ : ∃ a, a = vl x1 0 := ⟨_, rfl⟩
  rw [<- hx1] at hv1 r1
  change w1 = .int .i64 (vl x1 0) at hv1
  change RdAt g1 p v bs (rs x1) at r1
  rw [<- ha1] at hv1
  subst hv1
  have K1 : Keeps [p] H g1 := (Keeps.app [p] H _).trans k1
  obtain ⟨x2, a2, g2, hx2, ha2, e2, r2, K2, c2, l2, _⟩ := took_step (fun G hG => rdInt_at hG) h r1 K1 c1 [.int .i64 a1, .int .i64 0, .int .i64 0, .int .i64 0, .int .i64 0, .int .i64 0, .int .i64 0, .bool false, .int .i64 0, .int .i64 0, .int .i64 0, .int .i64 0, .int .i64 0, .sl .nil 0 0 0, .int .i64 0, .sl .nil 0 0 0]
  obtain ⟨x3, a3, g3, hx3, ha3, e3, r3, K3, c3, l3, _⟩ := took_step (fun G hG => rdInt_at hG) h r2 K2 c2 [.int .i64 a1, .int .i64 a2, .int .i64 0, .int .i64 0, .int .i64 0, .int .i64 0, .int .i64 0, .bool false, .int .i64 0, .int .i64 0, .int .i64 0, .int .i64 0, .int .i64 0, .sl .nil 0 0 0, .int .i64 0, .sl .nil 0 0 0]
  obtain ⟨x4, a4, g4, hx4, ha4, e4, r4, K4, c4, l4, _⟩ := took_step (fun G hG => rdInt_at hG) h r3 K3 c3 [.int .i64 a1, .int .i64 a2, .int .i64 a3, .int .i64 0, .int .i64 0, .int .i64 0, .int .i64 0, .bool false, .int .i64 0, .int .i64 0, .int .i64 0, .int .i64 0, .int .i64 0, .sl .nil 0 0 0, .int .i64 0, .sl .nil 0 0 0]
  obtain ⟨x5, a5, g5, hx5, ha5, e5, r5, K5, c5, l5, _⟩ := took_step (fun G hG => rdInt_at hG) h r4 K4 c4 [.int .i64 a1, .int .i64 a2, .int .i64 a3, .int .i64 a4, .int .i64 0, .int .i64 0, .int .i64 0, .bool false, .int .i64 0, .int .i64 0, .int .i64 0, .int .i64 0, .int .i64 0, .sl .nil 0 0 0, .int .i64 0, .sl .nil 0 0 0]
  obtain ⟨x6, a6, g6, hx6, ha6, e6, r6, K6, c6, l6, _⟩ := took_step (fun G hG => rdInt_at hG) h r5 K5 c5 [.int .i64 a1, .int .i64 a2, .int .i64 a3, .int .i64 a4, .int .i64 a5, .int .i64 0, .int .i64 0, .bool false, .int .i64 0, .int .i64 0, .int .i64 0, .int .i64 0, .int .i64 0, .sl .nil 0 0 0, .int .i64 0, .sl .nil 0 0 0]
  obtain ⟨x7, a7, g7, hx7, ha7, e7, r7, K7, c7, l7, _⟩ := took_step (fun G hG => rdInt_at hG) h r6 K6 c6 [.int .i64 a1, .int .i64 a2, .int .i64 a3, .int .i64 a4, .int .i64 a5, .int .i64 a6, .int .i64 0, .bool false, .int .i64 0, .int .i64 0, .int .i64 0, .int .i64 0, .int .i64 0, .sl .nil 0 0 0, .int .i64 0, .sl .nil 0 0 0]
  obtain ⟨x8, a8, g8, hx8, ha8, e8, r8, K8, c8, l8, _⟩ := took_step (fun G hG => rdBool_at hG) h r7 K7 c7 [.int .i64 a1, .int .i64 a2, .int .i64 a3, .int .i64 a4, .int .i64 a5, .int .i64 a6, .int .i64 a7, .bool false, .int .i64 0, .int .i64 0, .int .i64 0, .int .i64 0, .int .i64 0, .sl .nil 0 0 0, .int .i64 0, .sl .nil 0 0 0]
  have r8' : RdAt (g8.set H.length (.cells 0 true [.int .i64 a1, .int .i64 a2, .int .i64 a3, .int .i64 a4, .int .i64 a5, .int .i64 a6, .int .i64 a7, .bool a8, .int .i64 0, .int .i64 0, .int .i64 0, .int .i64 0, .int .i64 0, .sl .nil 0 0 0, .int .i64 0, .sl .nil 0 0 0])) p v bs (rs x8) := h.grow r8 fun i hi => List.getElem?_set_ne (by omega)
  obtain ⟨⟨w9, g9⟩, e9, o, c, q, f, t, dv, dl, hv9, hg9, hc9, r9, k9⟩ := rdCmd_at r8'
  dsimp only at hv9 hg9 r9 k9
  subst hv9
  obtain ⟨x9, hx9⟩ : ∃ x, x = (rs x8).bind cmdD := ⟨_, rfl⟩
  rw [<- hx9] at hc9 r9
  change RdAt g9 p v bs (rs x9) at r9
  have c9 := k9.cells (hcells_set_eq l8) (by simp; omega)
  have l9 := hcells_lt c9
  have K9 : Keeps [p] H g9 := (K8.set (.inr (Nat.le_refl _)) _).trans ⟨k9.1, fun i hi hF => k9.2 i hi hF⟩
  have hsl9 : ∃ s n c z, dv = .sl s n c z := by
    rcases hg9 with ⟨_, rfl⟩ | ⟨b, q, _, _, rfl, _⟩
    · exact ⟨_, _, _, _, rfl⟩
    · exact ⟨_, _, _, _, rfl⟩
  obtain ⟨sa, sn, sc, sz, rfl⟩ := hsl9
  obtain ⟨x10, a10, g10, hx10, ha10, e10, r10, K10, c10, l10, kk10⟩ := took_step (fun G hG => rdInt_at hG) h r9 K9 c9 [.int .i64 a1, .int .i64 a2, .int .i64 a3, .int .i64 a4, .int .i64 a5, .int .i64 a6, .int .i64 a7, .bool a8, .int .i64 o, .int .i64 c, .int .i64 q, .int .i64 f, .int .i64 t, (.sl sa sn sc sz), .int .i64 0, .sl .nil 0 0 0]
  have r10' : RdAt (g10.set H.length (.cells 0 true [.int .i64 a1, .int .i64 a2, .int .i64 a3, .int .i64 a4, .int .i64 a5, .int .i64 a6, .int .i64 a7, .bool a8, .int .i64 o, .int .i64 c, .int .i64 q, .int .i64 f, .int .i64 t, (.sl sa sn sc sz), .int .i64 a10, .sl .nil 0 0 0])) p v bs (rs x10) := h.grow r10 fun i hi => List.getElem?_set_ne (by omega)
  obtain ⟨⟨w11, g11⟩, e11, hv11, r11, k11⟩ := getRefs_at r10'
  obtain ⟨x11, hx11⟩ : ∃ x, x = (rs x10).bind (listD refD) := ⟨_, rfl⟩
  dsimp only at hv11 r11 k11
  rw [<- hx11] at hv11 r11
  change RdAt g11 p v bs (rs x11) at r11
  have c11 := k11.cells (hcells_set_eq l10) (by simp; omega)
  have l11 := hcells_lt c11
  have K11 : Keeps [p] H g11 := (K10.set (.inr (Nat.le_refl _)) _).trans ⟨k11.1, fun i hi hF => k11.2 i hi hF⟩
  have hsl : ∃ s n c z, w11 = .sl s n c z := by
    rcases hv11 with ⟨_, rfl⟩ | ⟨xs, r, _, ⟨_, rfl⟩ | ⟨b, q, _, _, rfl, _⟩⟩
    · exact ⟨_, _, _, _, rfl⟩
    · exact ⟨_, _, _, _, rfl⟩
    · exact ⟨_, _, _, _, rfl⟩
  have r12 : RdAt (g11.set H.length (.cells 0 true [.int .i64 a1, .int .i64 a2, .int .i64 a3, .int .i64 a4, .int .i64 a5, .int .i64 a6, .int .i64 a7, .bool a8, .int .i64 o, .int .i64 c, .int .i64 q, .int .i64 f, .int .i64 t, (.sl sa sn sc sz), .int .i64 a10, w11])) p v bs (rs x11) := h.grow r11 fun i hi => List.getElem?_set_ne (by omega)
  have eBad := rdBad_at r12
  have hrun := instD_run hx1 hx2 hx3 hx4 hx5 hx6 hx7 hx8 hx9 hx10 hx11
  rw [<- ha1, <- ha2, <- ha3, <- ha4, <- ha5, <- ha6, <- ha7, <- ha8, <- ha10] at hrun
  have hgT : ∀ cs, GroS H (g11.set H.length (.cells 0 true cs)) (.sl sa sn sc sz) dl (fun s => [V.str s]) 1 := fun cs => by
    have hl8 : H.length < (g8.set H.length (.cells 0 true [.int .i64 a1, .int .i64 a2, .int .i64 a3, .int .i64 a4, .int .i64 a5, .int .i64 a6, .int .i64 a7, .bool a8, .int .i64 0, .int .i64 0, .int .i64 0, .int .i64 0, .int .i64 0, .sl .nil 0 0 0, .int .i64 0, .sl .nil 0 0 0])).length := by simpa using l8
    have z1 := hg9.keep2 kk10 (by omega) hl8
    have z2 := (z1.set hl8 (.cells 0 true [.int .i64 a1, .int .i64 a2, .int .i64 a3, .int .i64 a4, .int .i64 a5, .int .i64 a6, .int .i64 a7, .bool a8, .int .i64 o, .int .i64 c, .int .i64 q, .int .i64 f, .int .i64 t, (.sl sa sn sc sz), .int .i64 a10, .sl .nil 0 0 0])).keep k11 (by omega)
    exact (z2.set hl8 _).low (by have := K8.1; simp; omega)
  have hgP : ∀ xs cs, GroS (g10.set H.length (.cells 0 true [.int .i64 a1, .int .i64 a2, .int .i64 a3, .int .i64 a4, .int .i64 a5, .int .i64 a6, .int .i64 a7, .bool a8, .int .i64 o, .int .i64 c, .int .i64 q, .int .i64 f, .int .i64 t, (.sl sa sn sc sz), .int .i64 a10, .sl .nil 0 0 0])) g11 w11 xs (fun k : RP => [V.int .i64 k.1, V.int .i64 k.2]) 2 -> GroS H (g11.set H.length (.cells 0 true cs)) w11 xs (fun k : RP => [V.int .i64 k.1, V.int .i64 k.2]) 2 := fun xs cs z1 =>
    (z1.set (by simpa using l10) _).low (by have := K10.1; simp; omega)
  have hst : rs (st.bind instD) = rs x11 := by rw [hrun]; cases x11 <;> rfl
  have hdl : dl.length <= 4096 := by
    rcases hc9 with ⟨_, _, _, _, _, _, _, e⟩ | ⟨r, _, e⟩
    · rw [e]; simp
    · exact e
  have hfin : ∀ z cs, InAt (g11.set H.length (.cells 0 true cs)) z -> ((st.bind instD = none /\ z = zeroIn) \/ ∃ r, st.bind instD = some (bareIn z, r)) -> Q (.agg (inV z), g11.set H.length (.cells 0 true cs)) := fun z cs z1 z2 =>
    hQ'.out _ ⟨z, rfl, z1, z2, by rw [hst]; exact h.grow r11 fun i hi => List.getElem?_set_ne (by omega), K11.set (.inr (Nat.le_refl _)) _⟩
  clear r1 r2 r3 r4 r5 r6 r7 r8 r8' r9 r10 r10' r11 r12 k1 K1 K2 K3 K4 K5 K6 K7 K8 k9 K9 K10 k11 K11 kk10 hx1 hx2 hx3 hx4 hx5 hx6 hx7 hx8 ha1 ha2 ha3 ha4 ha5 ha6 ha7 ha8 ha10 hQ' hst h hp
  cases x11
  case' none =>
    have hw : w11 = .sl .nil 0 0 0 := by
      rcases hv11 with ⟨_, e⟩ | ⟨xs, r, e, _⟩
      · exact e
      · cases e
    subst hw
    simp only [rs,Option.map_none,Option.isNone_none] at eBad
    have hz : ∀ g, InAt g zeroIn := fun g => ⟨⟨.nil, 0, 0, rfl, by simp [zeroIn], trivial, .inl rfl⟩, ⟨.nil, 0, 0, rfl, by simp [zeroIn], by omega, .inl rfl⟩⟩
    have hq : ∀ cs, Q (.agg (inV zeroIn), g11.set H.length (.cells 0 true cs)) := fun cs => hfin _ cs (hz _) (.inl ⟨hrun, rfl⟩)
    have hq' := Hid.mk hq
    clear hfin hrun hq hv11 hx11 hx10 hsl hgT hgP hg9 hc9 hz hdl
  case' some y =>
    obtain ⟨xs, r⟩ := y
    have hg : GroS (g10.set H.length (.cells 0 true [.int .i64 a1, .int .i64 a2, .int .i64 a3, .int .i64 a4, .int .i64 a5, .int .i64 a6, .int .i64 a7, .bool a8, .int .i64 o, .int .i64 c, .int .i64 q, .int .i64 f, .int .i64 t, (.sl sa sn sc sz), .int .i64 a10, .sl .nil 0 0 0])) g11 w11 xs (fun k : RP => [V.int .i64 k.1, V.int .i64 k.2]) 2 := by
      rcases hv11 with ⟨e, _⟩ | ⟨xs', r', e, hg⟩
      · cases e
      · cases e; exact hg
    simp only [rs,Option.map_some,Option.isNone_some] at eBad
    have hxl := listD_len hx11.symm
    have hc9' : ∃ r, x9 = some ((o, c, q, f, t, dl), r) := by
      rcases hc9 with ⟨e, _⟩ | ⟨r9, e, _⟩
      · exfalso
        rw [e] at hx10
        have e10 : x10 = none := hx10
        rw [e10] at hx11
        cases hx11
      · exact ⟨r9, e⟩
    obtain ⟨r9, hx9'⟩ := hc9'
    rw [hx9'] at hrun
    have hq : ∀ cs, Q (.agg (inV ⟨a1, a2, a3, a4, a5, a6, a7, a8, o, c, q, f, t, .sl sa sn sc sz, dl, a10, w11, xs⟩), g11.set H.length (.cells 0 true cs)) := fun cs => hfin _ cs ⟨(hgT cs).strs hdl, (hgP xs cs hg).row hxl⟩ (.inr ⟨r, hrun⟩)
    have hq' := Hid.mk hq
    obtain ⟨pa, pn, pc, pz, rfl⟩ := hsl
    clear hfin hrun hq hv11 hx11 hx10 hg hgT hgP hg9 hc9 hdl hxl hx9' hx9
  all_goals
    simp only [cmV] at e9
    (refine Ok.body body40 pin40 ?_; simp only [c40,Try.f40,Option.getD_some,nslot40,List.append_nil,List.map,List.replicate,List.length_cons,List.length_nil,Nat.reduceAdd,Nat.reduceSub,List.cons_append,List.nil_append])
    (repeat' (first | (simp -implicitDefEqProofs (maxSteps := 1000000) (disch := first | assumption | omega | (simp only [ZDI]; omega)) only [*,lenV,G40,Za,Zb,Zc,Zd,Ze,Zf,Zg,Zh,Zi,Zj,Zk,Zl,Zm,Zn,Zo,Ja,Jb,Jc,J6,Jd,Je,J7,J8,Jf,Jg,Jh,Ji,Jj,Jk,J9,Jl,Jm,wr,Jn,JA,JB,Jo,Jp,Jq,Jr,Js,Jt,Ju,Jv,Jw,Jx,Jy,Jz,J0,J1,J2,J3,J4,J5,reduceCtorEq,JC,JD,JE,JF,JG,JH,JI,JJ]) | ((with_reducible (first | apply Ok.br | apply Ok.gd | apply Ok.ld)) <;> (intro g; (try simp only [ZGS] at g); try (exfalso; omega)))))
    refine Ok.unroll ?_
    (repeat' (first | (simp -implicitDefEqProofs (maxSteps := 1000000) (disch := first | assumption | omega | (simp only [ZDI]; omega)) only [*,lenV,G40,Za,Zb,Zc,Zd,Ze,Zf,Zg,Zh,Zi,Zj,Zk,Zl,Zm,Zn,Zo,Ja,Jb,Jc,J6,Jd,Je,J7,J8,Jf,Jg,Jh,Ji,Jj,Jk,J9,Jl,Jm,wr,Jn,JA,JB,Jo,Jp,Jq,Jr,Js,Jt,Ju,Jv,Jw,Jx,Jy,Jz,J0,J1,J2,J3,J4,J5,reduceCtorEq,JC,JD,JE,JF,JG,JH,JI,JJ]) | ((with_reducible (first | apply Ok.br | apply Ok.gd | apply Ok.ld)) <;> (intro g; (try simp only [ZGS] at g); try (exfalso; omega)))))
    refine Ok.unroll ?_
    (repeat' (first | (simp -implicitDefEqProofs (maxSteps := 1000000) (disch := first | assumption | omega | (simp only [ZDI]; omega)) only [*,lenV,G40,Za,Zb,Zc,Zd,Ze,Zf,Zg,Zh,Zi,Zj,Zk,Zl,Zm,Zn,Zo,Ja,Jb,Jc,J6,Jd,Je,J7,J8,Jf,Jg,Jh,Ji,Jj,Jk,J9,Jl,Jm,wr,Jn,JA,JB,Jo,Jp,Jq,Jr,Js,Jt,Ju,Jv,Jw,Jx,Jy,Jz,J0,J1,J2,J3,J4,J5,reduceCtorEq,JC,JD,JE,JF,JG,JH,JI,JJ]) | ((with_reducible (first | apply Ok.br | apply Ok.gd | apply Ok.ld)) <;> (intro g; (try simp only [ZGS] at g); try (exfalso; omega)))))
    refine Ok.unroll ?_
    (repeat' (first | (simp -implicitDefEqProofs (maxSteps := 1000000) (disch := first | assumption | omega | (simp only [ZDI]; omega)) only [*,lenV,G40,Za,Zb,Zc,Zd,Ze,Zf,Zg,Zh,Zi,Zj,Zk,Zl,Zm,Zn,Zo,Ja,Jb,Jc,J6,Jd,Je,J7,J8,Jf,Jg,Jh,Ji,Jj,Jk,J9,Jl,Jm,wr,Jn,JA,JB,Jo,Jp,Jq,Jr,Js,Jt,Ju,Jv,Jw,Jx,Jy,Jz,J0,J1,J2,J3,J4,J5,reduceCtorEq,JC,JD,JE,JF,JG,JH,JI,JJ]) | ((with_reducible (first | apply Ok.br | apply Ok.gd | apply Ok.ld)) <;> (intro g; (try simp only [ZGS] at g); try (exfalso; omega)))))
    refine Ok.unroll ?_
    (repeat' (first | (simp -implicitDefEqProofs (maxSteps := 1000000) (disch := first | assumption | omega | (simp only [ZDI]; omega)) only [*,lenV,G40,Za,Zb,Zc,Zd,Ze,Zf,Zg,Zh,Zi,Zj,Zk,Zl,Zm,Zn,Zo,Ja,Jb,Jc,J6,Jd,Je,J7,J8,Jf,Jg,Jh,Ji,Jj,Jk,J9,Jl,Jm,wr,Jn,JA,JB,Jo,Jp,Jq,Jr,Js,Jt,Ju,Jv,Jw,Jx,Jy,Jz,J0,J1,J2,J3,J4,J5,reduceCtorEq,JC,JD,JE,JF,JG,JH,JI,JJ]) | ((with_reducible (first | apply Ok.br | apply Ok.gd | apply Ok.ld)) <;> (intro g; (try simp only [ZGS] at g); try (exfalso; omega)))))
    refine Ok.unroll ?_
    (repeat' (first | (simp -implicitDefEqProofs (maxSteps := 1000000) (disch := first | assumption | omega | (simp only [ZDI]; omega)) only [*,lenV,G40,Za,Zb,Zc,Zd,Ze,Zf,Zg,Zh,Zi,Zj,Zk,Zl,Zm,Zn,Zo,Ja,Jb,Jc,J6,Jd,Je,J7,J8,Jf,Jg,Jh,Ji,Jj,Jk,J9,Jl,Jm,wr,Jn,JA,JB,Jo,Jp,Jq,Jr,Js,Jt,Ju,Jv,Jw,Jx,Jy,Jz,J0,J1,J2,J3,J4,J5,reduceCtorEq,JC,JD,JE,JF,JG,JH,JI,JJ]) | ((with_reducible (first | apply Ok.br | apply Ok.gd | apply Ok.ld)) <;> (intro g; (try simp only [ZGS] at g); try (exfalso; omega)))))
    refine Ok.unroll ?_
    (repeat' (first | (simp -implicitDefEqProofs (maxSteps := 1000000) (disch := first | assumption | omega | (simp only [ZDI]; omega)) only [*,lenV,G40,Za,Zb,Zc,Zd,Ze,Zf,Zg,Zh,Zi,Zj,Zk,Zl,Zm,Zn,Zo,Ja,Jb,Jc,J6,Jd,Je,J7,J8,Jf,Jg,Jh,Ji,Jj,Jk,J9,Jl,Jm,wr,Jn,JA,JB,Jo,Jp,Jq,Jr,Js,Jt,Ju,Jv,Jw,Jx,Jy,Jz,J0,J1,J2,J3,J4,J5,reduceCtorEq,JC,JD,JE,JF,JG,JH,JI,JJ]) | ((with_reducible (first | apply Ok.br | apply Ok.gd | apply Ok.ld)) <;> (intro g; (try simp only [ZGS] at g); try (exfalso; omega)))))
    refine Ok.unroll ?_
    (repeat' (first | (simp -implicitDefEqProofs (maxSteps := 1000000) (disch := first | assumption | omega | (simp only [ZDI]; omega)) only [*,lenV,G40,Za,Zb,Zc,Zd,Ze,Zf,Zg,Zh,Zi,Zj,Zk,Zl,Zm,Zn,Zo,Ja,Jb,Jc,J6,Jd,Je,J7,J8,Jf,Jg,Jh,Ji,Jj,Jk,J9,Jl,Jm,wr,Jn,JA,JB,Jo,Jp,Jq,Jr,Js,Jt,Ju,Jv,Jw,Jx,Jy,Jz,J0,J1,J2,J3,J4,J5,reduceCtorEq,JC,JD,JE,JF,JG,JH,JI,JJ]) | ((with_reducible (first | apply Ok.br | apply Ok.gd | apply Ok.ld)) <;> (intro g; (try simp only [ZGS] at g); try (exfalso; omega)))))
    refine Ok.unroll ?_
    (repeat' (first | (simp -implicitDefEqProofs (maxSteps := 1000000) (disch := first | assumption | omega | (simp only [ZDI]; omega)) only [*,lenV,G40,Za,Zb,Zc,Zd,Ze,Zf,Zg,Zh,Zi,Zj,Zk,Zl,Zm,Zn,Zo,Ja,Jb,Jc,J6,Jd,Je,J7,J8,Jf,Jg,Jh,Ji,Jj,Jk,J9,Jl,Jm,wr,Jn,JA,JB,Jo,Jp,Jq,Jr,Js,Jt,Ju,Jv,Jw,Jx,Jy,Jz,J0,J1,J2,J3,J4,J5,reduceCtorEq,JC,JD,JE,JF,JG,JH,JI,JJ]) | ((with_reducible (first | apply Ok.br | apply Ok.gd | apply Ok.ld)) <;> (intro g; (try simp only [ZGS] at g); try (exfalso; omega)))))
    exact hq'.out _
end Go.Ev
set_option maxRecDepth 100000
namespace Go.Ev
open Go.Proofs
theorem refD_E {k : RP} (h1 : In64' k.1) (h2 : In64' k.2) (r : List UInt8) : refD (refE k ++ r) = some (k, r) := by
  unfold refD refE
  rw [List.append_assoc, intD_E h1]
  simp only [Option.bind_some]
  rw [intD_E h2]
  rfl
theorem refE_pos (k : RP) : 0 < (refE k).length := by unfold refE; rw [List.length_append]; have := intE_pos k.1; omega
theorem instD_E {x : In} (ho : 0 <= x.o /\ x.o < 256) (h6 : In64s x) (hdl : x.dl.length <= 4096) (hs : ∀ s ∈ x.dl, s.size <= 1048576) (hpl : x.pl.length <= 4096) (r : List UInt8) : instD (instE x ++ r) = some (bareIn x, r) := by
  unfold instD instE refsE
  simp only [List.append_assoc]
  rw [intD_E h6.a1]; simp only [Option.bind_some]
  rw [intD_E h6.a2]; simp only [Option.bind_some]
  rw [intD_E h6.a3]; simp only [Option.bind_some]
  rw [intD_E h6.a4]; simp only [Option.bind_some]
  rw [intD_E h6.a5]; simp only [Option.bind_some]
  rw [intD_E h6.a6]; simp only [Option.bind_some]
  rw [intD_E h6.a7]; simp only [Option.bind_some,List.cons_append,List.nil_append]
  rw [boolD_E]; simp only [Option.bind_some]
  rw [cmdD_E ho h6.b1 h6.b2 h6.b3 h6.b4 hdl hs]; simp only [Option.bind_some]
  rw [intD_E h6.a8]; simp only [Option.bind_some]
  rw [listD_E refE_pos r x.pl hpl fun k hk r => refD_E (h6.ps k hk).1 (h6.ps k hk).2 r]
  rfl
theorem refD_loc : Loc refD := by
  intro s v r t h
  unfold refD at h ⊢
  cases e1 : intD s with
  | none => rw [e1] at h; cases h
  | some y1 =>
    rw [e1] at h
    have e1' := intD_loc s y1.1 y1.2 t e1
    rw [e1']
    simp only [Option.bind_some] at h ⊢
    cases e2 : intD y1.2 with
    | none => rw [e2] at h; cases h
    | some y2 =>
      rw [e2] at h
      have e2' := intD_loc y1.2 y2.1 y2.2 t e2
      rw [e2']
      simp only [Option.bind_some] at h ⊢
      cases h; rfl
theorem instD_loc : Loc instD := by
  intro s v r t h
  unfold instD at h ⊢
  cases e1 : intD s with
  | none => rw [e1] at h; cases h
  | some y1 =>
    rw [e1] at h
    have e1' := intD_loc s y1.1 y1.2 t e1
    rw [e1']
    simp only [Option.bind_some] at h ⊢
    cases e2 : intD y1.2 with
    | none => rw [e2] at h; cases h
    | some y2 =>
      rw [e2] at h
      have e2' := intD_loc y1.2 y2.1 y2.2 t e2
      rw [e2']
      simp only [Option.bind_some] at h ⊢
      cases e3 : intD y2.2 with
      | none => rw [e3] at h; cases h
      | some y3 =>
        rw [e3] at h
        have e3' := intD_loc y2.2 y3.1 y3.2 t e3
        rw [e3']
        simp only [Option.bind_some] at h ⊢
        cases e4 : intD y3.2 with
        | none => rw [e4] at h; cases h
        | some y4 =>
          rw [e4] at h
          have e4' := intD_loc y3.2 y4.1 y4.2 t e4
          rw [e4']
          simp only [Option.bind_some] at h ⊢
          cases e5 : intD y4.2 with
          | none => rw [e5] at h; cases h
          | some y5 =>
            rw [e5] at h
            have e5' := intD_loc y4.2 y5.1 y5.2 t e5
            rw [e5']
            simp only [Option.bind_some] at h ⊢
            cases e6 : intD y5.2 with
            | none => rw [e6] at h; cases h
            | some y6 =>
              rw [e6] at h
              have e6' := intD_loc y5.2 y6.1 y6.2 t e6
              rw [e6']
              simp only [Option.bind_some] at h ⊢
              cases e7 : intD y6.2 with
              | none => rw [e7] at h; cases h
              | some y7 =>
                rw [e7] at h
                have e7' := intD_loc y6.2 y7.1 y7.2 t e7
                rw [e7']
                simp only [Option.bind_some] at h ⊢
                cases e8 : boolD y7.2 with
                | none => rw [e8] at h; cases h
                | some y8 =>
                  rw [e8] at h
                  have e8' := boolD_loc y7.2 y8.1 y8.2 t e8
                  rw [e8']
                  simp only [Option.bind_some] at h ⊢
                  cases e9 : cmdD y8.2 with
                  | none => rw [e9] at h; cases h
                  | some y9 =>
                    rw [e9] at h
                    have e9' := cmdD_loc y8.2 y9.1 y9.2 t e9
                    rw [e9']
                    simp only [Option.bind_some] at h ⊢
                    cases e10 : intD y9.2 with
                    | none => rw [e10] at h; cases h
                    | some y10 =>
                      rw [e10] at h
                      have e10' := intD_loc y9.2 y10.1 y10.2 t e10
                      rw [e10']
                      simp only [Option.bind_some] at h ⊢
                      cases e11 : listD refD y10.2 with
                      | none => rw [e11] at h; cases h
                      | some y11 =>
                        rw [e11] at h
                        have e11' := (listD_loc refD_loc) y10.2 y11.1 y11.2 t e11
                        rw [e11']
                        simp only [Option.bind_some] at h ⊢
                        cases h; rfl
theorem instE_pos (x : In) : 0 < (instE x).length := by unfold instE; simp only [List.length_append,List.length_cons]; omega
theorem instD_cut {x : In} (ho : 0 <= x.o /\ x.o < 256) (h6 : In64s x) (hdl : x.dl.length <= 4096) (hs : ∀ s ∈ x.dl, s.size <= 1048576) (hpl : x.pl.length <= 4096) : instD ((instE x).take ((instE x).length - 1)) = none := by
  have hne : instE x ≠ [] := List.ne_nil_of_length_pos (instE_pos x)
  have e := List.dropLast_concat_getLast hne
  rw [<- List.dropLast_eq_take]
  refine instD_loc.cut (c := (instE x).getLast hne) (x := bareIn x) ?_
  rw [e]
  have := instD_E ho h6 hdl hs hpl []
  rwa [List.append_nil] at this
end Go.Ev
set_option maxRecDepth 100000
namespace Go.Ev
open Go.Ev renaming exPure -> Ja, ofValue -> Jb, cellsV -> Jc, load -> Jd, store -> Je, binOp -> Jf, intOp -> Jg, rdV -> Jh, vsame -> Ji, vsames -> Jj, makeSliceV -> Jk, resV -> Jl, isCell -> Jm, nilCheckV -> Jn, allV -> Jo, builtinV -> Jp, lenV -> Jq, indexAddrV -> Jr, unOp -> Js, minmaxV -> Jt, minmax -> Ju, sliceV -> Jv, asInt -> Jw, appendV -> Jx, forkB -> Jy, roY -> Jz, rwB -> J0, copyV -> J1, clearV -> J2, convV -> J3, sliceCells -> J4, shift -> J5
open Bool renaming true -> BT, false -> BF
open Nat renaming reduceEqDiff -> J6, reduceLT -> J7, reduceAdd -> J8, reduceBEq -> J9, reduceSub -> JA, reduceMul -> JB, reduceLeDiff -> JJ
open Int renaming reduceLT -> JC, reduceLE -> JD, reduceAdd -> JE, reduceSub -> JF, reduceNeg -> JG, reduceToNat -> JH, reduceEq -> JI
open Go.Proofs
theorem fits_u8 {h : Heap} {d : Nat} {cs : List V} (hf : Fits X.ty h (d + 1) 5 cs) : ∃ c : UInt8, cs = [.int .u8 (c.toNat : Nat)] := by
  unfold Fits at hf
  rw [ty5] at hf
  obtain ⟨i, rfl, h1⟩ := hf
  simp only [Lit.wf,IntKind.min,IntKind.max,IntKind.signed,IntKind.bits] at h1
  simp at h1
  refine ⟨UInt8.ofNat i.toNat, ?_⟩
  rw [UInt8.toNat_ofNat']
  congr 2
  omega
def BytesIn (H : Heap) (v : V) (bs : List UInt8) : Prop := bs.length <= 9223372036854775807 /\ ((bs = [] /\ (v = .sl .nil 0 0 0 \/ v = .sl .any 0 0 1)) \/ ∃ b cap full, v = .sl (.at b 0 0) bs.length cap 0 /\ hcells H b 0 = some (false, full) /\ bs.length <= full.length /\ full.take bs.length = bV bs)
theorem fits_bytes {h : Heap} {d : Nat} {cs : List V} (hf : Fits X.ty h (d + 2) 67 cs) : ∃ v bs, cs = [v] /\ BytesIn h v bs := by
  unfold Fits at hf
  rw [ty67] at hf
  have hmax : maxLen = 9223372036854775807 := by decide
  rw [hmax] at hf
  rcases hf with rfl | rfl | ⟨b, len, cap, full, rfl, h1, h2, h3, h4, h5, h6⟩
  · exact ⟨_, [], rfl, by simp, .inl ⟨rfl, .inl rfl⟩⟩
  · exact ⟨_, [], rfl, by simp, .inl ⟨rfl, .inr rfl⟩⟩
  · have hsz : (X.ty 5).size = 1 := by rw [ty5]
    rw [hsz] at h5 h6
    have hx : ∀ i, ∃ c : UInt8, i < cap -> full[i]? = some (.int .u8 (c.toNat : Nat)) := by
      intro i
      by_cases hi : i < cap
      · obtain ⟨c, e⟩ := fits_u8 (h6 i hi)
        refine ⟨c, fun _ => ?_⟩
        have := congrArg (fun l => l[0]?) e
        simpa using this
      · exact ⟨0, fun h' => absurd h' hi⟩
    obtain ⟨g, hg⟩ := Classical.axiomOfChoice hx
    have hlen : ((List.range len).map g).length = len := by rw [List.length_map, List.length_range]
    refine ⟨_, (List.range len).map g, rfl, by rw [hlen]; omega, .inr ⟨b, cap, full, by rw [hlen], ?_, by rw [hlen]; omega, ?_⟩⟩
    · unfold hcells; rw [h4]; exact grd_t rfl _
    · rw [hlen]
      refine List.ext_getElem? fun i => ?_
      by_cases hi : i < len
      · rw [List.getElem?_take, if_pos hi, hg i (by omega)]
        unfold bV
        rw [List.getElem?_map, List.getElem?_map, List.getElem?_range hi]
        rfl
      · rw [List.getElem?_take, if_neg hi, List.getElem?_eq_none (by rw [bV_len, hlen]; omega)]
set_option maxHeartbeats 4000000 in
theorem newReader_at {H : Heap} {b g n c z : Nat} {rw : Bool} {full : List V} {bs : List UInt8} (hc : hcells H b g = some (rw, full)) (hn : bs.length = n) (hl : n <= full.length) (ht : full.take n = bV bs) (hpos : 0 < n) (hroom : n < 35184372088832) :
    D X (.fn 39 []) [.sl (.at b g 0) n c z] H = some (.ptr (H.length + 1) 0 0, H ++ [.cells 0 true (bV bs), .cells 0 true [.sl (.at H.length 0 0) n n 1, .int .i64 0, .bool false]]) /\
      RdAt (H ++ [.cells 0 true (bV bs), .cells 0 true [.sl (.at H.length 0 0) n n 1, .int .i64 0, .bool false]]) (H.length + 1) (.sl (.at H.length 0 0) n n 1) bs (some bs) := by
  constructor
  · refine Ok.eq ?_
    have hb := hcells_lt hc
    have hn0 : ¬ n <= 0 := by omega
    have hn1 : ¬ n = 0 := by omega
    have hL : n * 1 <= 35184372088832 /\ n <= 35184372088832 := by omega
    clear hn
    (refine Ok.body body39 pin39 ?_; simp only [c39,Try.f39,Option.getD_some,nslot39,List.append_nil,List.map,List.replicate,List.length_cons,List.length_nil,Nat.reduceAdd,Nat.reduceSub,List.cons_append,List.nil_append])
    (repeat' (first | (simp -implicitDefEqProofs (maxSteps := 1000000) (disch := first | assumption | omega | (simp only [ZDI]; omega)) only [*,lenV,List.drop_zero,Nat.zero_add,Nat.mul_one,G39,Za,Zb,Zc,Zd,Ze,Zf,Zg,Zh,Zi,Zj,Zk,Zl,Zm,Zn,Zo,Ja,Jb,Jc,J6,Jd,Je,J7,J8,Jf,Jg,Jh,Ji,Jj,Jk,J9,Jl,Jm,wr,Jn,JA,JB,Jo,Jp,Jq,Jr,Js,Jt,Ju,Jv,Jw,Jx,Jy,Jz,J0,J1,J2,J3,J4,J5,reduceCtorEq,JC,JD,JE,JF,JG,JH,JI,JJ]) | ((with_reducible (first | apply Ok.br | apply Ok.gd | apply Ok.ld)) <;> (intro g; (try simp only [ZGS] at g); try (exfalso; omega)))))
  · subst hn
    refine ⟨.inr ⟨H.length, by omega, rfl, ?_⟩, ⟨0, Nat.zero_le _, fun r e => by cases e; rfl, hc_new2⟩, hroom⟩
    rw [hcells_ge (Nat.le_refl _), Nat.sub_self]; exact grd_t rfl _
end Go.Ev
set_option maxRecDepth 100000
namespace Go.Ev
open Go.Proofs
section
variable {T : TypeId -> TI} {h : Heap} {d : Nat} {t u w : TypeId} {xss : List (List V)}
theorem FitsAll.one (hf : FitsAll T h d [t] xss) : ∃ x, xss = [x] /\ Fits T h d t x := by
  match xss, hf with
  | [x], hf => exact ⟨x, rfl, hf.1⟩
theorem FitsAll.two (hf : FitsAll T h d [t, u] xss) : ∃ x y, xss = [x, y] /\ Fits T h d t x /\ Fits T h d u y := by
  match xss, hf with
  | [x, y], hf => exact ⟨x, y, rfl, hf.1, hf.2.1⟩
end
theorem Strs.at' {h : Heap} {v : V} {l : List ByteArray} (hs : Strs h v l) : StrsAt h v l := hs.at
theorem fits_bool {h : Heap} {d : Nat} {cs : List V} (hf : Fits X.ty h (d + 1) 4 cs) : ∃ b, cs = [.bool b] := by
  unfold Fits at hf
  rw [ty4] at hf
  exact hf
theorem fits_ref {h : Heap} {d : Nat} {cs : List V} (hf : Fits X.ty h (d + 2) 23 cs) : ∃ a b, cs = [.int .i64 a, .int .i64 b] /\ In64 a /\ In64 b := by
  unfold Fits at hf
  rw [ty23] at hf
  obtain ⟨hl, hf⟩ := hf
  match cs, hl with
  | [c0, c1], _ =>
    obtain ⟨a, h0, i0⟩ := fits_int (hf (0, 3) (by simp))
    obtain ⟨b, h1, i1⟩ := fits_int (hf (1, 3) (by simp))
    simp [ty3] at h0 h1
    subst h0 h1
    exact ⟨a, b, rfl, i0, i1⟩
theorem fits_ballot {h : Heap} {d : Nat} {cs : List V} (hf : Fits X.ty h (d + 2) 25 cs) : ∃ a b, cs = [.int .i64 a, .int .i64 b] /\ In64 a /\ In64 b := by
  unfold Fits at hf
  rw [ty25] at hf
  obtain ⟨hl, hf⟩ := hf
  match cs, hl with
  | [c0, c1], _ =>
    obtain ⟨a, h0, i0⟩ := fits_int (hf (0, 3) (by simp))
    obtain ⟨b, h1, i1⟩ := fits_int (hf (1, 3) (by simp))
    simp [ty3] at h0 h1
    subst h0 h1
    exact ⟨a, b, rfl, i0, i1⟩
def In.Ok (x : In) : Prop := In64 x.l /\ In64 x.i /\ In64 x.bn /\ In64 x.bd /\ In64 x.vn /\ In64 x.vd /\ In64 x.st /\ In64 x.sq /\ In64 x.o /\ In64 x.c /\ In64 x.q /\ In64 x.f /\ In64 x.t
end Go.Ev
set_option maxRecDepth 100000
namespace Go.Ev
open Go.Proofs
theorem fits_refsN {h : Heap} {d : Nat} {cs : List V} (hf : Fits X.ty h (d + 3) 29 cs) : ∃ v L, cs = [v] /\ RowAt h v L /\ ∀ k ∈ L, In64 k.1 /\ In64 k.2 := by
  unfold Fits at hf
  rw [ty29] at hf
  have hmax : maxLen = 9223372036854775807 := by decide
  rw [hmax] at hf
  rcases hf with rfl | rfl | ⟨b, len, cap, full, rfl, h1, h2, h3, h4, h5, h6⟩
  · exact ⟨_, [], rfl, ⟨.nil, 0, 0, rfl, by simp, by decide, .inl rfl⟩, by simp⟩
  · exact ⟨_, [], rfl, ⟨.any, 0, 1, rfl, by simp, by decide, .inl rfl⟩, by simp⟩
  · have hsz : (X.ty 23).size = 2 := by rw [ty23]
    rw [hsz] at h5 h6
    have hx : ∀ i, ∃ x : RP, i < cap -> (full.drop (i * 2)).take 2 = [.int .i64 x.1, .int .i64 x.2] /\ In64 x.1 /\ In64 x.2 := by
      intro i
      by_cases hi : i < cap
      · obtain ⟨a, b, e, r1, r2⟩ := fits_ref (h6 i hi)
        exact ⟨(a, b), fun _ => ⟨e, r1, r2⟩⟩
      · exact ⟨(0, 0), fun h' => absurd h' hi⟩
    obtain ⟨g, hg⟩ := Classical.axiomOfChoice hx
    have hlen : ((List.range len).map g).length = len := by rw [List.length_map, List.length_range]
    refine ⟨_, (List.range len).map g, rfl, ⟨.at b 0 0, cap, 0, by rw [hlen], by rw [hlen]; omega, by omega, .inr ⟨b, 0, 0, false, full, rfl, ?_, ?_, ?_⟩⟩, ?_⟩
    · unfold hcells; rw [h4]; exact grd_t rfl _
    · intro i x hi
      rw [List.getElem?_map] at hi
      cases hr : (List.range len)[i]? with
      | none => rw [hr] at hi; cases hi
      | some j =>
        rw [hr] at hi
        have hj : i < len := by have := (List.getElem?_eq_some_iff.1 hr).1; simpa using this
        have : j = i := by rw [List.getElem?_range hj] at hr; exact (Option.some.inj hr).symm
        subst this
        simp only [Option.map_some,Option.some.injEq] at hi
        subst hi
        rw [Nat.zero_add]
        exact (hg j (by omega)).1
    · rw [hlen, h5, Nat.zero_add]
      exact Nat.mul_le_mul_right 2 (by omega)
    · intro k hk
      obtain ⟨i, hi, rfl⟩ := List.mem_map.1 hk
      have := List.mem_range.1 hi
      exact (hg i (by omega)).2
theorem fits_instN {h : Heap} {d : Nat} {cs : List V} (hf : Fits X.ty h (d + 4) 31 cs) : ∃ x : In, cs = inV x /\ InAt h x /\ x.Ok /\ ∀ k ∈ x.pl, In64 k.1 /\ In64 k.2 := by
  unfold Fits at hf
  rw [ty31] at hf
  obtain ⟨hl, hf⟩ := hf
  match cs, hl with
  | [c0, c1, c2, c3, c4, c5, c6, c7, c8, c9, c10, c11, c12, c13, c14, c15], _ =>
    obtain ⟨l, i, h0, i0, i1⟩ := fits_ref (hf (0, 23) (by simp))
    obtain ⟨bn, bd, h1, i2, i3⟩ := fits_ballot (hf (2, 25) (by simp))
    obtain ⟨vn, vd, h2, i4, i5⟩ := fits_ballot (hf (4, 25) (by simp))
    obtain ⟨st, h3, i6⟩ := fits_int (hf (6, 3) (by simp))
    obtain ⟨sm, h4⟩ := fits_bool (hf (7, 4) (by simp))
    obtain ⟨o, c, q, f, t, dv, dl, h5, j0, j1, j2, j3, j4, j5⟩ := fits_cmd (hf (8, 28) (by simp))
    obtain ⟨sq, h6, i7⟩ := fits_int (hf (14, 3) (by simp))
    obtain ⟨pv, pl, h7, i8, i9⟩ := fits_refsN (hf (15, 29) (by simp))
    simp [ty23] at h0
    simp [ty25] at h1 h2
    simp [ty3] at h3 h6
    simp [ty4] at h4
    simp [ty28] at h5
    simp [ty29] at h7
    obtain ⟨rfl, rfl⟩ := h0
    obtain ⟨rfl, rfl⟩ := h1
    obtain ⟨rfl, rfl⟩ := h2
    obtain ⟨rfl, rfl, rfl, rfl, rfl, rfl⟩ := h5
    subst h3 h4 h6 h7
    exact ⟨⟨l, i, bn, bd, vn, vd, st, sm, o, c, q, f, t, _, dl, sq, _, pl⟩, rfl, ⟨j5.at, i8⟩, ⟨i0, i1, i2, i3, i4, i5, i6, i7, j0, j1, j2, j3, j4⟩, i9⟩
end Go.Ev
set_option maxRecDepth 100000
namespace Go.Ev
open Go.Ev renaming exPure -> Ja, ofValue -> Jb, cellsV -> Jc, load -> Jd, store -> Je, binOp -> Jf, intOp -> Jg, rdV -> Jh, vsame -> Ji, vsames -> Jj, makeSliceV -> Jk, resV -> Jl, isCell -> Jm, nilCheckV -> Jn, allV -> Jo, builtinV -> Jp, lenV -> Jq, indexAddrV -> Jr, unOp -> Js, minmaxV -> Jt, minmax -> Ju, sliceV -> Jv, asInt -> Jw, appendV -> Jx, forkB -> Jy, roY -> Jz, rwB -> J0, copyV -> J1, clearV -> J2, convV -> J3, sliceCells -> J4, shift -> J5
open Bool renaming true -> BT, false -> BF
open Nat renaming reduceEqDiff -> J6, reduceLT -> J7, reduceAdd -> J8, reduceBEq -> J9, reduceSub -> JA, reduceMul -> JB, reduceLeDiff -> JJ
open Int renaming reduceLT -> JC, reduceLE -> JD, reduceAdd -> JE, reduceSub -> JF, reduceNeg -> JG, reduceToNat -> JH, reduceEq -> JI
open Go.Proofs
def lightB : Nat -> Nat -> List ByteArray -> Bool
  | _, _, [] => true
  | i, n, s :: r => cond (decide ((100 : Int) < i)) false (cond (decide ((10000 : Int) < s.size)) false (cond (decide ((100000 : Int) < n)) false (lightB (i + 1) (n + s.size) r)))
theorem lightB_drop {i n : Nat} {l : List ByteArray} {s : ByteArray} (h : l[i]? = some s) : lightB i n (l.drop i) = cond (decide ((100 : Int) < i)) false (cond (decide ((10000 : Int) < s.size)) false (cond (decide ((100000 : Int) < n)) false (lightB (i + 1) (n + s.size) (l.drop (i + 1))))) := by
  have hi := (List.getElem?_eq_some_iff.1 h).1
  rw [List.drop_eq_getElem_cons hi]
  have : l[i] = s := by rw [List.getElem?_eq_getElem hi] at h; exact Option.some.inj h
  rw [this, lightB]
theorem light_at {h : Heap} {x : In} (hx : InAt h x) : D X (.fn 12 []) [.agg (inV x)] h = some (.bool (lightB 0 0 x.dl && decide ((x.pl.length : Int) <= 5000)), h) := by
  refine Ok.eq ?_
  refine Ok.aim fun Q hQ => ?_
  have hQ' := Hid.mk hQ
  clear hQ
  obtain ⟨a, cap, z, e1, hl, _, ha⟩ := hx.1
  obtain ⟨a3, cap3, z3, e3, _⟩ := hx.2
  have hh := Hid.mk ha
  clear ha hx
  simp only [inV,e1,e3]
  clear e1 e3
  generalize x.dl = l at hl hh hQ' ⊢
  (refine Ok.body body12 pin12 ?_; simp only [c12,Try.f12,Option.getD_some,nslot12,List.append_nil,List.map,List.replicate,List.length_cons,List.length_nil,Nat.reduceAdd,Nat.reduceSub,List.cons_append,List.nil_append])
  simp -implicitDefEqProofs (maxSteps := 1000000) (disch := first | assumption | omega | (simp only [ZDI]; omega)) only [*,lenV,G12,Za,Zb,Zc,Zd,Ze,Zf,Zg,Zh,Zi,Zj,Zk,Zl,Zm,Zn,Zo,Ja,Jb,Jc,J6,Jd,Je,J7,J8,Jf,Jg,Jh,Ji,Jj,Jk,J9,Jl,Jm,wr,Jn,JA,JB,Jo,Jp,Jq,Jr,Js,Jt,Ju,Jv,Jw,Jx,Jy,Jz,J0,J1,J2,J3,J4,J5,reduceCtorEq,JC,JD,JE,JF,JG,JH,JI,JJ]
  refine Ok.loop [BF, BF, BT, BT, BT, BT, BF, BF, BF, BF, BT, BT, BT, BT, BT, BT, BT, BT, BT, BT, BT, BT, BT, BT, BT, BT, BT, BT, BT, BT, BT, BF, BF, BF, BF] (fun n s => ∃ i m : Nat, n = l.length - i /\ i <= l.length /\ m <= 110000 /\ tv s.e 10 = .v (.int .i64 i) /\ tv s.e 3 = .v (.int .i64 m) /\ s.l = [(1, [.int .i64 x.l, .int .i64 x.i, .int .i64 x.bn, .int .i64 x.bd, .int .i64 x.vn, .int .i64 x.vd, .int .i64 x.st, .bool x.sm, .int .i64 x.o, .int .i64 x.c, .int .i64 x.q, .int .i64 x.f, .int .i64 x.t, .sl a l.length cap z, .int .i64 x.sq, .sl a3 x.pl.length cap3 z3])] /\ s.h = h /\ lightB 0 0 l = lightB i m (l.drop i))
    (fun xx s => s.l = [(1, [.int .i64 x.l, .int .i64 x.i, .int .i64 x.bn, .int .i64 x.bd, .int .i64 x.vn, .int .i64 x.vd, .int .i64 x.st, .bool x.sm, .int .i64 x.o, .int .i64 x.c, .int .i64 x.q, .int .i64 x.f, .int .i64 x.t, .sl a l.length cap z, .int .i64 x.sq, .sl a3 x.pl.length cap3 z3])] /\ s.h = h /\ ((xx = .exit 0 /\ lightB 0 0 l = true) \/ (xx = .ret /\ lightB 0 0 l = false /\ tv s.e 2 = .v (.bool false)))) (l.length - 0) ⟨0, 0, rfl, by omega, by omega, rfl, rfl, rfl, rfl, rfl⟩ ?_ ?_
  · intro n ⟨e', l', h'⟩ hW ⟨i, m, hn, hi, hm, h9, h3, h1, h2, hno⟩
    dsimp only at hW h9 h3 h1 h2
    subst l' h'
    rw [hW.spread]
    simp only [spread_t,spread_f,spread_n,Nat.zero_add,Nat.reduceAdd,h9,h3]
    by_cases hlt : i < l.length
    · rcases hh.out with rfl | ⟨b, g, oo, rw, full, rfl, hb, hfull⟩
      · simp at hlt
      · obtain ⟨s, hs⟩ : ∃ s, l[i]? = some s := ⟨_, List.getElem?_eq_getElem hlt⟩
        have hf := hfull i s hs
        have hno' := hno
        rw [lightB_drop hs] at hno'
        have hno2 := Hid.mk hno'
        clear hno hno' hfull
        (repeat' (first | (simp -implicitDefEqProofs (maxSteps := 1000000) (disch := first | assumption | omega | (simp only [ZDI]; omega)) only [*,Int.ofNat_lt,Int.natCast_nonneg,lenV,Int.natCast_zero,G12,Za,Zb,Zc,Zd,Ze,Zf,Zg,Zh,Zi,Zj,Zk,Zl,Zm,Zn,Zo,Ja,Jb,Jc,J6,Jd,Je,J7,J8,Jf,Jg,Jh,Ji,Jj,Jk,J9,Jl,Jm,wr,Jn,JA,JB,Jo,Jp,Jq,Jr,Js,Jt,Ju,Jv,Jw,Jx,Jy,Jz,J0,J1,J2,J3,J4,J5,reduceCtorEq,JC,JD,JE,JF,JG,JH,JI,JJ]) | ((with_reducible (first | apply Ok.br | apply Ok.gd | apply Ok.ld)) <;> (intro g; (try simp only [ZGS] at g); try (exfalso; omega)))))
        all_goals first
          | (refine Turn.ret ⟨rfl, rfl, rfl, .inr ⟨rfl, ?_, rfl⟩⟩; rw [hno2.out]; simp only [*,decide_true,decide_false,cond_true,cond_false]; done)
          | (refine Turn.next (l.length - (i + 1)) (by omega) ⟨rfl, i + 1, m + s.size, rfl, by omega, by omega, rfl, rfl, rfl, rfl, ?_⟩; rw [hno2.out]; simp only [*,decide_false,cond_false])
    · simp -implicitDefEqProofs (maxSteps := 1000000) (disch := first | assumption | omega | (simp only [ZDI]; omega)) only [*,Int.ofNat_lt,G12,Za,Zb,Zc,Zd,Ze,Zf,Zg,Zh,Zi,Zj,Zk,Zl,Zm,Zn,Zo,Ja,Jb,Jc,J6,Jd,Je,J7,J8,Jf,Jg,Jh,Ji,Jj,Jk,J9,Jl,Jm,wr,Jn,JA,JB,Jo,Jp,Jq,Jr,Js,Jt,Ju,Jv,Jw,Jx,Jy,Jz,J0,J1,J2,J3,J4,J5,reduceCtorEq,JC,JD,JE,JF,JG,JH,JI,JJ]
      refine Turn.exit ⟨rfl, rfl, rfl, .inl ⟨rfl, ?_⟩⟩
      rw [List.drop_of_length_le (by omega), lightB]
  · intro xx ⟨e', l', h'⟩ hW ⟨h1, h2, hE⟩
    dsimp only at hW h1 h2 hE
    subst l' h'
    rw [hW.spread]
    rcases hE with ⟨rfl, hany⟩ | ⟨rfl, hany, h4⟩
    · simp only [spread_t,spread_f,spread_n,Nat.zero_add,Nat.reduceAdd]
      simp -implicitDefEqProofs (maxSteps := 1000000) (disch := first | assumption | omega | (simp only [ZDI]; omega)) only [*,lenV,G12,Za,Zb,Zc,Zd,Ze,Zf,Zg,Zh,Zi,Zj,Zk,Zl,Zm,Zn,Zo,Ja,Jb,Jc,J6,Jd,Je,J7,J8,Jf,Jg,Jh,Ji,Jj,Jk,J9,Jl,Jm,wr,Jn,JA,JB,Jo,Jp,Jq,Jr,Js,Jt,Ju,Jv,Jw,Jx,Jy,Jz,J0,J1,J2,J3,J4,J5,reduceCtorEq,JC,JD,JE,JF,JG,JH,JI,JJ]
      exact hQ'.out _ (by rw [hany]; simp)
    · simp only [spread_t,spread_f,spread_n,Nat.zero_add,Nat.reduceAdd,h4]
      simp -implicitDefEqProofs (maxSteps := 1000000) (disch := first | assumption | omega | (simp only [ZDI]; omega)) only [*,lenV,G12,Za,Zb,Zc,Zd,Ze,Zf,Zg,Zh,Zi,Zj,Zk,Zl,Zm,Zn,Zo,Ja,Jb,Jc,J6,Jd,Je,J7,J8,Jf,Jg,Jh,Ji,Jj,Jk,J9,Jl,Jm,wr,Jn,JA,JB,Jo,Jp,Jq,Jr,Js,Jt,Ju,Jv,Jw,Jx,Jy,Jz,J0,J1,J2,J3,J4,J5,reduceCtorEq,JC,JD,JE,JF,JG,JH,JI,JJ]
      exact hQ'.out _ (by rw [hany]; simp)
end Go.Ev
set_option maxRecDepth 100000
namespace Go.Ev
open Go.Ev renaming exPure -> Ja, ofValue -> Jb, cellsV -> Jc, load -> Jd, store -> Je, binOp -> Jf, intOp -> Jg, rdV -> Jh, vsame -> Ji, vsames -> Jj, makeSliceV -> Jk, resV -> Jl, isCell -> Jm, nilCheckV -> Jn, allV -> Jo, builtinV -> Jp, lenV -> Jq, indexAddrV -> Jr, unOp -> Js, minmaxV -> Jt, minmax -> Ju, sliceV -> Jv, asInt -> Jw, appendV -> Jx, forkB -> Jy, roY -> Jz, rwB -> J0, copyV -> J1, clearV -> J2, convV -> J3, sliceCells -> J4, shift -> J5
open Bool renaming true -> BT, false -> BF
open Nat renaming reduceEqDiff -> J6, reduceLT -> J7, reduceAdd -> J8, reduceBEq -> J9, reduceSub -> JA, reduceMul -> JB, reduceLeDiff -> JJ
open Int renaming reduceLT -> JC, reduceLE -> JD, reduceAdd -> JE, reduceSub -> JF, reduceNeg -> JG, reduceToNat -> JH, reduceEq -> JI
open Go.Proofs
theorem lightB_bd : ∀ {l : List ByteArray} {i n : Nat}, lightB i n l = true -> (∀ s ∈ l, s.size <= 10000) /\ (l = [] \/ i + l.length <= 101)
  | [], _, _, _ => ⟨by simp, .inl rfl⟩
  | s :: l, i, n, h => by
    rw [lightB] at h
    by_cases h1 : (100 : Int) < i
    · rw [decide_eq_true h1] at h; cases h
    · rw [decide_eq_false h1] at h
      by_cases h2 : (10000 : Int) < s.size
      · rw [decide_eq_true h2] at h; cases h
      · rw [decide_eq_false h2] at h
        by_cases h3 : (100000 : Int) < n
        · rw [decide_eq_true h3] at h; cases h
        · rw [decide_eq_false h3] at h
          obtain ⟨a, b⟩ := lightB_bd (l := l) h
          refine ⟨fun y hy => ?_, .inr ?_⟩
          · rcases List.mem_cons.1 hy with rfl | hy
            · omega
            · exact a y hy
          · rcases b with rfl | b
            · simp; omega
            · simp; omega
theorem sumE_bd : ∀ {l : List ByteArray}, (∀ s ∈ l, s.size <= 10000) -> sumE l <= 10000 * l.length
  | [], _ => by simp [sumE]
  | s :: l, h => by
    have h1 := sumE_bd (l := l) fun y hy => h y (by simp [hy])
    have h2 := h s (by simp)
    rw [sumE_cons, List.length_cons]; omega
theorem op_at (o : Int) : ∃ o' : Int, (IntKind.u64.wrap o).tmod 256 = o' /\ 0 <= o' /\ o' < 256 := by
  have h : 0 <= IntKind.u64.wrap o := by unfold IntKind.wrap; simp [IntKind.bits, IntKind.signed]; omega
  refine ⟨_, rfl, ?_, ?_⟩
  · rw [Int.tmod_eq_emod_of_nonneg h]; omega
  · rw [Int.tmod_eq_emod_of_nonneg h]; omega
theorem smB_bare {x z : In} (h : bareIn x = bareIn z) : smB x z = true := by
  have e : z = { x with dv := z.dv, pv := z.pv } := by
    cases x; cases z
    simp only [bareIn,In.mk.injEq] at h ⊢
    simp [h]
  rw [e]
  exact smB_refl x
theorem In.Ok.in64s {x : In} (h : x.Ok) (hp : ∀ k ∈ x.pl, In64 k.1 /\ In64 k.2) (o : Int) : In64s { x with o := o } := by
  obtain ⟨h1, h2, h3, h4, h5, h6, h7, h8, h9, h10, h11, h12, h13⟩ := h
  unfold In64 at *
  refine ⟨?_, ?_, ?_, ?_, ?_, ?_, ?_, ?_, ?_, ?_, ?_, ?_, fun k hk => ?_⟩
  all_goals first | (unfold In64'; dsimp only; omega) | skip
  obtain ⟨a, b⟩ := hp k hk
  unfold In64'; omega
theorem instE_len {x : In} (h6 : In64s x) (hdl : x.dl.length <= 5000) : (instE x).length <= 200 + 2 * sumE x.dl + x.dl.length + 23 * x.pl.length := by
  have l1 := intE_len h6.a1
  have l2 := intE_len h6.a2
  have l3 := intE_len h6.a3
  have l4 := intE_len h6.a4
  have l5 := intE_len h6.a5
  have l6 := intE_len h6.a6
  have l7 := intE_len h6.a7
  have l8 := intE_len h6.a8
  have l9 := cmdE_len (o := x.o) (l := x.dl) h6.b1 h6.b2 h6.b3 h6.b4 hdl
  have l10 := refsE_len x.pl h6.ps
  have l11 : (numE x.pl.length).length <= x.pl.length + 1 := by
    unfold numE
    have := hiE_le (x.pl.length / 128)
    rw [List.length_append]; simp; omega
  unfold instE
  simp only [List.length_append,List.length_cons,List.length_nil]
  omega
theorem instE_two (x : In) : 2 <= (instE x).length := by
  unfold instE
  have h1 := intE_pos x.l
  have h2 := intE_pos x.i
  simp only [List.length_append,List.length_cons]; omega
set_option maxHeartbeats 64000000 in
theorem instsLays_at {H : Heap} {x : In} {vm : V} {ms : List UInt8} (hx : InAt H x) (hok : x.Ok) (hps : ∀ k ∈ x.pl, In64 k.1 /\ In64 k.2) (hm : BytesIn H vm ms) :
    Ev.Ok (D X (.fn 11 []) [.agg (inV x), vm] H) fun y => y.1 = .bool true := by
  refine Ok.aim fun Q hQ => ?_
  have hQ' := Hid.mk hQ
  clear hQ
  have h1 := light_at hx
  have h8 := D_pin (X := X) (f := 13) (b := true) rfl
  have hop := op_at x.o
  obtain ⟨ma, mc, mz, hvm⟩ : ∃ a c z, vm = .sl a ms.length c z := by
    rcases hm.2 with ⟨rfl, rfl | rfl⟩ | ⟨b, cap, full, rfl, _⟩
    · exact ⟨_, _, _, rfl⟩
    · exact ⟨_, _, _, rfl⟩
    · exact ⟨_, _, _, rfl⟩
  obtain ⟨da, dc, dz, hdv⟩ := hx.1.sl
  obtain ⟨pa, pc, pz, hpv⟩ := hx.2.sl
  obtain ⟨lx, hlx⟩ : ∃ b, b = (lightB 0 0 x.dl && decide ((x.pl.length : Int) <= 5000)) := ⟨_, rfl⟩
  rw [<- hlx] at h1
  by_cases hbig : lx = false \/ 3000 < ms.length \/ 4096 < x.pl.length
  · subst hvm
    simp only [inV,hdv,hpv] at h1 ⊢
    clear hm hx hok hps hop hlx
    have hbig' : lx = false \/ (lx = true /\ (3000 : Int) < (ms.length : Int)) \/ (lx = true /\ ¬ (3000 : Int) < (ms.length : Int) /\ (4096 : Int) < (x.pl.length : Int)) := by
      cases lx with
      | false => exact .inl rfl
      | true =>
        rcases hbig with h | h | h
        · cases h
        · exact .inr (.inl ⟨rfl, by omega⟩)
        · by_cases h3 : (3000 : Int) < (ms.length : Int)
          · exact .inr (.inl ⟨rfl, h3⟩)
          · exact .inr (.inr ⟨rfl, h3, by omega⟩)
    clear hbig
    rcases hbig' with rfl | ⟨rfl, h3⟩ | ⟨rfl, h3, h4⟩
    all_goals
      (refine Ok.body body11 pin11 ?_; simp only [c11,Try.f11,Option.getD_some,nslot11,List.append_nil,List.map,List.replicate,List.length_cons,List.length_nil,Nat.reduceAdd,Nat.reduceSub,List.cons_append,List.nil_append])
      (repeat' (first | (simp -implicitDefEqProofs (maxSteps := 1000000) (disch := first | assumption | omega | (simp only [ZDI]; omega)) only [*,lenV,G11,Za,Zb,Zc,Zd,Ze,Zf,Zg,Zh,Zi,Zj,Zk,Zl,Zm,Zn,Zo,Ja,Jb,Jc,J6,Jd,Je,J7,J8,Jf,Jg,Jh,Ji,Jj,Jk,J9,Jl,Jm,wr,Jn,JA,JB,Jo,Jp,Jq,Jr,Js,Jt,Ju,Jv,Jw,Jx,Jy,Jz,J0,J1,J2,J3,J4,J5,reduceCtorEq,JC,JD,JE,JF,JG,JH,JI,JJ]) | ((with_reducible (first | apply Ok.br | apply Ok.gd | apply Ok.ld)) <;> (intro g; (try simp only [ZGS] at g); try (exfalso; omega)))))
      all_goals exact hQ'.out _ rfl
  · have hl : lx = true := by cases lx with | true => rfl | false => exact absurd (.inl rfl) hbig
    subst hl
    have hlb : lightB 0 0 x.dl = true := by
      rw [eq_comm, Bool.and_eq_true] at hlx; exact hlx.1
    obtain ⟨hs, hdl⟩ := lightB_bd hlb
    have hsum := sumE_bd hs
    have hdl' : x.dl.length <= 101 := by rcases hdl with e | e; (rw [e]; simp); omega
    have h3' : ¬ (3000 : Int) < (ms.length : Int) := by omega
    have h4' : ¬ (4096 : Int) < (x.pl.length : Int) := by omega
    obtain ⟨o', ho1, ho2, ho3⟩ := hop
    have h6 := hok.in64s hps o'
    obtain ⟨x', hx'⟩ : ∃ z : In, z = { x with o := o' } := ⟨_, rfl⟩
    have hin : InAt H x' := by rw [hx']; exact hx
    have hin' : inV x' = [.int .i64 x.l, .int .i64 x.i, .int .i64 x.bn, .int .i64 x.bd, .int .i64 x.vn, .int .i64 x.vd, .int .i64 x.st, .bool x.sm, .int .i64 o', .int .i64 x.c, .int .i64 x.q, .int .i64 x.f, .int .i64 x.t, .sl da x.dl.length dc dz, .int .i64 x.sq, .sl pa x.pl.length pc pz] := by rw [hx', <- hdv, <- hpv]; rfl
    rw [<- hx'] at h6
    have ho' : 0 <= x'.o /\ x'.o < 256 := by rw [hx']; exact ⟨ho2, ho3⟩
    have hdx : x'.dl = x.dl := by rw [hx']
    have hpx : x'.pl = x.pl := by rw [hx']
    have hEl := instE_len h6 (by rw [hdx]; omega)
    rw [hdx, hpx] at hEl
    have hE2 := instE_two x'
    have hD1 := instD_E ho' h6 (by rw [hdx]; omega) (by rw [hdx]; intro s hs'; have := hs s hs'; omega) (by rw [hpx]; omega)
    have hD2 := instD_cut ho' h6 (by rw [hdx]; omega) (by rw [hdx]; intro s hs'; have := hs s hs'; omega) (by rw [hpx]; omega)
    obtain ⟨y1, eL, H2, ob, hy1, wr, hst⟩ := instLay_at (H0 := H) (H := H ++ [.cells 0 true [.sl .nil 0 0 0]]) (p := H.length) (ob := none) (bs := []) hin (Keeps.app [] H _).keepC (Nat.le_refl _) (fun b e => by cases e) ⟨hc_new, rfl⟩ ho' h6 (by rw [hdx]; omega) (by rw [hpx]; omega) (by rw [hdx]; simp; omega)
    subst hy1
    rw [List.nil_append] at wr
    have hk2 := (hst.keepC (Keeps.app [] H _).keepC (Nat.le_refl _) (fun b e => by cases e)).1
    have eB := wBytes_at wr (by intro e; rw [e] at hE2; simp at hE2) (by omega)
    have hk3 : KeepC H (H2 ++ [.cells 0 true (bV (instE x'))]) := ⟨by have := hk2.1; simp; omega, fun i g q hc => by have h := hk2.2 _ _ _ hc; rw [hcells_app (hcells_lt h)]; exact h⟩
    obtain ⟨⟨v4, H4⟩, eR, b4, g4, z4, hv4, hz4, hc4, hb4, hk4⟩ := rInstLay_at (hin.keep hk3) ho' h6 (by rw [hdx]; omega) (by rw [hpx]; omega) (by rw [hdx]; omega)
    dsimp only at hv4 hc4 hk4
    subst hv4
    have hB4 := hk4.cells (hc_new (H := H2) (r := true) (c := bV (instE x'))) (by simp)
    have hkH4 : KeepC H H4 := ⟨Nat.le_trans hk3.1 hk4.1, fun i g q hc => hk4.cells (hk3.2 _ _ _ hc) (by simp)⟩
    have hbare : Hid (bareIn x' = bareIn x') := ⟨rfl⟩
    have tail : ∀ (G5 : Heap) (b5 : Nat) (n5 : Nat) (rw5 rwB : Bool) (full5 : List V), KeepC H G5 -> hcells G5 b5 0 = some (rw5, full5) -> full5.take n5 = bV (instE x' ++ ms) -> n5 <= full5.length -> n5 = (instE x').length + ms.length -> hcells G5 H2.length 0 = some (rwB, bV (instE x')) ->
        ∀ c5, ∃ p1 p2 G6 G7 G8 G9 z1, D X (.fn 39 []) [.sl (.at b5 0 0) n5 c5 1] G5 = some (.ptr p1 0 0, G6) /\ D X (.fn 40 []) [.ptr p1 0 0] G6 = some (.agg (inV z1), G7) /\
          D X (.fn 39 []) [.sl (.at H2.length 0 0) ((instE x').length - 1) (instE x').length 1] G7 = some (.ptr p2 0 0, G8) /\ D X (.fn 40 []) [.ptr p2 0 0] G8 = some (.agg (inV zeroIn), G9) /\
          D X (.fn 17 []) [.agg (inV x'), .agg (inV z1)] G9 = some (.bool true, G9) /\ D X (.fn 41 []) [.ptr p1 0 0] G9 = some (.int .i64 ms.length, G9) /\ D X (.fn 42 []) [.ptr p2 0 0] G9 = some (.bool true, G9) /\
          D X (.fn 17 []) [.agg (inV zeroIn), .agg (inV zeroIn)] G9 = some (.bool true, G9) /\ ∃ sa sn sc sz qa qn qc qz, z1.dv = .sl sa sn sc sz /\ z1.pv = .sl qa qn qc qz := by
      intro G5 b5 n5 rw5 rwB full5 q1 q2 q3 q4 q5 q6 c5
      have q7 := hcells_lt q2
      obtain ⟨n1, n2⟩ := newReader_at (c := c5) (z := 1) (bs := instE x' ++ ms) q2 (by rw [List.length_append]; omega) q4 q3 (by omega) (by omega)
      obtain ⟨⟨w7, G7⟩, t1, z1, hw7, hz1, hc1, hr1, hk7⟩ := rdInst_at n2
      dsimp only at hw7 hz1 hr1 hk7
      subst hw7
      have hdec : (some (instE x' ++ ms)).bind instD = some (bareIn x', ms) := hD1 ms
      rw [hdec] at hc1 hr1
      have hz1' : bareIn z1 = bareIn x' := by
        rcases hc1 with ⟨e, _⟩ | ⟨r, e⟩
        · cases e
        · exact (congrArg Prod.fst (Option.some.inj e)).symm
      have q8 : hcells G7 H2.length 0 = some (rwB, bV (instE x')) := by
        refine hk7.cells (p := (rwB, bV (instE x'))) ?_ ?_
        · rw [hcells_app (hcells_lt q6)]; exact q6
        · have := hcells_lt q6; simp; omega
      obtain ⟨n3, n4⟩ := newReader_at (c := (instE x').length) (z := 1) (bs := (instE x').take ((instE x').length - 1)) (n := (instE x').length - 1) q8 (by rw [List.length_take]; omega) (by rw [bV_len]; omega) (bV_cut0 _ _) (by omega) (by omega)
      obtain ⟨⟨w9, G9⟩, t2, z2, hw9, hz2, hc2, hr2, hk9⟩ := rdInst_at n4
      dsimp only at hw9 hz2 hr2 hk9
      subst hw9
      have hdec2 : (some ((instE x').take ((instE x').length - 1))).bind instD = none := hD2
      rw [hdec2] at hc2 hr2
      have hz2' : z2 = zeroIn := by
        rcases hc2 with ⟨_, e⟩ | ⟨r, e⟩
        · exact e
        · cases e
      subst hz2'
      have hk79 : Keeps [] G7 G9 := ⟨by have := hk9.1; simp at this; omega, fun i hi _ => by
        rw [hk9.2 i (by simp; omega) (by simp; omega), List.getElem?_append_left hi]⟩
      have hkG7 : KeepC H G7 := ⟨by have := hk7.1; have := q1.1; simp at *; omega, fun i g q hc => by
        have e := q1.2 _ _ _ hc
        refine hk7.cells (p := q) ?_ ?_
        · rw [hcells_app (hcells_lt e)]; exact e
        · have := hcells_lt e; simp; omega⟩
      have hkG9 : KeepC H G9 := ⟨Nat.le_trans hkG7.1 hk79.1, fun i g q hc => hk79.cells (hkG7.2 _ _ _ hc) (by simp)⟩
      have hz19 := hz1.keep hk79.keepC
      have s1 := rSame_at (hin.keep hkG9) hz19
      rw [smB_bare hz1'.symm] at s1
      have s2 := rSame_at hz2 hz2
      rw [smB_refl] at s2
      have s3 := rdLeft_at (hr1.keep hk79)
      have s4 := rdBad_at hr2
      obtain ⟨sa, sc, sz, e1⟩ := hz1.1.sl
      obtain ⟨qa, qc, qz, e2⟩ := hz1.2.sl
      exact ⟨_, _, _, G7, _, G9, z1, n1, t1, n3, t2, s1, s3, s4, s2, _, _, _, _, _, _, _, _, e1, e2⟩
    have tail' := Hid.mk tail
    have hne : ¬ (instE x').length = 0 := by omega
    have htb := toBytes_bV (instE x')
    have hsub : ((instE x').length : Int) - 1 = (((instE x').length - 1 : Nat) : Int) := by omega
    have hle1 : (instE x').length - 1 <= (instE x').length := by omega
    have hm' := Hid.mk hm.2
    have hkH4' := Hid.mk hkH4
    have hlen2 : H.length <= H2.length := hk2.1
    have hB4l := hcells_lt hB4
    have hEb : (instE x').length <= 3000000 := by omega
    clear tail wr hst hk2 hk3 hk4 hD1 hD2 hEl hE2 hx hok hps hm hlx hlb hs hdl hsum hbig h6 hin hbare hkH4 hz4 hb4
    simp only [inV,hdv,hpv] at h1 ⊢
    clear hvm hdv hpv hdx hpx hx'
    rcases hm'.out with ⟨e0, hv⟩ | ⟨bm, cap, full, rfl, hbm, hml, hmt⟩
    · subst e0
      rcases hv with rfl | rfl
      all_goals
        obtain ⟨p1, p2, G6, G7, G8, G9, z1, n1, t1, n3, t2, s1, s2, s3, s4, sa, sn, sc, sz, qa, qn, qc, qz, e1, e2⟩ := tail'.out H4 H2.length (instE x').length true true (bV (instE x')) hkH4'.out hB4 (by rw [List.append_nil]; exact bV_take _) (by rw [bV_len]; exact Nat.le_refl _) (by rfl) hB4 (instE x').length
        simp only [hin'] at eL eR s1
        simp only [inV,e1,e2] at t1 s1
        simp only [inV,zeroIn] at t2 s4
        clear tail' hkH4' hm' hin'
        (refine Ok.body body11 pin11 ?_; simp only [c11,Try.f11,Option.getD_some,nslot11,List.append_nil,List.map,List.replicate,List.length_cons,List.length_nil,Nat.reduceAdd,Nat.reduceSub,List.cons_append,List.nil_append])
        (repeat' (first | (simp -implicitDefEqProofs (maxSteps := 1000000) (disch := first | assumption | omega | (simp only [ZDI]; omega)) only [*,lenV,bV_take,bV_len,List.drop_zero,Nat.zero_add,Nat.mul_one,strEq_refl,SA.add,optArr_s,optArr_n,Array.toList_append,G11,Za,Zb,Zc,Zd,Ze,Zf,Zg,Zh,Zi,Zj,Zk,Zl,Zm,Zn,Zo,Ja,Jb,Jc,J6,Jd,Je,J7,J8,Jf,Jg,Jh,Ji,Jj,Jk,J9,Jl,Jm,wr,Jn,JA,JB,Jo,Jp,Jq,Jr,Js,Jt,Ju,Jv,Jw,Jx,Jy,Jz,J0,J1,J2,J3,J4,J5,reduceCtorEq,JC,JD,JE,JF,JG,JH,JI,JJ]) | ((with_reducible (first | apply Ok.br | apply Ok.gd | apply Ok.ld)) <;> (intro g; (try simp only [ZGS] at g); try (exfalso; omega)))))
        exact hQ'.out _ rfl
    · by_cases hm0 : ms.length = 0
      · have e0 : ms = [] := List.length_eq_zero_iff.1 hm0
        obtain ⟨p1, p2, G6, G7, G8, G9, z1, n1, t1, n3, t2, s1, s2, s3, s4, sa, sn, sc, sz, qa, qn, qc, qz, e1, e2⟩ := tail'.out H4 H2.length (instE x').length true true (bV (instE x')) hkH4'.out hB4 (by rw [e0, List.append_nil]; exact bV_take _) (by rw [bV_len]; exact Nat.le_refl _) (by rw [hm0]; rfl) hB4 (instE x').length
        have hz2 : decide (ms.length = 0) = true := decide_eq_true hm0
        clear hm0 e0 hml hmt
        simp only [hin'] at eL eR s1
        simp only [inV,e1,e2] at t1 s1
        simp only [inV,zeroIn] at t2 s4
        clear tail' hkH4' hm' hin'
        (refine Ok.body body11 pin11 ?_; simp only [c11,Try.f11,Option.getD_some,nslot11,List.append_nil,List.map,List.replicate,List.length_cons,List.length_nil,Nat.reduceAdd,Nat.reduceSub,List.cons_append,List.nil_append])
        (repeat' (first | (simp -implicitDefEqProofs (maxSteps := 1000000) (disch := first | assumption | omega | (simp only [ZDI]; omega)) only [*,lenV,bV_take,bV_len,List.drop_zero,Nat.zero_add,Nat.mul_one,strEq_refl,SA.add,optArr_s,optArr_n,Array.toList_append,G11,Za,Zb,Zc,Zd,Ze,Zf,Zg,Zh,Zi,Zj,Zk,Zl,Zm,Zn,Zo,Ja,Jb,Jc,J6,Jd,Je,J7,J8,Jf,Jg,Jh,Ji,Jj,Jk,J9,Jl,Jm,wr,Jn,JA,JB,Jo,Jp,Jq,Jr,Js,Jt,Ju,Jv,Jw,Jx,Jy,Jz,J0,J1,J2,J3,J4,J5,reduceCtorEq,JC,JD,JE,JF,JG,JH,JI,JJ]) | ((with_reducible (first | apply Ok.br | apply Ok.gd | apply Ok.ld)) <;> (intro g; (try simp only [ZGS] at g); try (exfalso; omega)))))
        exact hQ'.out _ rfl
      · have hbm4 := hkH4'.out.2 _ _ _ hbm
        have hbml := hcells_lt hbm
        obtain ⟨G5, hG5⟩ : ∃ G, H4.set H2.length (.cells 0 false (bV (instE x'))) ++ [.cells 0 false (bV (instE x') ++ bV ms)] = G := ⟨_, rfl⟩
        have hk5 : KeepC H G5 := by
          rw [<- hG5]
          refine ⟨by have := hkH4'.out.1; simp; omega, fun i g q hc => ?_⟩
          have e := hkH4'.out.2 _ _ _ hc
          have := hcells_lt hc
          rw [hcells_app (by have := hcells_lt e; simpa using this), hcells_set_ne (by omega)]
          exact e
        have hb5 : hcells G5 H4.length 0 = some (false, bV (instE x') ++ bV ms) := by
          rw [<- hG5]
          have := hc_new (H := H4.set H2.length (.cells 0 false (bV (instE x')))) (r := false) (c := bV (instE x') ++ bV ms)
          rwa [List.length_set] at this
        have hB5 : hcells G5 H2.length 0 = some (false, bV (instE x')) := by
          rw [<- hG5, hcells_app (by simpa using hB4l)]
          unfold hcells
          rw [List.getElem?_set_self hB4l]
          exact grd_t rfl _
        obtain ⟨p1, p2, G6, G7, G8, G9, z1, n1, t1, n3, t2, s1, s2, s3, s4, sa, sn, sc, sz, qa, qn, qc, qz, e1, e2⟩ := tail'.out G5 H4.length ((instE x').length + ms.length) false false (bV (instE x') ++ bV ms) hk5 hb5 (by rw [<- bV_app, <- List.length_append]; exact bV_take _) (by rw [List.length_append, bV_len, bV_len]; exact Nat.le_refl _) rfl hB5 ((instE x').length + ms.length)
        have hd1 : ¬ (instE x').length + ms.length <= (instE x').length := by omega
        have hL : ((instE x').length + ms.length) * 1 <= 35184372088832 /\ (instE x').length + ms.length <= 35184372088832 := by omega
        clear hk5 hb5 hB5
        simp only [hin'] at eL eR s1
        simp only [inV,e1,e2] at t1 s1
        simp only [inV,zeroIn] at t2 s4
        clear tail' hkH4' hm' hin'
        (refine Ok.body body11 pin11 ?_; simp only [c11,Try.f11,Option.getD_some,nslot11,List.append_nil,List.map,List.replicate,List.length_cons,List.length_nil,Nat.reduceAdd,Nat.reduceSub,List.cons_append,List.nil_append])
        (repeat' (first | (simp -implicitDefEqProofs (maxSteps := 1000000) (disch := first | assumption | omega | (simp only [ZDI]; omega)) only [*,lenV,bV_take,bV_len,List.drop_zero,Nat.zero_add,Nat.mul_one,strEq_refl,SA.add,optArr_s,optArr_n,Array.toList_append,G11,Za,Zb,Zc,Zd,Ze,Zf,Zg,Zh,Zi,Zj,Zk,Zl,Zm,Zn,Zo,Ja,Jb,Jc,J6,Jd,Je,J7,J8,Jf,Jg,Jh,Ji,Jj,Jk,J9,Jl,Jm,wr,Jn,JA,JB,Jo,Jp,Jq,Jr,Js,Jt,Ju,Jv,Jw,Jx,Jy,Jz,J0,J1,J2,J3,J4,J5,reduceCtorEq,JC,JD,JE,JF,JG,JH,JI,JJ]) | ((with_reducible (first | apply Ok.br | apply Ok.gd | apply Ok.ld)) <;> (intro g; (try simp only [ZGS] at g); try (exfalso; omega)))))
        exact hQ'.out _ rfl
end Go.Ev
