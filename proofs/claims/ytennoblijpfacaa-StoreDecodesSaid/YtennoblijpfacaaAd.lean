/-
Texts of this claim, one behind the other.
-/
import Derived.Test.YtennoblijpfacaaAc
set_option linter.unusedSimpArgs false
set_option linter.unusedVariables false
set_option maxRecDepth 100000
set_option maxRecDepth 100000
namespace Go.Ev
open Go.Ev renaming exPure -> Ja, ofValue -> Jb, cellsV -> Jc, load -> Jd, store -> Je, binOp -> Jf, intOp -> Jg, rdV -> Jh, vsame -> Ji, vsames -> Jj, makeSliceV -> Jk, resV -> Jl, isCell -> Jm, nilCheckV -> Jn, allV -> Jo, builtinV -> Jp, lenV -> Jq, indexAddrV -> Jr, unOp -> Js, minmaxV -> Jt, minmax -> Ju, sliceV -> Jv, asInt -> Jw, appendV -> Jx, forkB -> Jy, roY -> Jz, rwB -> J0, copyV -> J1, clearV -> J2, convV -> J3, sliceCells -> J4, shift -> J5
open Bool renaming true -> BT, false -> BF
open Nat renaming reduceEqDiff -> J6, reduceLT -> J7, reduceAdd -> J8, reduceBEq -> J9, reduceSub -> JA, reduceMul -> JB, reduceLeDiff -> JJ
open Int renaming reduceLT -> JC, reduceLE -> JD, reduceAdd -> JE, reduceSub -> JF, reduceNeg -> JG, reduceToNat -> JH, reduceEq -> JI
open Go.Proofs
def boolD : Dec Bool := fun l => (byteD l).bind fun x => if 1 < x.1.toNat then none else some (decide (x.1.toNat = 1), x.2)
def textD : Dec ByteArray := fun l => (numD l).bind fun x => if 1048576 < x.1 \/ x.2.length < x.1 then none else some (⟨(x.2.take x.1).toArray⟩, x.2.drop x.1)
set_option maxHeartbeats 8000000 in
theorem rdBool_at {H : Heap} {p : Nat} {v : V} {bs : List UInt8} {st : Option (List UInt8)} (h : RdAt H p v bs st) : Ev.Ok (D X (.fn 74 []) [.ptr p 0 0] H) (Took boolD false .bool p v bs st H) := by
  refine Ok.aim fun Q hQ => ?_
  have hQ' := Hid.mk hQ
  clear hQ
  obtain ⟨⟨vb, g1⟩, eB, hv, hrd1, hk1⟩ := rdByte_at h
  dsimp only at hv hrd1 hk1
  have eFail := rdFail_at hrd1
  obtain ⟨f1, f2⟩ := hrd1.fail
  have hI : st.bind boolD = (st.bind byteD).bind fun x => if 1 < x.1.toNat then none else some (decide (x.1.toNat = 1), x.2) := by cases st <;> rfl
  cases hx : st.bind byteD with
  | none =>
    rw [hx] at hI
    simp only [hx,Option.map_none,Option.bind_none,Option.getD_none,Option.isNone_none] at hv hrd1
    subst hv
    have hI' : st.bind boolD = none := hI
    have hz0 : ((UInt8.toNat 0 : Nat) : Int) = 0 := rfl
    have hq : Hid (Q (.bool false, g1)) := ⟨hQ'.out _ ⟨by rw [hI']; rfl, by rw [hI']; exact hrd1, hk1⟩⟩
    clear hQ' hrd1 hk1 f1 f2 hI hI' hx h
    (refine Ok.body body74 pin74 ?_; simp only [c74,Try.f74,Option.getD_some,nslot74,List.append_nil,List.map,List.replicate,List.length_cons,List.length_nil,Nat.reduceAdd,Nat.reduceSub,List.cons_append,List.nil_append])
    (repeat' (first | (simp -implicitDefEqProofs (maxSteps := 1000000) (disch := first | assumption | omega | (simp only [ZDI]; omega)) only [*,G74,Za,Zb,Zc,Zd,Ze,Zf,Zg,Zh,Zi,Zj,Zk,Zl,Zm,Zn,Zo,Ja,Jb,Jc,J6,Jd,Je,J7,J8,Jf,Jg,Jh,Ji,Jj,Jk,J9,Jl,Jm,wr,Jn,JA,JB,Jo,Jp,Jq,Jr,Js,Jt,Ju,Jv,Jw,Jx,Jy,Jz,J0,J1,J2,J3,J4,J5,reduceCtorEq,JC,JD,JE,JF,JG,JH,JI,JJ]) | ((with_reducible (first | apply Ok.br | apply Ok.gd | apply Ok.ld)) <;> (intro g; (try simp only [ZGS] at g); try (exfalso; omega)))))
    exact hq.out
  | some x =>
    obtain ⟨c, r⟩ := x
    simp only [hx,Option.bind_some] at hI
    simp only [hx,Option.map_some,Option.bind_some,Option.getD_some] at hv hrd1
    subst hv
    by_cases h1 : 1 < c.toNat
    · have h1' : (1 : Int) < ((c.toNat : Nat) : Int) := by omega
      have h3' : ¬ ((c.toNat : Nat) : Int) = 1 := by omega
      rw [if_pos h1] at hI
      have hq : Hid (Q (.bool false, g1.set p (.cells 0 true [v, .int .i64 bs.length, .bool true]))) := ⟨hQ'.out _ ⟨by rw [hI]; rfl, by rw [hI]; exact f1, hk1.trans f2⟩⟩
      clear hQ' hrd1 hk1 f1 f2 hI hx h h1
      (refine Ok.body body74 pin74 ?_; simp only [c74,Try.f74,Option.getD_some,nslot74,List.append_nil,List.map,List.replicate,List.length_cons,List.length_nil,Nat.reduceAdd,Nat.reduceSub,List.cons_append,List.nil_append])
      (repeat' (first | (simp -implicitDefEqProofs (maxSteps := 1000000) (disch := first | assumption | omega | (simp only [ZDI]; omega)) only [*,G74,Za,Zb,Zc,Zd,Ze,Zf,Zg,Zh,Zi,Zj,Zk,Zl,Zm,Zn,Zo,Ja,Jb,Jc,J6,Jd,Je,J7,J8,Jf,Jg,Jh,Ji,Jj,Jk,J9,Jl,Jm,wr,Jn,JA,JB,Jo,Jp,Jq,Jr,Js,Jt,Ju,Jv,Jw,Jx,Jy,Jz,J0,J1,J2,J3,J4,J5,reduceCtorEq,JC,JD,JE,JF,JG,JH,JI,JJ]) | ((with_reducible (first | apply Ok.br | apply Ok.gd | apply Ok.ld)) <;> (intro g; (try simp only [ZGS] at g); try (exfalso; omega)))))
      exact hq.out
    · have h1' : ¬ (1 : Int) < ((c.toNat : Nat) : Int) := by omega
      rw [if_neg h1] at hI
      have hq : Hid (Q (.bool (decide (c.toNat = 1)), g1)) := ⟨hQ'.out _ ⟨by rw [hI]; rfl, by rw [hI]; exact hrd1, hk1⟩⟩
      have he : decide (((c.toNat : Nat) : Int) = 1) = decide (c.toNat = 1) := by
        by_cases e : c.toNat = 1
        · rw [decide_eq_true e, decide_eq_true (by omega)]
        · rw [decide_eq_false e, decide_eq_false (by omega)]
      clear hQ' hrd1 hk1 f1 f2 hI hx h h1
      (refine Ok.body body74 pin74 ?_; simp only [c74,Try.f74,Option.getD_some,nslot74,List.append_nil,List.map,List.replicate,List.length_cons,List.length_nil,Nat.reduceAdd,Nat.reduceSub,List.cons_append,List.nil_append])
      (repeat' (first | (simp -implicitDefEqProofs (maxSteps := 1000000) (disch := first | assumption | omega | (simp only [ZDI]; omega)) only [*,G74,Za,Zb,Zc,Zd,Ze,Zf,Zg,Zh,Zi,Zj,Zk,Zl,Zm,Zn,Zo,Ja,Jb,Jc,J6,Jd,Je,J7,J8,Jf,Jg,Jh,Ji,Jj,Jk,J9,Jl,Jm,wr,Jn,JA,JB,Jo,Jp,Jq,Jr,Js,Jt,Ju,Jv,Jw,Jx,Jy,Jz,J0,J1,J2,J3,J4,J5,reduceCtorEq,JC,JD,JE,JF,JG,JH,JI,JJ]) | ((with_reducible (first | apply Ok.br | apply Ok.gd | apply Ok.ld)) <;> (intro g; (try simp only [ZGS] at g); try (exfalso; omega)))))
      exact hq.out
end Go.Ev
set_option maxRecDepth 100000
namespace Go.Ev
open Go.Ev renaming exPure -> Ja, ofValue -> Jb, cellsV -> Jc, load -> Jd, store -> Je, binOp -> Jf, intOp -> Jg, rdV -> Jh, vsame -> Ji, vsames -> Jj, makeSliceV -> Jk, resV -> Jl, isCell -> Jm, nilCheckV -> Jn, allV -> Jo, builtinV -> Jp, lenV -> Jq, indexAddrV -> Jr, unOp -> Js, minmaxV -> Jt, minmax -> Ju, sliceV -> Jv, asInt -> Jw, appendV -> Jx, forkB -> Jy, roY -> Jz, rwB -> J0, copyV -> J1, clearV -> J2, convV -> J3, sliceCells -> J4, shift -> J5
open Bool renaming true -> BT, false -> BF
open Nat renaming reduceEqDiff -> J6, reduceLT -> J7, reduceAdd -> J8, reduceBEq -> J9, reduceSub -> JA, reduceMul -> JB, reduceLeDiff -> JJ
open Int renaming reduceLT -> JC, reduceLE -> JD, reduceAdd -> JE, reduceSub -> JF, reduceNeg -> JG, reduceToNat -> JH, reduceEq -> JI
open Go.Proofs
theorem optArr_s {α : Type} (a : α) : (some a).toArray = #[a] := rfl
theorem optArr_n {α : Type} : (none : Option α).toArray = #[] := rfl
theorem toBytes_bV : ∀ l : List UInt8, toBytes (bV l) = some l
  | [] => rfl
  | c :: l => by
    show toBytes (V.int .u8 (c.toNat : Nat) :: bV l) = _
    rw [toBytes, toBytes_bV l]
    show some (UInt8.ofNat ((c.toNat : Nat) : Int).toNat :: l) = _
    rw [Int.toNat_natCast, UInt8.ofNat_toNat]
theorem bV_cut (l : List UInt8) (k n : Nat) : ((bV l).drop k).take n = bV ((l.drop k).take n) := by
  unfold bV
  rw [List.map_take, List.map_drop]
theorem bV_cut0 (l : List UInt8) (n : Nat) : (bV l).take n = bV (l.take n) := by
  unfold bV
  rw [List.map_take]
theorem numF_short : ∀ (l : List UInt8) (f : Bool) (n m : Nat) (r : List UInt8), numF f n l = some (m, r) -> r.length < l.length
  | [], f, n, m, r, h => by simp [numF] at h
  | c :: l, f, n, m, r, h => by
    rw [numF] at h
    split at h
    · cases h
    · split at h
      · cases h; simp
      · have := numF_short l _ _ _ _ h
        simp; omega
set_option maxHeartbeats 8000000 in
theorem rdText_at {H : Heap} {p : Nat} {v : V} {bs : List UInt8} {st : Option (List UInt8)} (h : RdAt H p v bs st) : Ev.Ok (D X (.fn 72 []) [.ptr p 0 0] H) (Took textD ⟨#[]⟩ .str p v bs st H) := by
  refine Ok.aim fun Q hQ => ?_
  have hQ' := Hid.mk hQ
  clear hQ
  obtain ⟨⟨vn, g2⟩, eN, hvn, hrd2, hk2⟩ := rdNum_at h
  dsimp only at hvn hrd2 hk2
  have eBad := rdBad_at hrd2
  have eLeft := rdLeft_at hrd2
  have eFail := rdFail_at hrd2
  obtain ⟨f1, f2⟩ := hrd2.fail
  have hI : st.bind textD = (st.bind numD).bind fun x => if 1048576 < x.1 \/ x.2.length < x.1 then none else some (⟨(x.2.take x.1).toArray⟩, x.2.drop x.1) := by cases st <;> rfl
  cases hx : st.bind numD with
  | none =>
    rw [hx] at hI
    have hI' : st.bind textD = none := hI
    simp only [hx,Option.map_none,Option.getD_none,Option.isNone_none,leftN] at hvn hrd2 eBad eLeft
    subst hvn
    have hq : Hid (Q (.str ⟨#[]⟩, g2)) := ⟨hQ'.out _ ⟨by rw [hI']; rfl, by rw [hI']; exact hrd2, hk2⟩⟩
    have hw0 := wrapU (n := 0) (by omega)
    clear hQ' hrd2 hk2 f1 f2 hI hI' hx h
    (refine Ok.body body72 pin72 ?_; simp only [c72,Try.f72,Option.getD_some,nslot72,List.append_nil,List.map,List.replicate,List.length_cons,List.length_nil,Nat.reduceAdd,Nat.reduceSub,List.cons_append,List.nil_append])
    (repeat' (first | (simp -implicitDefEqProofs (maxSteps := 1000000) (disch := first | assumption | omega | (simp only [ZDI]; omega)) only [*,G72,Za,Zb,Zc,Zd,Ze,Zf,Zg,Zh,Zi,Zj,Zk,Zl,Zm,Zn,Zo,Ja,Jb,Jc,J6,Jd,Je,J7,J8,Jf,Jg,Jh,Ji,Jj,Jk,J9,Jl,Jm,wr,Jn,JA,JB,Jo,Jp,Jq,Jr,Js,Jt,Ju,Jv,Jw,Jx,Jy,Jz,J0,J1,J2,J3,J4,J5,reduceCtorEq,JC,JD,JE,JF,JG,JH,JI,JJ]) | ((with_reducible (first | apply Ok.br | apply Ok.gd | apply Ok.ld)) <;> (intro g; (try simp only [ZGS] at g); try (exfalso; omega)))))
    exact hq.out
  | some x =>
    obtain ⟨n, r⟩ := x
    simp only [hx,Option.bind_some] at hI
    simp only [hx,Option.map_some,Option.getD_some,Option.isNone_some,leftN] at hvn hrd2 eBad eLeft
    subst hvn
    have hroom := hrd2.room
    obtain ⟨k, hkl, hkr, hcell⟩ := hrd2.cells
    have hkr := hkr r rfl
    have hrl : r.length = bs.length - k := by rw [hkr, List.length_drop]
    have hwl := wrapU (n := (r.length : Int)) (by omega)
    by_cases hbig : 1048576 < n \/ r.length < n
    · rw [if_pos hbig] at hI
      have hq : Hid (Q (.str ⟨#[]⟩, g2.set p (.cells 0 true [v, .int .i64 bs.length, .bool true]))) := ⟨hQ'.out _ ⟨by rw [hI]; rfl, by rw [hI]; exact f1, hk2.trans f2⟩⟩
      clear hQ' hrd2 hk2 f1 f2 hI hx h hkr hcell hkl hrl
      by_cases h1 : 1048576 < n
      · have h1' : (1048576 : Int) < (n : Int) := by omega
        clear hbig h1
        (refine Ok.body body72 pin72 ?_; simp only [c72,Try.f72,Option.getD_some,nslot72,List.append_nil,List.map,List.replicate,List.length_cons,List.length_nil,Nat.reduceAdd,Nat.reduceSub,List.cons_append,List.nil_append])
        (repeat' (first | (simp -implicitDefEqProofs (maxSteps := 1000000) (disch := first | assumption | omega | (simp only [ZDI]; omega)) only [*,G72,Za,Zb,Zc,Zd,Ze,Zf,Zg,Zh,Zi,Zj,Zk,Zl,Zm,Zn,Zo,Ja,Jb,Jc,J6,Jd,Je,J7,J8,Jf,Jg,Jh,Ji,Jj,Jk,J9,Jl,Jm,wr,Jn,JA,JB,Jo,Jp,Jq,Jr,Js,Jt,Ju,Jv,Jw,Jx,Jy,Jz,J0,J1,J2,J3,J4,J5,reduceCtorEq,JC,JD,JE,JF,JG,JH,JI,JJ]) | ((with_reducible (first | apply Ok.br | apply Ok.gd | apply Ok.ld)) <;> (intro g; (try simp only [ZGS] at g); try (exfalso; omega)))))
        exact hq.out
      · have h1' : ¬ (1048576 : Int) < (n : Int) := by omega
        have h2' : (r.length : Int) < (n : Int) := by omega
        clear hbig h1
        (refine Ok.body body72 pin72 ?_; simp only [c72,Try.f72,Option.getD_some,nslot72,List.append_nil,List.map,List.replicate,List.length_cons,List.length_nil,Nat.reduceAdd,Nat.reduceSub,List.cons_append,List.nil_append])
        (repeat' (first | (simp -implicitDefEqProofs (maxSteps := 1000000) (disch := first | assumption | omega | (simp only [ZDI]; omega)) only [*,G72,Za,Zb,Zc,Zd,Ze,Zf,Zg,Zh,Zi,Zj,Zk,Zl,Zm,Zn,Zo,Ja,Jb,Jc,J6,Jd,Je,J7,J8,Jf,Jg,Jh,Ji,Jj,Jk,J9,Jl,Jm,wr,Jn,JA,JB,Jo,Jp,Jq,Jr,Js,Jt,Ju,Jv,Jw,Jx,Jy,Jz,J0,J1,J2,J3,J4,J5,reduceCtorEq,JC,JD,JE,JF,JG,JH,JI,JJ]) | ((with_reducible (first | apply Ok.br | apply Ok.gd | apply Ok.ld)) <;> (intro g; (try simp only [ZGS] at g); try (exfalso; omega)))))
        exact hq.out
    · rw [if_neg hbig] at hI
      have h1' : ¬ (1048576 : Int) < (n : Int) := by omega
      have h2' : ¬ (r.length : Int) < (n : Int) := by omega
      have hwn : IntKind.i64.wrap (n : Int) = (n : Int) := wrapI (by omega)
      rcases hrd2.kept with ⟨e, _⟩ | ⟨b, hbp, hv, hbc⟩
      · exfalso
        have h3 : st = some bs \/ st = none \/ ∃ r, st = some r := by
          cases st with
          | none => exact .inr (.inl rfl)
          | some r => exact .inr (.inr ⟨r, rfl⟩)
        obtain ⟨k0, _, h4, _⟩ := h.cells
        rcases h3 with h3 | h3 | ⟨r0, h3⟩
        · rw [h3, e] at hx; simp [numD, numF] at hx
        · rw [h3] at hx; cases hx
        · have := h4 _ h3
          rw [e, List.drop_nil] at this
          rw [h3, this] at hx; simp [numD, numF] at hx
      · have hkept := hrd2.kept
        subst hv
        have hp := hcells_lt hcell
        have hb := hcells_lt hbc
        have hK : Keeps [p] g2 (g2.set p (.cells 0 true [.sl (.at b 0 0) bs.length bs.length 1, .int .i64 ((k + n : Nat) : Int), .bool false])) := (Keeps.refl _ _).set (.inl (by simp)) _
        have hrd : RdAt (g2.set p (.cells 0 true [.sl (.at b 0 0) bs.length bs.length 1, .int .i64 ((k + n : Nat) : Int), .bool false])) p (.sl (.at b 0 0) bs.length bs.length 1) bs (some (r.drop n)) :=
          ⟨hkept.keep hK, ⟨k + n, by omega, fun r' e => by cases e; rw [hkr, List.drop_drop], hcells_set_eq hp⟩, hroom⟩
        have hq : Hid (Q (.str ⟨(r.take n).toArray⟩, g2.set p (.cells 0 true [.sl (.at b 0 0) bs.length bs.length 1, .int .i64 ((k + n : Nat) : Int), .bool false]))) :=
          ⟨hQ'.out _ ⟨by rw [hI]; rfl, by rw [hI]; exact hrd, hk2.trans hK⟩⟩
        have hsl : (bs.drop k).take n = r.take n := by rw [hkr]
        have hk1 : (k : Int) + (n : Int) = ((k + n : Nat) : Int) := by omega
        have hk2' : ((k + n : Nat) : Int) - (n : Int) = (k : Int) := by omega
        have hblen : (bV bs).length = bs.length := bV_len bs
        have hle : k + n <= bs.length := by omega
        simp only [Option.isNone_some] at hcell
        have hcut := bV_cut bs k n
        rw [hsl] at hcut
        have hcut0 := bV_cut0 bs n
        have htb := toBytes_bV (r.take n)
        have hkn : k + n - k = n := by omega
        have hk0 : ¬ k = 0 := by
          obtain ⟨k0, _, h4, _⟩ := h.cells
          cases st with
          | none => cases hx
          | some r0 =>
            have h5 := numF_short _ _ _ _ _ hx
            rw [h4 _ rfl, List.length_drop] at h5
            omega
        clear hQ' hrd2 hk2 f1 f2 hI hx h hkr hrl hkept hK hrd hsl hbig
        by_cases hn0 : n = 0
        · have ht0 : r.take n = [] := by rw [hn0]; rfl
          rw [ht0] at hq
          have hz2 : decide (n = 0) = true := decide_eq_true hn0
          have hle0 : k + n <= k := by omega
          clear hcut hcut0 htb ht0
          by_cases hkk : k < bs.length
          · clear hle0 hn0
            (refine Ok.body body72 pin72 ?_; simp only [c72,Try.f72,Option.getD_some,nslot72,List.append_nil,List.map,List.replicate,List.length_cons,List.length_nil,Nat.reduceAdd,Nat.reduceSub,List.cons_append,List.nil_append])
            (repeat' (first | (simp -implicitDefEqProofs (maxSteps := 1000000) (disch := first | assumption | omega | (simp only [ZDI]; omega)) only [*,lenV,SA.add,optArr_s,optArr_n,Array.toList_append,toBytes,G72,Za,Zb,Zc,Zd,Ze,Zf,Zg,Zh,Zi,Zj,Zk,Zl,Zm,Zn,Zo,Ja,Jb,Jc,J6,Jd,Je,J7,J8,Jf,Jg,Jh,Ji,Jj,Jk,J9,Jl,Jm,wr,Jn,JA,JB,Jo,Jp,Jq,Jr,Js,Jt,Ju,Jv,Jw,Jx,Jy,Jz,J0,J1,J2,J3,J4,J5,reduceCtorEq,JC,JD,JE,JF,JG,JH,JI,JJ]) | ((with_reducible (first | apply Ok.br | apply Ok.gd | apply Ok.ld)) <;> (intro g; (try simp only [ZGS] at g); try (exfalso; omega)))))
            exact hq.out
          · clear hn0
            (refine Ok.body body72 pin72 ?_; simp only [c72,Try.f72,Option.getD_some,nslot72,List.append_nil,List.map,List.replicate,List.length_cons,List.length_nil,Nat.reduceAdd,Nat.reduceSub,List.cons_append,List.nil_append])
            (repeat' (first | (simp -implicitDefEqProofs (maxSteps := 1000000) (disch := first | assumption | omega | (simp only [ZDI]; omega)) only [*,lenV,SA.add,optArr_s,optArr_n,Array.toList_append,toBytes,G72,Za,Zb,Zc,Zd,Ze,Zf,Zg,Zh,Zi,Zj,Zk,Zl,Zm,Zn,Zo,Ja,Jb,Jc,J6,Jd,Je,J7,J8,Jf,Jg,Jh,Ji,Jj,Jk,J9,Jl,Jm,wr,Jn,JA,JB,Jo,Jp,Jq,Jr,Js,Jt,Ju,Jv,Jw,Jx,Jy,Jz,J0,J1,J2,J3,J4,J5,reduceCtorEq,JC,JD,JE,JF,JG,JH,JI,JJ]) | ((with_reducible (first | apply Ok.br | apply Ok.gd | apply Ok.ld)) <;> (intro g; (try simp only [ZGS] at g); try (exfalso; omega)))))
            exact hq.out
        · have hkk : k < bs.length := by omega
          (refine Ok.body body72 pin72 ?_; simp only [c72,Try.f72,Option.getD_some,nslot72,List.append_nil,List.map,List.replicate,List.length_cons,List.length_nil,Nat.reduceAdd,Nat.reduceSub,List.cons_append,List.nil_append])
          (repeat' (first | (simp -implicitDefEqProofs (maxSteps := 1000000) (disch := first | assumption | omega | (simp only [ZDI]; omega)) only [*,lenV,SA.add,optArr_s,optArr_n,Array.toList_append,G72,Za,Zb,Zc,Zd,Ze,Zf,Zg,Zh,Zi,Zj,Zk,Zl,Zm,Zn,Zo,Ja,Jb,Jc,J6,Jd,Je,J7,J8,Jf,Jg,Jh,Ji,Jj,Jk,J9,Jl,Jm,wr,Jn,JA,JB,Jo,Jp,Jq,Jr,Js,Jt,Ju,Jv,Jw,Jx,Jy,Jz,J0,J1,J2,J3,J4,J5,reduceCtorEq,JC,JD,JE,JF,JG,JH,JI,JJ]) | ((with_reducible (first | apply Ok.br | apply Ok.gd | apply Ok.ld)) <;> (intro g; (try simp only [ZGS] at g); try (exfalso; omega)))))
          exact hq.out
end Go.Ev
set_option maxRecDepth 100000
namespace Go.Ev
open Go.Ev renaming exPure -> Ja, ofValue -> Jb, cellsV -> Jc, load -> Jd, store -> Je, binOp -> Jf, intOp -> Jg, rdV -> Jh, vsame -> Ji, vsames -> Jj, makeSliceV -> Jk, resV -> Jl, isCell -> Jm, nilCheckV -> Jn, allV -> Jo, builtinV -> Jp, lenV -> Jq, indexAddrV -> Jr, unOp -> Js, minmaxV -> Jt, minmax -> Ju, sliceV -> Jv, asInt -> Jw, appendV -> Jx, forkB -> Jy, roY -> Jz, rwB -> J0, copyV -> J1, clearV -> J2, convV -> J3, sliceCells -> J4, shift -> J5
open Bool renaming true -> BT, false -> BF
open Nat renaming reduceEqDiff -> J6, reduceLT -> J7, reduceAdd -> J8, reduceBEq -> J9, reduceSub -> JA, reduceMul -> JB, reduceLeDiff -> JJ
open Int renaming reduceLT -> JC, reduceLE -> JD, reduceAdd -> JE, reduceSub -> JF, reduceNeg -> JG, reduceToNat -> JH, reduceEq -> JI
open Go.Proofs
def Bys (H : Heap) (bs : List UInt8) (y : V × Heap) : Prop := ∃ b g z, y.1 = .sl (.at b g 0) bs.length bs.length z /\ (z = 0 \/ z = 1) /\ hcells y.2 b g = some (true, bV bs) /\ H.length <= b /\ Keeps [] H y.2
theorem hc_new {H : Heap} {r : Bool} {c : List V} : hcells (H ++ [.cells 0 r c]) H.length 0 = some (r, c) := by
  rw [hcells_ge (Nat.le_refl _), Nat.sub_self]; exact grd_t rfl _
theorem hc_new2 {H : Heap} {x : Blk} {r : Bool} {c : List V} : hcells (H ++ [x, .cells 0 r c]) (H.length + 1) 0 = some (r, c) := by
  rw [hcells_ge (by omega), Nat.add_sub_cancel_left]; exact grd_t rfl _
theorem rem_at (m : Nat) : IntKind.u8.wrap ((m : Int).tmod 128) = ((UInt8.ofNat (m % 128)).toNat : Nat) := by
  have : (m : Int).tmod 128 = ((m % 128 : Nat) : Int) := by rw [Int.tmod_eq_emod_of_nonneg (by omega)]; omega
  rw [this, wrap8, UInt8.toNat_ofNat']
theorem rem2_at (m : Nat) : IntKind.u8.wrap (IntKind.u8.wrap ((m : Int).tmod 128) + 128) = ((UInt8.ofNat (m % 128 + 128)).toNat : Nat) := by
  rw [rem_at, UInt8.toNat_ofNat']
  have : ((m % 128 % 2 ^ 8 : Nat) : Int) + 128 = ((m % 128 + 128 : Nat) : Int) := by omega
  rw [this, wrap8, UInt8.toNat_ofNat']
theorem quo_at {m : Nat} (h : m < 18446744073709551616) : IntKind.u64.wrap ((m : Int).tdiv 128) = ((m / 128 : Nat) : Int) := by
  have : (m : Int).tdiv 128 = ((m / 128 : Nat) : Int) := by rw [Int.tdiv_eq_ediv_of_nonneg (by omega)]; omega
  rw [this, wrapU (by omega)]
set_option maxHeartbeats 4000000 in
theorem rNum_at {H : Heap} {n : Nat} (hn : n < 18446744073709551616) : Ev.Ok (D X (.fn 67 []) [.int .u64 (n : Nat)] H) (Bys H (numE n)) := by
  refine Ok.aim fun Q hQ => ?_
  have hQ' := Hid.mk hQ
  clear hQ
  have hr0 := rem_at n
  have hlen := numE_len hn
  (refine Ok.body body67 pin67 ?_; simp only [c67,Try.f67,Option.getD_some,nslot67,List.append_nil,List.map,List.replicate,List.length_cons,List.length_nil,Nat.reduceAdd,Nat.reduceSub,List.cons_append,List.nil_append])
  (repeat' (first | (simp -implicitDefEqProofs (maxSteps := 1000000) (disch := first | assumption | omega | (simp only [ZDI]; omega)) only [*,G67,Za,Zb,Zc,Zd,Ze,Zf,Zg,Zh,Zi,Zj,Zk,Zl,Zm,Zn,Zo,Ja,Jb,Jc,J6,Jd,Je,J7,J8,Jf,Jg,Jh,Ji,Jj,Jk,J9,Jl,Jm,wr,Jn,JA,JB,Jo,Jp,Jq,Jr,Js,Jt,Ju,Jv,Jw,Jx,Jy,Jz,J0,J1,J2,J3,J4,J5,reduceCtorEq,JC,JD,JE,JF,JG,JH,JI,JJ]) | ((with_reducible (first | apply Ok.br | apply Ok.gd | apply Ok.ld)) <;> (intro g; (try simp only [ZGS] at g); try (exfalso; omega)))))
  clear hr0
  refine Ok.loop [BT, BF, BF, BT, BF, BF, BF, BF, BT, BT, BT, BT, BT, BT, BT, BT, BT, BT, BT, BF] (fun k s2 => ∃ (m : Nat) (tl : List UInt8) (b g z : Nat), k = m /\ tv s2.e 0 = .v (.int .u64 (m : Nat)) /\ tv s2.e 3 = .v (.sl (.at b g 0) tl.length tl.length z) /\ (z = 0 \/ z = 1) /\ s2.l = [] /\ hcells s2.h b g = some (true, bV tl) /\ H.length <= b /\ Keeps [] H s2.h /\ numE n = hiE (m / 128) ++ tl /\ m <= n /\ 0 < tl.length)
    (fun y s2 => y = .exit 0 /\ ∃ (b g z : Nat), tv s2.e 3 = .v (.sl (.at b g 0) (numE n).length (numE n).length z) /\ (z = 0 \/ z = 1) /\ s2.l = [] /\ hcells s2.h b g = some (true, bV (numE n)) /\ H.length <= b /\ Keeps [] H s2.h)
    n ⟨n, [UInt8.ofNat (n % 128)], H.length, 0, 0, rfl, rfl, rfl, .inl rfl, rfl, hc_new, Nat.le_refl _, .app _ _ _, rfl, Nat.le_refl _, by simp⟩ ?_ ?_
  · intro k ⟨e', l', g⟩ hW ⟨m, tl, b, q, z, hm, h0, h3, hz, k2, hc, hb0, hk, hnum, hmn, htl⟩
    dsimp only at hW h0 h3 k2 hc hk
    subst l'
    rw [hW.spread]
    simp only [spread_t,spread_f,spread_n,Nat.zero_add,Nat.reduceAdd,h0,h3]
    clear hW hQ'
    have hb := hcells_lt hc
    have hlt : tl.length <= 10 := by rw [hnum, List.length_append] at hlen; omega
    have hnum' := Hid.mk hnum
    have hk' := Hid.mk hk
    clear hnum hk
    by_cases hge : 128 <= m
    · have hge' : (128 : Int) <= (m : Int) := by omega
      have hq := quo_at (m := m) (by omega)
      have hr := rem2_at (m / 128)
      have ht := bV_take tl
      have hle : tl.length <= (bV tl).length := by rw [bV_len]; exact Nat.le_refl _
      have hne : ¬ tl.length = 0 := by omega
      have hn1 : ¬ 1 + tl.length <= 1 := by omega
      have hL : (1 + tl.length) * 1 <= 35184372088832 /\ 1 + tl.length <= 35184372088832 := by omega
      (repeat' (first | (simp -implicitDefEqProofs (maxSteps := 1000000) (disch := first | assumption | omega | (simp only [ZDI]; omega)) only [*,lenV,List.drop_zero,Nat.zero_add,Nat.mul_one,G67,Za,Zb,Zc,Zd,Ze,Zf,Zg,Zh,Zi,Zj,Zk,Zl,Zm,Zn,Zo,Ja,Jb,Jc,J6,Jd,Je,J7,J8,Jf,Jg,Jh,Ji,Jj,Jk,J9,Jl,Jm,wr,Jn,JA,JB,Jo,Jp,Jq,Jr,Js,Jt,Ju,Jv,Jw,Jx,Jy,Jz,J0,J1,J2,J3,J4,J5,reduceCtorEq,JC,JD,JE,JF,JG,JH,JI,JJ]) | ((with_reducible (first | apply Ok.br | apply Ok.gd | apply Ok.ld)) <;> (intro g; (try simp only [ZGS] at g); try (exfalso; omega)))))
      exact Turn.next (m / 128) (by omega) ⟨rfl, m / 128, UInt8.ofNat (m / 128 % 128 + 128) :: tl, g.length + 1, 0, 1, rfl, rfl, by simp only [List.length_cons,Nat.add_comm tl.length 1]; rfl, .inr rfl, rfl, hc_new2, by have := hk'.out.1; omega, hk'.out.snoc _, by rw [hnum'.out, hiE, if_neg (by omega), List.append_assoc]; rfl, by omega, by simp⟩
    · have hge' : ¬ (128 : Int) <= (m : Int) := by omega
      have e : tl = numE n := by rw [hnum'.out, show m / 128 = 0 by omega, hiE]; simp
      subst e
      (repeat' (first | (simp -implicitDefEqProofs (maxSteps := 1000000) (disch := first | assumption | omega | (simp only [ZDI]; omega)) only [*,lenV,List.drop_zero,Nat.zero_add,Nat.mul_one,G67,Za,Zb,Zc,Zd,Ze,Zf,Zg,Zh,Zi,Zj,Zk,Zl,Zm,Zn,Zo,Ja,Jb,Jc,J6,Jd,Je,J7,J8,Jf,Jg,Jh,Ji,Jj,Jk,J9,Jl,Jm,wr,Jn,JA,JB,Jo,Jp,Jq,Jr,Js,Jt,Ju,Jv,Jw,Jx,Jy,Jz,J0,J1,J2,J3,J4,J5,reduceCtorEq,JC,JD,JE,JF,JG,JH,JI,JJ]) | ((with_reducible (first | apply Ok.br | apply Ok.gd | apply Ok.ld)) <;> (intro g; (try simp only [ZGS] at g); try (exfalso; omega)))))
      exact Turn.exit ⟨rfl, rfl, b, q, z, rfl, hz, rfl, hc, hb0, hk'.out⟩
  · intro y ⟨e', l', g⟩ hW ⟨hy, b, q, z, h3, hz, k2, hc, hb0, hk⟩
    dsimp only at hW h3 k2 hc hk
    subst l' hy
    rw [hW.spread]
    clear hW
    simp only [spread_t,spread_f,spread_n,Nat.zero_add,Nat.reduceAdd,h3]
    have hq := Hid.mk (hQ'.out (.sl (.at b q 0) (numE n).length (numE n).length z, g) ⟨b, q, z, rfl, hz, hc, hb0, hk⟩)
    clear hQ' hc hk
    (repeat' (first | (simp -implicitDefEqProofs (maxSteps := 1000000) (disch := first | assumption | omega | (simp only [ZDI]; omega)) only [*,G67,Za,Zb,Zc,Zd,Ze,Zf,Zg,Zh,Zi,Zj,Zk,Zl,Zm,Zn,Zo,Ja,Jb,Jc,J6,Jd,Je,J7,J8,Jf,Jg,Jh,Ji,Jj,Jk,J9,Jl,Jm,wr,Jn,JA,JB,Jo,Jp,Jq,Jr,Js,Jt,Ju,Jv,Jw,Jx,Jy,Jz,J0,J1,J2,J3,J4,J5,reduceCtorEq,JC,JD,JE,JF,JG,JH,JI,JJ]) | ((with_reducible (first | apply Ok.br | apply Ok.gd | apply Ok.ld)) <;> (intro g; (try simp only [ZGS] at g); try (exfalso; omega)))))
    exact hq.out
theorem numE_pos (n : Nat) : 0 < (numE n).length := by unfold numE; simp
end Go.Ev
set_option maxRecDepth 100000
namespace Go.Ev
open Go.Proofs
def manyD {α : Type} (d : Dec α) : Nat -> Dec (List α)
  | 0, l => some ([], l)
  | n + 1, l => (d l).bind fun x => (manyD d n x.2).map fun y => (x.1 :: y.1, y.2)
def GroS {α : Type} (H h : Heap) (v : V) (xs : List α) (f : α -> List V) (z : Nat) : Prop := (xs = [] /\ v = .sl .nil 0 0 0) \/ ∃ b g, H.length <= b /\ 0 < xs.length /\ v = .sl (.at b g 0) xs.length xs.length z /\ hcells h b g = some (true, xs.flatMap f)
theorem RdAt.grow {H g g' : Heap} {p : Nat} {v : V} {bs : List UInt8} {st0 st : Option (List UInt8)} (h0 : RdAt H p v bs st0) (h : RdAt g p v bs st) (hk : ∀ i, i < H.length -> g'[i]? = g[i]?) : RdAt g' p v bs st := by
  have hc : ∀ b q x, b < H.length -> hcells g b q = some x -> hcells g' b q = some x := fun b q x hb e => by
    unfold hcells at e ⊢
    rw [hk b hb]; exact e
  obtain ⟨k0, _, _, hp⟩ := h0.cells
  obtain ⟨k, h1, h2, h3⟩ := h.cells
  refine ⟨?_, ⟨k, h1, h2, hc _ _ _ (hcells_lt hp) h3⟩, h.room⟩
  rcases h0.kept with ⟨e1, e2⟩ | ⟨b, e1, e2, e3⟩
  · exact .inl ⟨e1, e2⟩
  · rcases h.kept with ⟨e4, e5⟩ | ⟨b', e4, e5, e6⟩
    · exact .inl ⟨e4, e5⟩
    · rw [e2] at e5
      cases e5
      exact .inr ⟨b, e1, e2, hc _ _ _ (hcells_lt e3) e6⟩
end Go.Ev
set_option maxRecDepth 100000
namespace Go.Ev
open Go.Ev renaming exPure -> Ja, ofValue -> Jb, cellsV -> Jc, load -> Jd, store -> Je, binOp -> Jf, intOp -> Jg, rdV -> Jh, vsame -> Ji, vsames -> Jj, makeSliceV -> Jk, resV -> Jl, isCell -> Jm, nilCheckV -> Jn, allV -> Jo, builtinV -> Jp, lenV -> Jq, indexAddrV -> Jr, unOp -> Js, minmaxV -> Jt, minmax -> Ju, sliceV -> Jv, asInt -> Jw, appendV -> Jx, forkB -> Jy, roY -> Jz, rwB -> J0, copyV -> J1, clearV -> J2, convV -> J3, sliceCells -> J4, shift -> J5
open Bool renaming true -> BT, false -> BF
open Nat renaming reduceEqDiff -> J6, reduceLT -> J7, reduceAdd -> J8, reduceBEq -> J9, reduceSub -> JA, reduceMul -> JB, reduceLeDiff -> JJ
open Int renaming reduceLT -> JC, reduceLE -> JD, reduceAdd -> JE, reduceSub -> JF, reduceNeg -> JG, reduceToNat -> JH, reduceEq -> JI
open Go.Proofs
end Go.Ev
set_option maxRecDepth 100000
namespace Go.Ev
open Go.Ev renaming exPure -> Ja, ofValue -> Jb, cellsV -> Jc, load -> Jd, store -> Je, binOp -> Jf, intOp -> Jg, rdV -> Jh, vsame -> Ji, vsames -> Jj, makeSliceV -> Jk, resV -> Jl, isCell -> Jm, nilCheckV -> Jn, allV -> Jo, builtinV -> Jp, lenV -> Jq, indexAddrV -> Jr, unOp -> Js, minmaxV -> Jt, minmax -> Ju, sliceV -> Jv, asInt -> Jw, appendV -> Jx, forkB -> Jy, roY -> Jz, rwB -> J0, copyV -> J1, clearV -> J2, convV -> J3, sliceCells -> J4, shift -> J5
open Bool renaming true -> BT, false -> BF
open Nat renaming reduceEqDiff -> J6, reduceLT -> J7, reduceAdd -> J8, reduceBEq -> J9, reduceSub -> JA, reduceMul -> JB, reduceLeDiff -> JJ
open Int renaming reduceLT -> JC, reduceLE -> JD, reduceAdd -> JE, reduceSub -> JF, reduceNeg -> JG, reduceToNat -> JH, reduceEq -> JI
open Go.Proofs
def vl {α : Type} (x : Option (α × List UInt8)) (d : α) : α := (x.map (·.1)).getD d
def rs {α : Type} (x : Option (α × List UInt8)) : Option (List UInt8) := x.map (·.2)
theorem took_step {α : Type} {dec : Dec α} {d : α} {f : α -> V} {fn : V} {args : List V} {H g : Heap} {p : Nat} {v : V} {bs : List UInt8} {st0 st : Option (List UInt8)}
    (hF : ∀ G, RdAt G p v bs st -> Ev.Ok (D X fn args G) (Took dec d f p v bs st G)) (h : RdAt H p v bs st0) (hrd : RdAt g p v bs st) (hk : Keeps [p] H g) {cs : List V} (hc : hcells g H.length 0 = some (true, cs)) (cs' : List V) :
    ∃ x a g', x = st.bind dec /\ a = vl x d /\ D X fn args (g.set H.length (.cells 0 true cs')) = some (f a, g') /\ RdAt g' p v bs (rs x) /\ Keeps [p] H g' /\ hcells g' H.length 0 = some (true, cs') /\ H.length < g'.length /\ Keeps [p, H.length] g g' := by
  obtain ⟨kp, _, _, hp⟩ := h.cells
  have hpl := hcells_lt hp
  have hcl := hcells_lt hc
  have h1 : RdAt (g.set H.length (.cells 0 true cs')) p v bs st := h.grow hrd fun i hi => List.getElem?_set_ne (by omega)
  obtain ⟨⟨w, g'⟩, e, hv, hr, hk2⟩ := hF _ h1
  dsimp only at hv hr hk2
  subst hv
  have hc' := hk2.cells (hcells_set_eq hcl) (by simp; omega)
  exact ⟨_, _, g', rfl, rfl, e, hr, (hk.set (.inr (Nat.le_refl _)) _).trans ⟨hk2.1, hk2.2⟩, hc', hcells_lt hc', ((Keeps.refl [p, H.length] g).set (.inl (by simp)) _).trans ⟨hk2.1, fun i hi hF => hk2.2 i hi fun e => hF (by simp at e; simp [e])⟩⟩
theorem GroS.keep {α : Type} {H h h' : Heap} {v : V} {xs : List α} {f : α -> List V} {z p : Nat} (hg : GroS H h v xs f z) (hk : Keeps [p] h h') (hp : p < H.length) : GroS H h' v xs f z := by
  rcases hg with hg | ⟨b, g, h1, h2, h3, h4⟩
  · exact .inl hg
  · exact .inr ⟨b, g, h1, h2, h3, hk.cells h4 (by simp; omega)⟩
theorem GroS.set {α : Type} {H h : Heap} {v : V} {xs : List α} {f : α -> List V} {z i : Nat} (hg : GroS H h v xs f z) (hi : i < H.length) (x : Blk) : GroS H (h.set i x) v xs f z := by
  rcases hg with hg | ⟨b, g, h1, h2, h3, h4⟩
  · exact .inl hg
  · exact .inr ⟨b, g, h1, h2, h3, by rw [hcells_set_ne (by omega)]; exact h4⟩
end Go.Ev
set_option maxRecDepth 100000
namespace Go.Ev
open Go.Proofs
theorem ofNat_small {k : Nat} (h : k < 256) : (UInt8.ofNat k).toNat = k := by rw [UInt8.toNat_ofNat']; omega
theorem numF_hi : ∀ (m : Nat) (rest : List UInt8), m < 144115188075855872 -> numF true 0 (hiE m ++ rest) = if m = 0 then numF true 0 rest else numF false m rest := by
  intro m
  induction m using Nat.strongRecOn with
  | ind m ih =>
    intro rest hm
    by_cases h0 : m = 0
    · subst h0; rw [hiE]; simp
    · rw [if_neg h0, hiE, if_neg h0, List.append_assoc, ih (m / 128) (by omega) _ (by omega)]
      have hc : (UInt8.ofNat (m % 128 + 128)).toNat = m % 128 + 128 := ofNat_small (by omega)
      by_cases h1 : m / 128 = 0
      · rw [if_pos h1, List.cons_append, List.nil_append, numF, hc, if_neg (by omega), if_neg (by omega)]
        congr 1; omega
      · rw [if_neg h1, List.cons_append, List.nil_append, numF, hc, if_neg (by simp; omega), if_neg (by omega)]
        congr 1; omega
theorem numD_E {n : Nat} (hn : n < 18446744073709551616) (r : List UInt8) : numD (numE n ++ r) = some (n, r) := by
  unfold numD numE
  rw [List.append_assoc, numF_hi _ _ (by omega)]
  have hc : (UInt8.ofNat (n % 128)).toNat = n % 128 := ofNat_small (by omega)
  by_cases h1 : n / 128 = 0
  · rw [if_pos h1, List.cons_append, List.nil_append, numF, hc, if_neg (by omega), if_pos (by omega)]
    congr 2; omega
  · rw [if_neg h1, List.cons_append, List.nil_append, numF, hc, if_neg (by simp; omega), if_pos (by omega)]
    congr 2; omega
theorem boolD_E (b : Bool) (r : List UInt8) : boolD ((if b then 1 else 0) :: r) = some (b, r) := by
  cases b <;> rfl
theorem textD_E {s : ByteArray} (hs : s.size <= 1048576) (r : List UInt8) : textD (textE s ++ r) = some (s, r) := by
  have hl : s.data.toList.length = s.size := by rw [Array.length_toList]; rfl
  unfold textD textE
  rw [List.append_assoc, numD_E (by omega)]
  simp only [Option.bind_some]
  rw [if_neg (by rw [List.length_append, hl]; omega), <- hl, List.take_left, List.drop_left]
def Loc {α : Type} (d : Dec α) : Prop := ∀ s v r t, d s = some (v, r) -> d (s ++ t) = some (v, r ++ t)
theorem Loc.cut {α : Type} {d : Dec α} (h : Loc d) {s : List UInt8} {c : UInt8} {x : α} (he : d (s ++ [c]) = some (x, [])) : d s = none := by
  cases hd : d s with
  | none => rfl
  | some y =>
    have := h s y.1 y.2 [c] hd
    rw [he] at this
    simp at this
end Go.Ev
set_option maxRecDepth 100000
namespace Go.Ev
open Go.Proofs
theorem ofNat_eq {c : UInt8} {k : Nat} (h : k = c.toNat) : UInt8.ofNat k = c := by rw [h, UInt8.ofNat_toNat]
theorem numF_canon : ∀ (l : List UInt8) (f : Bool) (n m : Nat) (r : List UInt8), numF f n l = some (m, r) -> (f = true -> n = 0) -> (f = false -> 0 < n) -> ∃ mid, l = mid ++ r /\ hiE n ++ mid = numE m /\ m < 18446744073709551616
  | [], f, n, m, r, h, _, _ => by simp [numF] at h
  | c :: l, f, n, m, r, h, h1, h2 => by
    have hc := UInt8.toNat_lt c
    rw [numF] at h
    split at h
    · cases h
    · rename_i hb
      split at h
      · rename_i hlt
        cases h
        refine ⟨[c], rfl, ?_, by omega⟩
        unfold numE
        have e1 : (n * 128 + c.toNat % 128) / 128 = n := by omega
        rw [e1, ofNat_eq (c := c) (by omega)]
      · rename_i hlt
        have hpos : 0 < n * 128 + c.toNat % 128 := by
          cases f with
          | true => have := h1 rfl; by_cases e : c.toNat = 128; (exact absurd (.inl ⟨rfl, e⟩) hb); omega
          | false => have := h2 rfl; omega
        obtain ⟨mid, e1, e2, e3⟩ := numF_canon l false _ m r h (by intro e; cases e) (fun _ => hpos)
        refine ⟨c :: mid, by rw [e1]; rfl, ?_, e3⟩
        have e4 : (n * 128 + c.toNat % 128) / 128 = n := by omega
        have e5 : hiE (n * 128 + c.toNat % 128) = hiE n ++ [c] := by
          rw [hiE, if_neg (by omega), e4, ofNat_eq (c := c) (by omega)]
        rw [<- e2, e5, List.append_assoc]; rfl
theorem numD_canon {l r : List UInt8} {m : Nat} (h : numD l = some (m, r)) : l = numE m ++ r /\ m < 18446744073709551616 := by
  obtain ⟨mid, e1, e2, e3⟩ := numF_canon l true 0 m r h (fun _ => rfl) (by intro e; cases e)
  rw [hiE, if_pos rfl, List.nil_append] at e2
  exact ⟨by rw [<- e2]; exact e1, e3⟩
theorem boolD_canon {l r : List UInt8} {b : Bool} (h : boolD l = some (b, r)) : l = (if b then 1 else 0) :: r := by
  unfold boolD at h
  cases l with
  | nil => cases h
  | cons c l =>
    simp only [byteD,Option.bind_some] at h
    split at h
    · cases h
    · rename_i h1
      cases h
      have hc : c.toNat = 0 \/ c.toNat = 1 := by omega
      rcases hc with hc | hc
      · have : c = 0 := UInt8.toNat_inj.1 hc
        subst this; rfl
      · have : c = 1 := UInt8.toNat_inj.1 hc
        subst this; rfl
theorem textD_canon {l r : List UInt8} {s : ByteArray} (h : textD l = some (s, r)) : l = textE s ++ r /\ s.size <= 1048576 := by
  unfold textD at h
  cases hn : numD l with
  | none => rw [hn] at h; cases h
  | some x =>
    rw [hn, Option.bind_some] at h
    obtain ⟨e1, e2⟩ := numD_canon (r := x.2) (m := x.1) hn
    split at h
    · cases h
    · rename_i h1
      cases h
      have hsz : (⟨(x.2.take x.1).toArray⟩ : ByteArray).size = x.1 := by
        show (x.2.take x.1).toArray.size = x.1
        simp; omega
      refine ⟨?_, by rw [hsz]; omega⟩
      unfold textE
      rw [hsz, List.append_assoc]
      show l = numE x.1 ++ (x.2.take x.1 ++ x.2.drop x.1)
      rw [List.take_append_drop]; exact e1
def valE (l : List UInt8) : Nat := l.foldl (fun n c => n * 128 + c.toNat % 128) 0
theorem valE_snoc (l : List UInt8) (c : UInt8) : valE (l ++ [c]) = valE l * 128 + c.toNat % 128 := by unfold valE; rw [List.foldl_append]; rfl
theorem valE_take {l : List UInt8} {i : Nat} {c : UInt8} (h : l[i]? = some c) : valE (l.take (i + 1)) = valE (l.take i) * 128 + c.toNat % 128 := by
  rw [List.take_add_one, h]; exact valE_snoc _ _
theorem valE_le : ∀ (l m : List UInt8), valE l <= valE (l ++ m) := by
  intro l m
  induction m generalizing l with
  | nil => simp
  | cons c m ih =>
    have := ih (l ++ [c])
    rw [valE_snoc] at this
    rw [List.append_assoc] at this
    have e : l ++ ([c] ++ m) = l ++ c :: m := rfl
    rw [e] at this
    omega
theorem hiE_val : ∀ n, valE (hiE n) = n /\ ∀ c ∈ hiE n, 128 <= c.toNat := by
  intro n
  induction n using Nat.strongRecOn with
  | ind n ih =>
    by_cases h0 : n = 0
    · subst h0; rw [hiE]; exact ⟨rfl, by simp⟩
    · obtain ⟨h1, h2⟩ := ih (n / 128) (by omega)
      have hc : (UInt8.ofNat (n % 128 + 128)).toNat = n % 128 + 128 := ofNat_small (by omega)
      rw [hiE, if_neg h0]
      refine ⟨by rw [valE_snoc, h1, hc]; omega, fun c hm => ?_⟩
      rcases List.mem_append.1 hm with hm | hm
      · exact h2 c hm
      · rw [List.mem_singleton] at hm; subst hm; omega
theorem num_end {l r : List UInt8} {m : Nat} (h : numD l = some (m, r)) : ∃ k, k <= 9 /\ k < l.length /\ (∃ c, l[k]? = some c /\ c.toNat < 128 /\ c.toNat = m % 128) /\ (∀ j c, j < k -> l[j]? = some c -> 128 <= c.toNat) /\ l.take k = hiE (m / 128) /\ l.take (k + 1) = numE m /\ m < 18446744073709551616 := by
  obtain ⟨e, hm⟩ := numD_canon h
  have hl : (hiE (m / 128)).length <= 9 := hiE_len 9 _ (by
    rw [Nat.div_lt_iff_lt_mul (by omega), <- Nat.pow_succ]
    exact Nat.lt_of_lt_of_le hm (by decide))
  have hc : (UInt8.ofNat (m % 128)).toNat = m % 128 := ofNat_small (by omega)
  have e' : l = hiE (m / 128) ++ (UInt8.ofNat (m % 128) :: r) := by rw [e]; unfold numE; rw [List.append_assoc]; rfl
  refine ⟨(hiE (m / 128)).length, hl, by rw [e', List.length_append, List.length_cons]; omega, ⟨UInt8.ofNat (m % 128), ?_, by omega, hc⟩, fun j c hj hjc => ?_, ?_, ?_, hm⟩
  · rw [e', List.getElem?_append_right (Nat.le_refl _), Nat.sub_self]; rfl
  · rw [e', List.getElem?_append_left hj] at hjc
    exact (hiE_val _).2 c (List.mem_of_getElem? hjc)
  · rw [e', List.take_left]
  · have : l = numE m ++ r := e
    rw [this]
    have hn : (hiE (m / 128)).length + 1 = (numE m).length := by unfold numE; rw [List.length_append]; rfl
    rw [hn, List.take_left]
section
variable {l : List UInt8} {i : Nat} (hge : ∀ j c, j < i -> l[j]? = some c -> 128 <= c.toNat)
include hge
theorem take_a (h : l.length <= i \/ 10 <= i) : numD l = none := by
  cases hd : numD l with
  | none => rfl
  | some x =>
    obtain ⟨k, h1, h2, ⟨c, h3, h4, _⟩, _⟩ := num_end (r := x.2) (m := x.1) hd
    have := hge k c (by omega) h3
    omega
theorem take_le {m : Nat} {r : List UInt8} (hd : numD l = some (m, r)) : i <= (l.take i).length /\ valE (l.take i) <= m / 128 := by
  obtain ⟨k, h1, h2, ⟨c, h3, h4, _⟩, h5, h6, _⟩ := num_end hd
  have hik : i <= k := by
    rcases Nat.lt_or_ge k i with h | h
    · have := hge k c h h3; omega
    · exact h
  refine ⟨by rw [List.length_take]; omega, ?_⟩
  have e : hiE (m / 128) = l.take i ++ (l.take k).drop i := by
    rw [<- h6]
    have : l.take i = (l.take k).take i := by rw [List.take_take, Nat.min_eq_left hik]
    rw [this, List.take_append_drop]
  have := valE_le (l.take i) ((l.take k).drop i)
  rw [<- e, (hiE_val _).1] at this
  exact this
theorem take_b (h : 144115188075855872 <= valE (l.take i)) : numD l = none := by
  cases hd : numD l with
  | none => rfl
  | some x =>
    have h1 := (take_le hge (m := x.1) (r := x.2) hd).2
    have h2 := (numD_canon (m := x.1) (r := x.2) hd).2
    omega
theorem take_c {c : UInt8} (hc : l[i]? = some c) (h128 : c.toNat < 128) (hn : numE (valE (l.take i) * 128 + c.toNat % 128) ≠ l.take (i + 1)) : numD l = none := by
  cases hd : numD l with
  | none => rfl
  | some x =>
    exfalso
    obtain ⟨k, h1, h2, ⟨c', h3, h4, h4'⟩, h5, h6, h7, _⟩ := num_end (m := x.1) (r := x.2) hd
    have hik : i = k := by
      rcases Nat.lt_trichotomy i k with h | h | h
      · have := h5 i c h hc; omega
      · exact h
      · have := hge k c' h h3; omega
    subst hik
    rw [h3] at hc; cases hc
    apply hn
    rw [h7, h6, (hiE_val _).1]
    congr 1; omega
end
theorem take_d {l : List UInt8} {i : Nat} {N : Nat} (hN : N < 18446744073709551616) (h : numE N = l.take (i + 1)) : numD l = some (N, l.drop (i + 1)) := by
  have := numD_E hN (l.drop (i + 1))
  rwa [h, List.take_append_drop] at this
end Go.Ev
set_option maxRecDepth 100000
namespace Go.Ev
open Go.Ev renaming exPure -> Ja, ofValue -> Jb, cellsV -> Jc, load -> Jd, store -> Je, binOp -> Jf, intOp -> Jg, rdV -> Jh, vsame -> Ji, vsames -> Jj, makeSliceV -> Jk, resV -> Jl, isCell -> Jm, nilCheckV -> Jn, allV -> Jo, builtinV -> Jp, lenV -> Jq, indexAddrV -> Jr, unOp -> Js, minmaxV -> Jt, minmax -> Ju, sliceV -> Jv, asInt -> Jw, appendV -> Jx, forkB -> Jy, roY -> Jz, rwB -> J0, copyV -> J1, clearV -> J2, convV -> J3, sliceCells -> J4, shift -> J5
open Bool renaming true -> BT, false -> BF
open Nat renaming reduceEqDiff -> J6, reduceLT -> J7, reduceAdd -> J8, reduceBEq -> J9, reduceSub -> JA, reduceMul -> JB, reduceLeDiff -> JJ
open Int renaming reduceLT -> JC, reduceLE -> JD, reduceAdd -> JE, reduceSub -> JF, reduceNeg -> JG, reduceToNat -> JH, reduceEq -> JI
open Go.Proofs
end Go.Ev
set_option maxRecDepth 100000
namespace Go.Ev
open Go.Ev renaming exPure -> Ja, ofValue -> Jb, cellsV -> Jc, load -> Jd, store -> Je, binOp -> Jf, intOp -> Jg, rdV -> Jh, vsame -> Ji, vsames -> Jj, makeSliceV -> Jk, resV -> Jl, isCell -> Jm, nilCheckV -> Jn, allV -> Jo, builtinV -> Jp, lenV -> Jq, indexAddrV -> Jr, unOp -> Js, minmaxV -> Jt, minmax -> Ju, sliceV -> Jv, asInt -> Jw, appendV -> Jx, forkB -> Jy, roY -> Jz, rwB -> J0, copyV -> J1, clearV -> J2, convV -> J3, sliceCells -> J4, shift -> J5
open Bool renaming true -> BT, false -> BF
open Nat renaming reduceEqDiff -> J6, reduceLT -> J7, reduceAdd -> J8, reduceBEq -> J9, reduceSub -> JA, reduceMul -> JB, reduceLeDiff -> JJ
open Int renaming reduceLT -> JC, reduceLE -> JD, reduceAdd -> JE, reduceSub -> JF, reduceNeg -> JG, reduceToNat -> JH, reduceEq -> JI
open Go.Proofs
def textB (s : ByteArray) : Bool := decide ((s.size : Int) <= 4096) && (decide (s.size = 0) || match s.data.toList[s.size - 1]? with | some c => !decide ((c.toNat : Int) = 0) | none => false)
theorem textB_0 {s : ByteArray} (h : s.size = 0) : textB s = true := by
  unfold textB
  rw [h]
  rfl
theorem textB_1 {s : ByteArray} (h : s.size ≠ 0) {c : UInt8} (hc : s.data.toList[s.size - 1]? = some c) : textB s = (decide ((s.size : Int) <= 4096) && !decide ((c.toNat : Int) = 0)) := by
  unfold textB
  rw [hc, decide_eq_false h, Bool.false_or]
theorem strEq_nil (s : ByteArray) : strEq s ⟨#[]⟩ = decide (s.size = 0) := by
  unfold strEq
  apply decide_eq_decide.2
  have e : s.size = s.data.toList.length := rfl
  rw [e]
  exact ⟨fun h => by rw [h]; rfl, fun h => List.length_eq_zero_iff.1 h⟩
theorem byte_last {s : ByteArray} (h : s.size ≠ 0) : ∃ c, s.data.toList[s.size - 1]? = some c := by
  have : s.size - 1 < s.data.toList.length := by rw [Array.length_toList]; have : s.size = s.data.size := rfl; omega
  exact ⟨_, List.getElem?_eq_getElem this⟩
theorem isText_at (s : ByteArray) (h : Heap) : D X (.fn 51 []) [.str s] h = some (.bool (textB s), h) := by
  refine Ok.eq ?_
  by_cases h0 : s.size = 0
  · have ht := textB_0 h0
    (refine Ok.body body51 pin51 ?_; simp only [c51,Try.f51,Option.getD_some,nslot51,List.append_nil,List.map,List.replicate,List.length_cons,List.length_nil,Nat.reduceAdd,Nat.reduceSub,List.cons_append,List.nil_append])
    (repeat' (first | (simp -implicitDefEqProofs (maxSteps := 1000000) (disch := first | assumption | omega | (simp only [ZDI]; omega)) only [*,strEq_nil,G51,Za,Zb,Zc,Zd,Ze,Zf,Zg,Zh,Zi,Zj,Zk,Zl,Zm,Zn,Zo,Ja,Jb,Jc,J6,Jd,Je,J7,J8,Jf,Jg,Jh,Ji,Jj,Jk,J9,Jl,Jm,wr,Jn,JA,JB,Jo,Jp,Jq,Jr,Js,Jt,Ju,Jv,Jw,Jx,Jy,Jz,J0,J1,J2,J3,J4,J5,reduceCtorEq,JC,JD,JE,JF,JG,JH,JI,JJ]) | ((with_reducible (first | apply Ok.br | apply Ok.gd | apply Ok.ld)) <;> (intro g; (try simp only [ZGS] at g); try (exfalso; omega)))))
    all_goals omega
  · obtain ⟨c, hc⟩ := byte_last h0
    have ht := textB_1 h0 hc
    have h1 : ¬ (s.size : Int) = 0 := by omega
    have e1 : ((s.size : Int) - 1).toNat = s.size - 1 := by omega
    (refine Ok.body body51 pin51 ?_; simp only [c51,Try.f51,Option.getD_some,nslot51,List.append_nil,List.map,List.replicate,List.length_cons,List.length_nil,Nat.reduceAdd,Nat.reduceSub,List.cons_append,List.nil_append])
    (repeat' (first | (simp -implicitDefEqProofs (maxSteps := 1000000) (disch := first | assumption | omega | (simp only [ZDI]; omega)) only [*,strEq_nil,indexV,G51,Za,Zb,Zc,Zd,Ze,Zf,Zg,Zh,Zi,Zj,Zk,Zl,Zm,Zn,Zo,Ja,Jb,Jc,J6,Jd,Je,J7,J8,Jf,Jg,Jh,Ji,Jj,Jk,J9,Jl,Jm,wr,Jn,JA,JB,Jo,Jp,Jq,Jr,Js,Jt,Ju,Jv,Jw,Jx,Jy,Jz,J0,J1,J2,J3,J4,J5,reduceCtorEq,JC,JD,JE,JF,JG,JH,JI,JJ]) | ((with_reducible (first | apply Ok.br | apply Ok.gd | apply Ok.ld)) <;> (intro g; (try simp only [ZGS] at g); try (exfalso; omega)))))
theorem rIsText_at (s : ByteArray) (h : Heap) : D X (.fn 52 []) [.str s] h = some (.bool (textB s), h) := by
  refine Ok.eq ?_
  by_cases h0 : s.size = 0
  · have ht := textB_0 h0
    (refine Ok.body body52 pin52 ?_; simp only [c52,Try.f52,Option.getD_some,nslot52,List.append_nil,List.map,List.replicate,List.length_cons,List.length_nil,Nat.reduceAdd,Nat.reduceSub,List.cons_append,List.nil_append])
    (repeat' (first | (simp -implicitDefEqProofs (maxSteps := 1000000) (disch := first | assumption | omega | (simp only [ZDI]; omega)) only [*,Int.natCast_zero,G52,Za,Zb,Zc,Zd,Ze,Zf,Zg,Zh,Zi,Zj,Zk,Zl,Zm,Zn,Zo,Ja,Jb,Jc,J6,Jd,Je,J7,J8,Jf,Jg,Jh,Ji,Jj,Jk,J9,Jl,Jm,wr,Jn,JA,JB,Jo,Jp,Jq,Jr,Js,Jt,Ju,Jv,Jw,Jx,Jy,Jz,J0,J1,J2,J3,J4,J5,reduceCtorEq,JC,JD,JE,JF,JG,JH,JI,JJ]) | ((with_reducible (first | apply Ok.br | apply Ok.gd | apply Ok.ld)) <;> (intro g; (try simp only [ZGS] at g); try (exfalso; omega)))))
    all_goals omega
  · obtain ⟨c, hc⟩ := byte_last h0
    have ht := textB_1 h0 hc
    have h1 : ¬ (s.size : Int) = 0 := by omega
    have e1 : ((s.size : Int) - 1).toNat = s.size - 1 := by omega
    (refine Ok.body body52 pin52 ?_; simp only [c52,Try.f52,Option.getD_some,nslot52,List.append_nil,List.map,List.replicate,List.length_cons,List.length_nil,Nat.reduceAdd,Nat.reduceSub,List.cons_append,List.nil_append])
    (repeat' (first | (simp -implicitDefEqProofs (maxSteps := 1000000) (disch := first | assumption | omega | (simp only [ZDI]; omega)) only [*,indexV,G52,Za,Zb,Zc,Zd,Ze,Zf,Zg,Zh,Zi,Zj,Zk,Zl,Zm,Zn,Zo,Ja,Jb,Jc,J6,Jd,Je,J7,J8,Jf,Jg,Jh,Ji,Jj,Jk,J9,Jl,Jm,wr,Jn,JA,JB,Jo,Jp,Jq,Jr,Js,Jt,Ju,Jv,Jw,Jx,Jy,Jz,J0,J1,J2,J3,J4,J5,reduceCtorEq,JC,JD,JE,JF,JG,JH,JI,JJ]) | ((with_reducible (first | apply Ok.br | apply Ok.gd | apply Ok.ld)) <;> (intro g; (try simp only [ZGS] at g); try (exfalso; omega)))))
def mayP (o c q f t : Int) (l : List ByteArray) : Prop :=
  ((o = 0 \/ o = 5) /\ c = 0 /\ q = 0 /\ f = 0 /\ t = 0 /\ (l.length : Int) = 0) \/
  ((1 <= o /\ o <= 4) /\ (0 <= c /\ c <= 3) /\ (1 <= q /\ q <= 1099511627776) /\ (0 <= f /\ f < t /\ t <= 256 /\ t - f <= 16) /\ ((o ≠ 2 /\ (l.length : Int) = 0) \/ (o = 2 /\ (l.length : Int) = t - f /\ (l.any fun s => !textB s) = false)))
instance (o c q f t : Int) (l : List ByteArray) : Decidable (mayP o c q f t l) := by unfold mayP; infer_instance
end Go.Ev
set_option maxRecDepth 100000
namespace Go.Ev
open Go.Ev renaming exPure -> Ja, ofValue -> Jb, cellsV -> Jc, load -> Jd, store -> Je, binOp -> Jf, intOp -> Jg, rdV -> Jh, vsame -> Ji, vsames -> Jj, makeSliceV -> Jk, resV -> Jl, isCell -> Jm, nilCheckV -> Jn, allV -> Jo, builtinV -> Jp, lenV -> Jq, indexAddrV -> Jr, unOp -> Js, minmaxV -> Jt, minmax -> Ju, sliceV -> Jv, asInt -> Jw, appendV -> Jx, forkB -> Jy, roY -> Jz, rwB -> J0, copyV -> J1, clearV -> J2, convV -> J3, sliceCells -> J4, shift -> J5
open Bool renaming true -> BT, false -> BF
open Nat renaming reduceEqDiff -> J6, reduceLT -> J7, reduceAdd -> J8, reduceBEq -> J9, reduceSub -> JA, reduceMul -> JB, reduceLeDiff -> JJ
open Int renaming reduceLT -> JC, reduceLE -> JD, reduceAdd -> JE, reduceSub -> JF, reduceNeg -> JG, reduceToNat -> JH, reduceEq -> JI
open Go.Proofs
theorem new_right {a b : Int} (g1 : 0 <= a) (g2 : a < b) (g3 : b <= 256) (H : Heap) : D X (.fn 17 []) [.agg [.int .i64 a, .int .i64 b]] H =
    some (.tup [.ptr (H.length + 1) 0 0, .int .i64 0],
      H ++ [.cells 0 true (reps (b - a).toNat [.str ⟨#[]⟩, .int .i64 0, .int .i64 0, .int .i64 0, .int .i64 0]), .cells 0 true [.int .i64 a, .int .i64 b, .bool false, .sl (.at H.length 0 0) (b - a).toNat (b - a).toNat 0]]) := by
  refine Ok.eq ?_
  have h1 : ¬ a < 0 := by omega
  have h2 : ¬ b <= a := by omega
  have h3 : ¬ 256 < b := by omega
  (refine Ok.body body17 pin17 ?_; simp only [c17,Try.f17,Option.getD_some,nslot17,List.append_nil,List.map,List.replicate,List.length_cons,List.length_nil,Nat.reduceAdd,Nat.reduceSub,List.cons_append,List.nil_append])
  simp -implicitDefEqProofs (maxSteps := 1000000) (disch := first | assumption | omega | (simp only [ZDI]; omega)) only [*,G17,Za,Zb,Zc,Zd,Ze,Zf,Zg,Zh,Zi,Zj,Zk,Zl,Zm,Zn,Zo,Ja,Jb,Jc,J6,Jd,Je,J7,J8,Jf,Jg,Jh,Ji,Jj,Jk,J9,Jl,Jm,wr,Jn,JA,JB,Jo,Jp,Jq,Jr,Js,Jt,Ju,Jv,Jw,Jx,Jy,Jz,J0,J1,J2,J3,J4,J5,reduceCtorEq,JC,JD,JE,JF,JG,JH,JI,JJ]
theorem span_at {h : Heap} {p : Nat} {a b : Int} {r : List V} {rw : Bool} (hp : hcells h p 0 = some (rw, .int .i64 a :: .int .i64 b :: r)) (hr : r.length = 2) : D X (.fn 20 []) [.ptr p 0 0] h = some (.agg [.int .i64 a, .int .i64 b], h) := by
  refine Ok.eq ?_
  match r, hr with
  | [r0, r1], _ =>
    (refine Ok.body body20 pin20 ?_; simp only [c20,Try.f20,Option.getD_some,nslot20,List.append_nil,List.map,List.replicate,List.length_cons,List.length_nil,Nat.reduceAdd,Nat.reduceSub,List.cons_append,List.nil_append])
    (repeat' (first | (simp -implicitDefEqProofs (maxSteps := 1000000) (disch := first | assumption | omega | (simp only [ZDI]; omega)) only [*,G20,Za,Zb,Zc,Zd,Ze,Zf,Zg,Zh,Zi,Zj,Zk,Zl,Zm,Zn,Zo,Ja,Jb,Jc,J6,Jd,Je,J7,J8,Jf,Jg,Jh,Ji,Jj,Jk,J9,Jl,Jm,wr,Jn,JA,JB,Jo,Jp,Jq,Jr,Js,Jt,Ju,Jv,Jw,Jx,Jy,Jz,J0,J1,J2,J3,J4,J5,reduceCtorEq,JC,JD,JE,JF,JG,JH,JI,JJ]) | ((with_reducible (first | apply Ok.br | apply Ok.gd | apply Ok.ld)) <;> (intro g; (try simp only [ZGS] at g); try (exfalso; omega)))))
theorem hcells_old {h : Heap} {l : List Blk} {b g : Nat} (hb : b < h.length) : hcells (h ++ l) b g = hcells h b g := by
  unfold hcells; rw [List.getElem?_append_left hb]
theorem StrsAt.old {h : Heap} {v : V} {l : List ByteArray} (hv : StrsAt h v l) (x : List Blk) : StrsAt (h ++ x) v l := by
  obtain ⟨a, cap, z, rfl, h1, h2, h3⟩ := hv
  refine ⟨a, cap, z, rfl, h1, h2, h3.imp id ?_⟩
  rintro ⟨b, g, o, rw, full, rfl, hb, hf⟩
  refine ⟨b, g, o, rw, full, rfl, ?_, hf⟩
  rw [hcells_old]
  · exact hb
  · unfold hcells at hb
    cases hx : h[b]? with
    | none => rw [hx] at hb; cases hb
    | some y => exact (List.getElem?_eq_some_iff.1 hx).1
end Go.Ev
set_option maxRecDepth 100000
namespace Go.Ev
open Go.Ev renaming exPure -> Ja, ofValue -> Jb, cellsV -> Jc, load -> Jd, store -> Je, binOp -> Jf, intOp -> Jg, rdV -> Jh, vsame -> Ji, vsames -> Jj, makeSliceV -> Jk, resV -> Jl, isCell -> Jm, nilCheckV -> Jn, allV -> Jo, builtinV -> Jp, lenV -> Jq, indexAddrV -> Jr, unOp -> Js, minmaxV -> Jt, minmax -> Ju, sliceV -> Jv, asInt -> Jw, appendV -> Jx, forkB -> Jy, roY -> Jz, rwB -> J0, copyV -> J1, clearV -> J2, convV -> J3, sliceCells -> J4, shift -> J5
open Bool renaming true -> BT, false -> BF
open Nat renaming reduceEqDiff -> J6, reduceLT -> J7, reduceAdd -> J8, reduceBEq -> J9, reduceSub -> JA, reduceMul -> JB, reduceLeDiff -> JJ
open Int renaming reduceLT -> JC, reduceLE -> JD, reduceAdd -> JE, reduceSub -> JF, reduceNeg -> JG, reduceToNat -> JH, reduceEq -> JI
open Go.Proofs
structure Sto where
  a : Int
  b : Int
  fz : Bool
  txt : Nat -> ByteArray
  mrk : Nat -> Nat -> Int
def Sto.n (s : Sto) : Nat := (s.b - s.a).toNat
def Cells (full : List V) (n : Nat) (txt : Nat -> ByteArray) (mrk : Nat -> Nat -> Int) : Prop :=
  full.length = n * 5 /\ ∀ i, i < n -> full[i * 5]? = some (.str (txt i)) /\ ∀ k, k < 4 -> full[i * 5 + 1 + k]? = some (.int .i64 (mrk i k))
structure Sto.Ok (s : Sto) : Prop where
  h0 : 0 <= s.a
  h1 : s.a < s.b
  h2 : s.b <= 256
structure Sto.Fit (s : Sto) (cap z : Nat) : Prop extends s.Ok where
  hc : s.n <= cap
  hz : z = 0 \/ z = 5
def StoreAt (h : Heap) (p c g : Nat) (s : Sto) : Prop :=
  ∃ cap z full, hcells h p 0 = some (true, [.int .i64 s.a, .int .i64 s.b, .bool s.fz, .sl (.at c g 0) s.n cap z]) /\ hcells h c g = some (true, full) /\ Cells full s.n s.txt s.mrk /\ p ≠ c /\ s.Fit cap z
theorem StoreAt.keeps {F : List Nat} {h h' : Heap} {p c g : Nat} {s : Sto} (k : Keeps F h h') (hs : StoreAt h p c g s) (hp : p ∉ F) (hc : c ∉ F) : StoreAt h' p c g s := by
  obtain ⟨cap, z, full, h1, h2, h3, h4, h5⟩ := hs
  exact ⟨cap, z, full, k.cells h1 hp, k.cells h2 hc, h3, h4, h5⟩
theorem StoreAt.lt {h : Heap} {p c g : Nat} {s : Sto} (hs : StoreAt h p c g s) : p < h.length /\ c < h.length := by
  obtain ⟨cap, z, full, h1, h2, _⟩ := hs
  exact ⟨hcells_lt h1, hcells_lt h2⟩
theorem cell_in {h : Heap} {p c g : Nat} {s : Sto} (hs : StoreAt h p c g s) {k : Int} (h1 : s.a <= k) (h2 : k < s.b) :
    D X (.fn 55 []) [.ptr p 0 0, .int .i64 k] h = some (.tup [.ptr c g ((k - s.a).toNat * 5), .int .i64 0], h) := by
  obtain ⟨cap, z, full, hp, hc, _, _, ho⟩ := hs
  have g0 := ho.h0
  have g1 := ho.h1
  have g2 := ho.h2
  have e1 : ¬ k < s.a := by omega
  have e2 : ¬ s.b <= k := by omega
  have e3 : 0 <= k - s.a /\ k - s.a < s.n := by unfold Sto.n; omega
  refine Ok.eq ?_
  (refine Ok.body body55 pin55 ?_; simp only [c55,Try.f55,Option.getD_some,nslot55,List.append_nil,List.map,List.replicate,List.length_cons,List.length_nil,Nat.reduceAdd,Nat.reduceSub,List.cons_append,List.nil_append])
  (repeat' (first | (simp -implicitDefEqProofs (maxSteps := 1000000) (disch := first | assumption | omega | (simp only [ZDI]; omega)) only [*,G55,Za,Zb,Zc,Zd,Ze,Zf,Zg,Zh,Zi,Zj,Zk,Zl,Zm,Zn,Zo,Ja,Jb,Jc,J6,Jd,Je,J7,J8,Jf,Jg,Jh,Ji,Jj,Jk,J9,Jl,Jm,wr,Jn,JA,JB,Jo,Jp,Jq,Jr,Js,Jt,Ju,Jv,Jw,Jx,Jy,Jz,J0,J1,J2,J3,J4,J5,reduceCtorEq,JC,JD,JE,JF,JG,JH,JI,JJ]) | ((with_reducible (first | apply Ok.br | apply Ok.gd | apply Ok.ld)) <;> (intro g; (try simp only [ZGS] at g); try (exfalso; omega)))))
theorem block_in {h : Heap} {p c g : Nat} {s : Sto} (hs : StoreAt h p c g s) {k : Int} (h1 : s.a <= k) (h2 : k < s.b) :
    D X (.fn 23 []) [.ptr p 0 0, .int .i64 k] h = some (.tup [.str (s.txt (k - s.a).toNat), .int .i64 0], h) := by
  have hcell := cell_in hs h1 h2
  obtain ⟨cap, z, full, hp, hc, hcl, _, ho⟩ := hs
  have e3 : (k - s.a).toNat < s.n := by unfold Sto.n; omega
  have e4 := (hcl.2 _ e3).1
  refine Ok.eq ?_
  (refine Ok.body body23 pin23 ?_; simp only [c23,Try.f23,Option.getD_some,nslot23,List.append_nil,List.map,List.replicate,List.length_cons,List.length_nil,Nat.reduceAdd,Nat.reduceSub,List.cons_append,List.nil_append])
  (repeat' (first | (simp -implicitDefEqProofs (maxSteps := 1000000) (disch := first | assumption | omega | (simp only [ZDI]; omega)) only [*,G23,Za,Zb,Zc,Zd,Ze,Zf,Zg,Zh,Zi,Zj,Zk,Zl,Zm,Zn,Zo,Ja,Jb,Jc,J6,Jd,Je,J7,J8,Jf,Jg,Jh,Ji,Jj,Jk,J9,Jl,Jm,wr,Jn,JA,JB,Jo,Jp,Jq,Jr,Js,Jt,Ju,Jv,Jw,Jx,Jy,Jz,J0,J1,J2,J3,J4,J5,reduceCtorEq,JC,JD,JE,JF,JG,JH,JI,JJ]) | ((with_reducible (first | apply Ok.br | apply Ok.gd | apply Ok.ld)) <;> (intro g; (try simp only [ZGS] at g); try (exfalso; omega)))))
theorem mark_in {h : Heap} {p c g : Nat} {s : Sto} (hs : StoreAt h p c g s) {k : Int} (h1 : s.a <= k) (h2 : k < s.b) {q : Int} (hq : 0 <= q /\ q < 4) :
    D X (.fn 24 []) [.ptr p 0 0, .int .i64 k, .int .i64 q] h = some (.tup [.int .i64 (s.mrk (k - s.a).toNat q.toNat), .int .i64 0], h) := by
  have hcell := cell_in hs h1 h2
  obtain ⟨cap, z, full, hp, hc, hcl, _, ho⟩ := hs
  have e3 : (k - s.a).toNat < s.n := by unfold Sto.n; omega
  have e4 := (hcl.2 _ e3).2 q.toNat (by omega)
  have e5 : ¬ q < 0 := by omega
  have e6 : ¬ 4 <= q := by omega
  have e7 : 0 <= q /\ q < ((4 : Nat) : Int) := by omega
  refine Ok.eq ?_
  (refine Ok.body body24 pin24 ?_; simp only [c24,Try.f24,Option.getD_some,nslot24,List.append_nil,List.map,List.replicate,List.length_cons,List.length_nil,Nat.reduceAdd,Nat.reduceSub,List.cons_append,List.nil_append])
  (repeat' (first | (simp -implicitDefEqProofs (maxSteps := 1000000) (disch := first | assumption | omega | (simp only [ZDI]; omega)) only [*,G24,Za,Zb,Zc,Zd,Ze,Zf,Zg,Zh,Zi,Zj,Zk,Zl,Zm,Zn,Zo,Ja,Jb,Jc,J6,Jd,Je,J7,J8,Jf,Jg,Jh,Ji,Jj,Jk,J9,Jl,Jm,wr,Jn,JA,JB,Jo,Jp,Jq,Jr,Js,Jt,Ju,Jv,Jw,Jx,Jy,Jz,J0,J1,J2,J3,J4,J5,reduceCtorEq,JC,JD,JE,JF,JG,JH,JI,JJ]) | ((with_reducible (first | apply Ok.br | apply Ok.gd | apply Ok.ld)) <;> (intro g; (try simp only [ZGS] at g); try (exfalso; omega)))))
theorem spanOf_at {h : Heap} {p c g : Nat} {s : Sto} (hs : StoreAt h p c g s) : D X (.fn 20 []) [.ptr p 0 0] h = some (.agg [.int .i64 s.a, .int .i64 s.b], h) := by
  obtain ⟨cap, z, full, hp, _⟩ := hs
  exact span_at hp rfl
theorem frozen_at {h : Heap} {p c g : Nat} {s : Sto} (hs : StoreAt h p c g s) : D X (.fn 30 []) [.ptr p 0 0] h = some (.bool s.fz, h) := by
  obtain ⟨cap, z, full, hp, _⟩ := hs
  refine Ok.eq ?_
  (refine Ok.body body30 pin30 ?_; simp only [c30,Try.f30,Option.getD_some,nslot30,List.append_nil,List.map,List.replicate,List.length_cons,List.length_nil,Nat.reduceAdd,Nat.reduceSub,List.cons_append,List.nil_append])
  (repeat' (first | (simp -implicitDefEqProofs (maxSteps := 1000000) (disch := first | assumption | omega | (simp only [ZDI]; omega)) only [*,G30,Za,Zb,Zc,Zd,Ze,Zf,Zg,Zh,Zi,Zj,Zk,Zl,Zm,Zn,Zo,Ja,Jb,Jc,J6,Jd,Je,J7,J8,Jf,Jg,Jh,Ji,Jj,Jk,J9,Jl,Jm,wr,Jn,JA,JB,Jo,Jp,Jq,Jr,Js,Jt,Ju,Jv,Jw,Jx,Jy,Jz,J0,J1,J2,J3,J4,J5,reduceCtorEq,JC,JD,JE,JF,JG,JH,JI,JJ]) | ((with_reducible (first | apply Ok.br | apply Ok.gd | apply Ok.ld)) <;> (intro g; (try simp only [ZGS] at g); try (exfalso; omega)))))
def emptySto (a b : Int) : Sto := ⟨a, b, false, fun _ => ⟨#[]⟩, fun _ _ => 0⟩
theorem repsAt {z : List V} : ∀ (n i j : Nat), i < n -> j < z.length -> (reps n z)[i * z.length + j]? = z[j]?
  | 0, i, j, hi, hj => by omega
  | n + 1, 0, j, hi, hj => by
    unfold reps
    rw [List.replicate_succ, List.flatten_cons, Nat.zero_mul, Nat.zero_add, List.getElem?_append_left hj]
  | n + 1, i + 1, j, hi, hj => by
    have ih := repsAt (z := z) n i j (by omega) hj
    unfold reps at ih ⊢
    rw [List.replicate_succ, List.flatten_cons, List.getElem?_append_right (by rw [Nat.add_mul]; omega), <- ih]
    congr 1
    rw [Nat.add_mul]; omega
theorem repsLen {z : List V} (n : Nat) : (reps n z).length = n * z.length := by
  unfold reps; simp
theorem new_store {a b : Int} (g1 : 0 <= a) (g2 : a < b) (g3 : b <= 256) (H : Heap) :
    Ev.Ok (D X (.fn 17 []) [.agg [.int .i64 a, .int .i64 b]] H) fun r => ∃ h', r = (.tup [.ptr (H.length + 1) 0 0, .int .i64 0], h') /\ Keeps [] H h' /\ h'.length = H.length + 2 /\ StoreAt h' (H.length + 1) H.length 0 (emptySto a b) := by
  refine Ok.of (new_right g1 g2 g3 H) ⟨_, rfl, .app _ _ _, by simp, (b - a).toNat, 0, reps (b - a).toNat [.str ⟨#[]⟩, .int .i64 0, .int .i64 0, .int .i64 0, .int .i64 0], ?_, ?_, ?_, by omega, ⟨⟨g1, g2, g3⟩, Nat.le_refl _, .inl rfl⟩⟩
  · rw [hcells_ge (by omega), Nat.add_sub_cancel_left]
    exact grd_t rfl _
  · rw [hcells_ge (by omega), Nat.sub_self]
    exact grd_t rfl _
  · refine ⟨by rw [repsLen]; rfl, fun i hi => ⟨?_, fun k hk => ?_⟩⟩
    · exact repsAt (z := [.str ⟨#[]⟩, .int .i64 0, .int .i64 0, .int .i64 0, .int .i64 0]) (b - a).toNat i 0 hi (by simp)
    · have := repsAt (z := [.str ⟨#[]⟩, .int .i64 0, .int .i64 0, .int .i64 0, .int .i64 0]) (b - a).toNat i (k + 1) hi (by simp; omega)
      rw [show i * 5 + 1 + k = i * 5 + (k + 1) by omega]
      refine Eq.trans this ?_
      match k, hk with
      | 0, _ => rfl
      | 1, _ => rfl
      | 2, _ => rfl
      | 3, _ => rfl
end Go.Ev
namespace Go.Ev
open Go.Ev renaming exPure -> Ja, ofValue -> Jb, cellsV -> Jc, load -> Jd, store -> Je, binOp -> Jf, intOp -> Jg, rdV -> Jh, vsame -> Ji, vsames -> Jj, makeSliceV -> Jk, resV -> Jl, isCell -> Jm, nilCheckV -> Jn, allV -> Jo, builtinV -> Jp, lenV -> Jq, indexAddrV -> Jr, unOp -> Js, minmaxV -> Jt, minmax -> Ju, sliceV -> Jv, asInt -> Jw, appendV -> Jx, forkB -> Jy, roY -> Jz, rwB -> J0, copyV -> J1, clearV -> J2, convV -> J3, sliceCells -> J4, shift -> J5
open Bool renaming true -> BT, false -> BF
open Nat renaming reduceEqDiff -> J6, reduceLT -> J7, reduceAdd -> J8, reduceBEq -> J9, reduceSub -> JA, reduceMul -> JB, reduceLeDiff -> JJ
open Int renaming reduceLT -> JC, reduceLE -> JD, reduceAdd -> JE, reduceSub -> JF, reduceNeg -> JG, reduceToNat -> JH, reduceEq -> JI
open Go.Proofs
end Go.Ev
set_option maxRecDepth 100000
namespace Go.Ev
open Go.Ev renaming exPure -> Ja, ofValue -> Jb, cellsV -> Jc, load -> Jd, store -> Je, binOp -> Jf, intOp -> Jg, rdV -> Jh, vsame -> Ji, vsames -> Jj, makeSliceV -> Jk, resV -> Jl, isCell -> Jm, nilCheckV -> Jn, allV -> Jo, builtinV -> Jp, lenV -> Jq, indexAddrV -> Jr, unOp -> Js, minmaxV -> Jt, minmax -> Ju, sliceV -> Jv, asInt -> Jw, appendV -> Jx, forkB -> Jy, roY -> Jz, rwB -> J0, copyV -> J1, clearV -> J2, convV -> J3, sliceCells -> J4, shift -> J5
open Bool renaming true -> BT, false -> BF
open Nat renaming reduceEqDiff -> J6, reduceLT -> J7, reduceAdd -> J8, reduceBEq -> J9, reduceSub -> JA, reduceMul -> JB, reduceLeDiff -> JJ
open Int renaming reduceLT -> JC, reduceLE -> JD, reduceAdd -> JE, reduceSub -> JF, reduceNeg -> JG, reduceToNat -> JH, reduceEq -> JI
open Go.Proofs
end Go.Ev
set_option maxRecDepth 100000
namespace Go.Ev
open Go.Ev renaming exPure -> Ja, ofValue -> Jb, cellsV -> Jc, load -> Jd, store -> Je, binOp -> Jf, intOp -> Jg, rdV -> Jh, vsame -> Ji, vsames -> Jj, makeSliceV -> Jk, resV -> Jl, isCell -> Jm, nilCheckV -> Jn, allV -> Jo, builtinV -> Jp, lenV -> Jq, indexAddrV -> Jr, unOp -> Js, minmaxV -> Jt, minmax -> Ju, sliceV -> Jv, asInt -> Jw, appendV -> Jx, forkB -> Jy, roY -> Jz, rwB -> J0, copyV -> J1, clearV -> J2, convV -> J3, sliceCells -> J4, shift -> J5
open Bool renaming true -> BT, false -> BF
open Nat renaming reduceEqDiff -> J6, reduceLT -> J7, reduceAdd -> J8, reduceBEq -> J9, reduceSub -> JA, reduceMul -> JB, reduceLeDiff -> JJ
open Int renaming reduceLT -> JC, reduceLE -> JD, reduceAdd -> JE, reduceSub -> JF, reduceNeg -> JG, reduceToNat -> JH, reduceEq -> JI
open Go.Proofs
structure ApplyRec (r : LoopR) : Prop where
  state : r.state = 0
  pending : r.pending = none
  fn : r.fn = 22
  params : r.params = [68]
  code : (rangesOf c22)[0]? = some (r.assign, r.body)
  lent : r.lent = false
  len : r.e.length = 149
  t2 : tv r.e 2 = .lp 0 1 0
  t3 : tv r.e 3 = .lp 1 1 0
  t6 : tv r.e 6 = .lp 3 1 0
def cmdV (o c q f t : Int) (v : V) : List V := [.int .i64 o, .int .i64 c, .int .i64 q, .int .i64 f, .int .i64 t, v]
def Sto.upd (s : Sto) (j k : Nat) (x : ByteArray) (q : Int) : Sto := { s with txt := fun i => if i = j then x else s.txt i, mrk := fun i k' => if i = j /\ k' = k then q else s.mrk i k' }
theorem Cells.upd {full : List V} {n : Nat} {txt : Nat -> ByteArray} {mrk : Nat -> Nat -> Int} (h : Cells full n txt mrk) {j k : Nat} (hj : j < n) (hk : k < 4) (x : ByteArray) (q : Int) :
    Cells ((full.set (j * 5) (.str x)).set (j * 5 + 1 + k) (.int .i64 q)) n (fun i => if i = j then x else txt i) (fun i k' => if i = j /\ k' = k then q else mrk i k') := by
  obtain ⟨h1, h2⟩ := h
  refine ⟨by simpa using h1, fun i hi => ⟨?_, fun k' hk' => ?_⟩⟩
  · dsimp only
    rw [List.getElem?_set_ne (by omega)]
    by_cases e : i = j
    · subst e
      rw [List.getElem?_set_self (by omega), if_pos rfl]
    · rw [List.getElem?_set_ne (by omega), if_neg e]
      exact (h2 i hi).1
  · dsimp only
    by_cases e : i = j /\ k' = k
    · obtain ⟨rfl, rfl⟩ := e
      rw [List.getElem?_set_self (by rw [List.length_set]; omega), if_pos ⟨rfl, rfl⟩]
    · rw [List.getElem?_set_ne (by omega), List.getElem?_set_ne (by omega), if_neg e]
      exact (h2 i hi).2 k' hk'
end Go.Ev
set_option maxRecDepth 100000
namespace Go.Ev
open Go.Proofs
def Sto.to (s : Sto) (o c q f m : Int) (l : List ByteArray) : Sto :=
  { s with
    txt := fun j => if (o = 2 \/ o = 3) /\ f <= s.a + j /\ s.a + j < m /\ s.mrk j c.toNat < q then (if o = 2 then l.getD (s.a + j - f).toNat ⟨#[]⟩ else ⟨#[]⟩) else s.txt j
    mrk := fun j k => if (o = 2 \/ o = 3) /\ f <= s.a + j /\ s.a + j < m /\ s.mrk j c.toNat < q /\ k = c.toNat then q else s.mrk j k }
theorem Sto.ext' {s s' : Sto} (h1 : s.a = s'.a) (h2 : s.b = s'.b) (h3 : s.fz = s'.fz) (h4 : ∀ j, s.txt j = s'.txt j) (h5 : ∀ j k, s.mrk j k = s'.mrk j k) : s = s' := by
  obtain ⟨a, b, fz, t, m⟩ := s
  obtain ⟨a', b', fz', t', m'⟩ := s'
  simp only at h1 h2 h3 h4 h5
  subst h1 h2 h3
  congr
  · funext j; exact h4 j
  · funext j k; exact h5 j k
def Sto.data (s : Sto) (o f m : Int) : List ByteArray := if o = 1 then (List.range (m - f).toNat).map fun i => s.txt ((f - s.a).toNat + i) else []
def DataAt (H : Heap) (dv : V) (l : List ByteArray) (lo : Nat) : Prop :=
  (l = [] /\ dv = .sl .nil 0 0 0) \/ ∃ db dg, dv = .sl (.at db dg 0) l.length l.length 1 /\ hcells H db dg = some (true, l.map .str) /\ lo <= db
theorem DataAt.keeps {F : List Nat} {H H' : Heap} {dv : V} {l : List ByteArray} {lo : Nat} (h : DataAt H dv l lo) (k : Keeps F H H') (hF : ∀ i ∈ F, i < lo) : DataAt H' dv l lo := by
  rcases h with h | ⟨db, dg, h1, h2, h3⟩
  · exact .inl h
  · exact .inr ⟨db, dg, h1, k.cells h2 (fun hm => by have := hF _ hm; omega), h3⟩
def Away (F : List Nat) (v : V) : Prop := match v with | .sl (.at b _ _) _ _ _ => b ∉ F | _ => True
theorem StrsAt.keeps {F : List Nat} {h h' : Heap} {v : V} {l : List ByteArray} (hs : StrsAt h v l) (k : Keeps F h h') (ha : l ≠ [] -> Away F v) : StrsAt h' v l := by
  obtain ⟨a, cap, z, rfl, h1, h2, h3⟩ := hs
  refine ⟨a, cap, z, rfl, h1, h2, ?_⟩
  by_cases hl : l = []
  · exact .inl hl
  · rcases h3 with h3 | ⟨b, g, o, rw, full, rfl, hb, hf⟩
    · exact absurd h3 hl
    · exact .inr ⟨b, g, o, rw, full, rfl, k.cells hb (ha hl), hf⟩
structure ApplyInv (H : Heap) (p cb g L : Nat) (s : Sto) (r : LoopR) (o c q f t : Int) (v : V) (x2 : Nat × List V) (l : List ByteArray) (i : Int) (H' : Heap) : Prop where
  st : StoreAt H' p cb g (s.to o c q f i l)
  rc : ∃ dv x4, loopAt H' L = some { r with l := [(1, [.ptr p 0 0]), (1, cmdV o c q f t v), x2, (1, [.bool true, dv]), x4] } /\ DataAt H' dv (s.data o f i) H.length
  kp : Keeps [cb, L] H H'
section
variable {H : Heap} {p cb g L : Nat} {s : Sto} {r : LoopR} {o c q f t : Int} {v : V} {x2 : Nat × List V} {l : List ByteArray}
end
end Go.Ev
set_option maxRecDepth 100000
namespace Go.Ev
open Go.Ev renaming exPure -> Ja, ofValue -> Jb, cellsV -> Jc, load -> Jd, store -> Je, binOp -> Jf, intOp -> Jg, rdV -> Jh, vsame -> Ji, vsames -> Jj, makeSliceV -> Jk, resV -> Jl, isCell -> Jm, nilCheckV -> Jn, allV -> Jo, builtinV -> Jp, lenV -> Jq, indexAddrV -> Jr, unOp -> Js, minmaxV -> Jt, minmax -> Ju, sliceV -> Jv, asInt -> Jw, appendV -> Jx, forkB -> Jy, roY -> Jz, rwB -> J0, copyV -> J1, clearV -> J2, convV -> J3, sliceCells -> J4, shift -> J5
open Bool renaming true -> BT, false -> BF
open Nat renaming reduceEqDiff -> J6, reduceLT -> J7, reduceAdd -> J8, reduceBEq -> J9, reduceSub -> JA, reduceMul -> JB, reduceLeDiff -> JJ
open Int renaming reduceLT -> JC, reduceLE -> JD, reduceAdd -> JE, reduceSub -> JF, reduceNeg -> JG, reduceToNat -> JH, reduceEq -> JI
open Go.Proofs
def Sto.apply (s : Sto) (o c q f t : Int) (l : List ByteArray) : Sto × Bool × List ByteArray × Int :=
  if ¬ mayP o c q f t l then (s, false, [], 1)
  else if (1 <= o /\ o <= 4) /\ (f < s.a \/ s.b < t) then (s, false, [], 9)
  else if s.fz = true \/ o = 0 then (s, false, [], 0)
  else if o = 5 then ({ s with fz := true }, true, [], 0)
  else (s.to o c q f t l, true, s.data o f t, 0)
end Go.Ev
set_option maxRecDepth 100000
namespace Go.Ev
open Go.Ev renaming exPure -> Ja, ofValue -> Jb, cellsV -> Jc, load -> Jd, store -> Je, binOp -> Jf, intOp -> Jg, rdV -> Jh, vsame -> Ji, vsames -> Jj, makeSliceV -> Jk, resV -> Jl, isCell -> Jm, nilCheckV -> Jn, allV -> Jo, builtinV -> Jp, lenV -> Jq, indexAddrV -> Jr, unOp -> Js, minmaxV -> Jt, minmax -> Ju, sliceV -> Jv, asInt -> Jw, appendV -> Jx, forkB -> Jy, roY -> Jz, rwB -> J0, copyV -> J1, clearV -> J2, convV -> J3, sliceCells -> J4, shift -> J5
open Bool renaming true -> BT, false -> BF
open Nat renaming reduceEqDiff -> J6, reduceLT -> J7, reduceAdd -> J8, reduceBEq -> J9, reduceSub -> JA, reduceMul -> JB, reduceLeDiff -> JJ
open Int renaming reduceLT -> JC, reduceLE -> JD, reduceAdd -> JE, reduceSub -> JF, reduceNeg -> JG, reduceToNat -> JH, reduceEq -> JI
open Go.Proofs
theorem strEq_refl (s : ByteArray) : strEq s s = true := by unfold strEq; simp
end Go.Ev
set_option maxRecDepth 100000
namespace Go.Ev
open Go.Ev renaming exPure -> Ja, ofValue -> Jb, cellsV -> Jc, load -> Jd, store -> Je, binOp -> Jf, intOp -> Jg, rdV -> Jh, vsame -> Ji, vsames -> Jj, makeSliceV -> Jk, resV -> Jl, isCell -> Jm, nilCheckV -> Jn, allV -> Jo, builtinV -> Jp, lenV -> Jq, indexAddrV -> Jr, unOp -> Js, minmaxV -> Jt, minmax -> Ju, sliceV -> Jv, asInt -> Jw, appendV -> Jx, forkB -> Jy, roY -> Jz, rwB -> J0, copyV -> J1, clearV -> J2, convV -> J3, sliceCells -> J4, shift -> J5
open Bool renaming true -> BT, false -> BF
open Nat renaming reduceEqDiff -> J6, reduceLT -> J7, reduceAdd -> J8, reduceBEq -> J9, reduceSub -> JA, reduceMul -> JB, reduceLeDiff -> JJ
open Int renaming reduceLT -> JC, reduceLE -> JD, reduceAdd -> JE, reduceSub -> JF, reduceNeg -> JG, reduceToNat -> JH, reduceEq -> JI
open Go.Proofs
theorem reps_s (n : Nat) (z : List V) : reps (n + 1) z = z ++ reps n z := by simp [reps, List.replicate_succ]
structure RefAt (H : Heap) (p T M : Nat) (mb : Nat -> Nat) (n : Nat) (s : Sto) : Prop where
  tm : ∃ gT gM ts ms, hcells H p 0 = some (true, [.int .i64 s.a, .int .i64 s.b, .bool s.fz, .sl (.at T gT 0) n n 1, .sl (.at M gM 0) n n 1]) /\
    hcells H T gT = some (true, ts) /\ ts.length = n /\ (∀ i, i < n -> ts[i]? = some (.str (s.txt i))) /\ hcells H M gM = some (true, ms) /\ ms.length = n /\ (∀ i, i < n -> ms[i]? = some (.sl (.at (mb i) 0 0) 4 4 0))
  mks : ∀ i, i < n -> ∃ q, hcells H (mb i) 0 = some (true, q) /\ q.length = 4 /\ ∀ k, k < 4 -> q[k]? = some (.int .i64 (s.mrk i k))
  pT : p ≠ T
  pM : p ≠ M
  TM : T ≠ M
  apart : ∀ i, i < n -> mb i ≠ p /\ mb i ≠ T /\ mb i ≠ M
  inj : ∀ i j, i < n -> j < n -> mb i = mb j -> i = j
def refBlocks (p T M : Nat) (mb : Nat -> Nat) (n : Nat) : List Nat := p :: T :: M :: (List.range n).map mb
theorem mem_refBlocks {p T M : Nat} {mb : Nat -> Nat} {n j : Nat} : j ∈ refBlocks p T M mb n ↔ j = p \/ j = T \/ j = M \/ ∃ i, i < n /\ mb i = j := by
  simp [refBlocks]
theorem RefAt.keeps {F : List Nat} {H H' : Heap} {p T M : Nat} {mb : Nat -> Nat} {n : Nat} {s : Sto} (h : RefAt H p T M mb n s) (k : Keeps F H H') (hF : ∀ j ∈ refBlocks p T M mb n, j ∉ F) : RefAt H' p T M mb n s := by
  obtain ⟨⟨gT, gM, ts, ms, h1, h2, h3, h4, h5, h6, h7⟩, h8, h9, h10, h11, h12, h13⟩ := h
  refine ⟨⟨gT, gM, ts, ms, k.cells h1 (hF _ (mem_refBlocks.2 (.inl rfl))), k.cells h2 (hF _ (mem_refBlocks.2 (.inr (.inl rfl)))), h3, h4, k.cells h5 (hF _ (mem_refBlocks.2 (.inr (.inr (.inl rfl))))), h6, h7⟩, fun i hi => ?_, h9, h10, h11, h12, h13⟩
  obtain ⟨q, h1, h2, h3⟩ := h8 i hi
  exact ⟨q, k.cells h1 (hF _ (mem_refBlocks.2 (.inr (.inr (.inr ⟨i, hi, rfl⟩))))), h2, h3⟩
def mbOf (p i : Nat) : Nat := if i = 0 then p + 2 else p + 3 + i
theorem refGrow {H : Heap} {p T M : Nat} {mb : Nat -> Nat} {i : Nat} {s : Sto} (hr : RefAt H p T M mb i s) {gT gM : Nat} {ts ms : List V} {x : ByteArray} {c1 : Blk}
    (g1 : hcells H p 0 = some (true, [.int .i64 s.a, .int .i64 s.b, .bool s.fz, .sl (.at T gT 0) i i 1, .sl (.at M gM 0) i i 1])) (g2 : hcells H T gT = some (true, ts)) (g5 : hcells H M gM = some (true, ms)) (hmb : mb i = H.length) (hx : s.txt i = x) (hz : ∀ k, s.mrk i k = 0) :
    RefAt ((((H.set T (.cells (gT + 1) true (ts ++ [.str x]))).set p c1).set M (.cells (gM + 1) true (ms ++ [.sl (.at H.length 0 0) 4 4 0]))).set p
      (.cells 0 true [.int .i64 s.a, .int .i64 s.b, .bool s.fz, .sl (.at T (gT + 1) 0) (i + 1) (i + 1) 1, .sl (.at M (gM + 1) 0) (i + 1) (i + 1) 1]) ++ [.cells 0 true [.int .i64 0, .int .i64 0, .int .i64 0, .int .i64 0]]) p T M mb (i + 1) s := by
  obtain ⟨⟨gT', gM', ts', ms', f1, f2, f3, f4, f5, f6, f7⟩, f8, f9, f10, f11, f12, f13⟩ := hr
  rw [g1] at f1
  simp only [Option.some.injEq,Prod.mk.injEq,List.cons.injEq,V.sl.injEq,SA.at.injEq,true_and,and_true] at f1
  obtain ⟨rfl, rfl⟩ := f1
  rw [g2] at f2
  rw [g5] at f5
  simp only [Option.some.injEq,Prod.mk.injEq,true_and] at f2 f5
  subst f2 f5
  have hp := hcells_lt g1
  have hT := hcells_lt g2
  have hM := hcells_lt g5
  refine ⟨⟨gT + 1, gM + 1, ts ++ [.str x], ms ++ [.sl (.at H.length 0 0) 4 4 0], ?_, ?_, by simp [f3], fun j hj => ?_, ?_, by simp [f6], fun j hj => ?_⟩, fun j hj => ?_, f9, f10, f11, fun j hj => ?_, fun j k hj hk he => ?_⟩
  · rw [hcells_app (by simpa using hp), hcells_set_eq (by simpa using hp)]
  · rw [hcells_app (by simpa using hT), hcells_set_ne (Ne.symm f9), hcells_set_ne f11, hcells_set_ne (Ne.symm f9), hcells_set_eq hT]
  · by_cases e : j < i
    · rw [List.getElem?_append_left (by omega)]; exact f4 j e
    · obtain rfl : j = i := by omega
      rw [List.getElem?_append_right (by omega), f3, Nat.sub_self, hx]; rfl
  · rw [hcells_app (by simpa using hM), hcells_set_ne (Ne.symm f10), hcells_set_eq (by simpa using hM)]
  · by_cases e : j < i
    · rw [List.getElem?_append_left (by omega)]; exact f7 j e
    · obtain rfl : j = i := by omega
      rw [List.getElem?_append_right (by omega), f6, Nat.sub_self, hmb]; rfl
  · by_cases e : j < i
    · obtain ⟨q, q1, q2, q3⟩ := f8 j e
      obtain ⟨a1, a2, a3⟩ := f12 j e
      refine ⟨q, ?_, q2, q3⟩
      rw [hcells_app (by simpa using hcells_lt q1), hcells_set_ne a1, hcells_set_ne a3, hcells_set_ne a1, hcells_set_ne a2]; exact q1
    · obtain rfl : j = i := by omega
      refine ⟨[.int .i64 0, .int .i64 0, .int .i64 0, .int .i64 0], ?_, rfl, fun k hk => ?_⟩
      · rw [hmb, hcells_ge (by simp)]
        simp only [List.length_set,Nat.sub_self]
        exact grd_t rfl _
      · rw [hz k]
        match k, hk with
        | 0, _ => rfl
        | 1, _ => rfl
        | 2, _ => rfl
        | 3, _ => rfl
  · by_cases e : j < i
    · exact f12 j e
    · obtain rfl : j = i := by omega
      rw [hmb]; omega
  · by_cases e : j < i
    · by_cases e' : k < i
      · exact f13 j k e e' he
      · obtain rfl : k = i := by omega
        obtain ⟨q, q1, _⟩ := f8 j e
        have := hcells_lt q1
        rw [hmb] at he; omega
    · obtain rfl : j = i := by omega
      by_cases e' : k < j
      · obtain ⟨q, q1, _⟩ := f8 k e'
        have := hcells_lt q1
        rw [hmb] at he; omega
      · omega
theorem refNew_at {a b : Int} (h0 : 0 <= a) (hab : a < b) (hb : b <= 256) (h : Heap) :
    Ev.Ok (D X (.fn 57 []) [.agg [.int .i64 a, .int .i64 b]] h) fun y => ∃ h', y = (.ptr h.length 0 0, h') /\ Keeps [] h h' /\ RefAt h' h.length (h.length + 1) (h.length + 3) (mbOf h.length) (b - a).toNat (emptySto a b) := by
  refine Ok.aim fun Q hQ => ?_
  have hQ' := Hid.mk hQ
  clear hQ
  (refine Ok.body body57 pin57 ?_; simp only [c57,Try.f57,Option.getD_some,nslot57,List.append_nil,List.map,List.replicate,List.length_cons,List.length_nil,Nat.reduceAdd,Nat.reduceSub,List.cons_append,List.nil_append])
  (repeat' (first | (simp -implicitDefEqProofs (maxSteps := 1000000) (disch := first | assumption | omega | (simp only [ZDI]; omega)) only [*,reps_s,G57,Za,Zb,Zc,Zd,Ze,Zf,Zg,Zh,Zi,Zj,Zk,Zl,Zm,Zn,Zo,Ja,Jb,Jc,J6,Jd,Je,J7,J8,Jf,Jg,Jh,Ji,Jj,Jk,J9,Jl,Jm,wr,Jn,JA,JB,Jo,Jp,Jq,Jr,Js,Jt,Ju,Jv,Jw,Jx,Jy,Jz,J0,J1,J2,J3,J4,J5,reduceCtorEq,JC,JD,JE,JF,JG,JH,JI,JJ]) | ((with_reducible (first | apply Ok.br | apply Ok.gd | apply Ok.ld)) <;> (intro g; (try simp only [ZGS] at g); try (exfalso; omega)))))
  (refine Ok.unroll ?_; (repeat' (first | (simp -implicitDefEqProofs (maxSteps := 1000000) (disch := first | assumption | omega | (simp only [ZDI]; omega)) only [*,reps_s,G57,Za,Zb,Zc,Zd,Ze,Zf,Zg,Zh,Zi,Zj,Zk,Zl,Zm,Zn,Zo,Ja,Jb,Jc,J6,Jd,Je,J7,J8,Jf,Jg,Jh,Ji,Jj,Jk,J9,Jl,Jm,wr,Jn,JA,JB,Jo,Jp,Jq,Jr,Js,Jt,Ju,Jv,Jw,Jx,Jy,Jz,J0,J1,J2,J3,J4,J5,reduceCtorEq,JC,JD,JE,JF,JG,JH,JI,JJ]) | ((with_reducible (first | apply Ok.br | apply Ok.gd | apply Ok.ld)) <;> (intro g; (try simp only [ZGS] at g); try (exfalso; omega))))))
  refine Ok.loop [BF, BF, BF, BF, BT, BF, BF, BF, BF, BF, BT, BT, BT, BT, BT, BT, BT, BT, BT, BT, BT, BT, BT, BT, BT, BT, BT, BT, BT, BT, BT, BT, BT, BT, BT, BF] (fun n s => ∃ i : Nat, n = (b - a).toNat - i /\ 1 <= i /\ i <= (b - a).toNat /\ tv s.e 4 = .v (.int .i64 (a + i)) /\ (∃ x1 x2, s.l = [(1, [.int .i64 a, .int .i64 b]), x1, x2]) /\ Keeps [] h s.h /\ s.h.length = h.length + 3 + i /\ RefAt s.h h.length (h.length + 1) (h.length + 3) (mbOf h.length) i (emptySto a b))
    (fun x s => x = .exit 0 /\ (∃ x1 x2, s.l = [(1, [.int .i64 a, .int .i64 b]), x1, x2]) /\ Keeps [] h s.h /\ RefAt s.h h.length (h.length + 1) (h.length + 3) (mbOf h.length) (b - a).toNat (emptySto a b)) ((b - a).toNat - 1) ⟨1, rfl, by omega, by omega, rfl, ⟨_, _, rfl⟩, .app _ _ _, by simp, ?_⟩ ?_ ?_
  · refine ⟨⟨0, 0, [.str ⟨#[]⟩], [.sl (.at (h.length + 2) 0 0) 4 4 0], ?_, ?_, rfl, ?_, ?_, rfl, ?_⟩, ?_, by omega, by omega, by omega, ?_, ?_⟩
    · dsimp only; rw [hcells_ge (by omega)]; simp only [Nat.sub_self,Nat.add_sub_cancel_left]; exact grd_t rfl _
    · dsimp only; rw [hcells_ge (by omega)]; simp only [Nat.sub_self,Nat.add_sub_cancel_left]; exact grd_t rfl _
    · intro i hi; obtain rfl : i = 0 := by omega
      rfl
    · dsimp only; rw [hcells_ge (by omega)]; simp only [Nat.sub_self,Nat.add_sub_cancel_left]; exact grd_t rfl _
    · intro i hi; obtain rfl : i = 0 := by omega
      rfl
    · intro i hi; obtain rfl : i = 0 := by omega
      refine ⟨[.int .i64 0, .int .i64 0, .int .i64 0, .int .i64 0], ?_, rfl, fun k hk => ?_⟩
      · rw [show mbOf h.length 0 = h.length + 2 from rfl]
        dsimp only; rw [hcells_ge (by omega)]; simp only [Nat.sub_self,Nat.add_sub_cancel_left]; exact grd_t rfl _
      · match k, hk with
        | 0, _ => rfl
        | 1, _ => rfl
        | 2, _ => rfl
        | 3, _ => rfl
    · intro i hi; obtain rfl : i = 0 := by omega
      rw [show mbOf h.length 0 = h.length + 2 from rfl]
      omega
    · intro i j hi hj _; omega
  · intro n ⟨e', l', H⟩ hW ⟨i, hn, hi1, hi, h4, ⟨x1, x2, h2⟩, hk, hlen, hr⟩
    dsimp only at hW h4 h2 hk hlen hr
    subst l'
    rw [hW.spread]
    simp only [spread_t,spread_f,spread_n,Nat.zero_add,Nat.reduceAdd,h4]
    by_cases hlt : i < (b - a).toNat
    · have hlt' : a + (i : Int) < b := by omega
      obtain ⟨⟨gT, gM, ts, ms, g1, g2, g3, g4, g5, g6, g7⟩, g8, g9, g10, g11, g12, g13⟩ := id hr
      have hr' := Hid.mk hr
      have hk' := Hid.mk hk
      have hlen' := Hid.mk hlen
      have t1 : h.length < H.length := by omega
      have t2 : h.length + 1 < H.length := by omega
      have t3 : h.length + 3 < H.length := by omega
      have e5 : ¬ i + 1 <= i := by omega
      have e6 : ts.take i = ts := List.take_of_length_le (by omega)
      have e7 : ms.take i = ms := List.take_of_length_le (by omega)
      obtain ⟨k1, y1⟩ := x1
      obtain ⟨k2, y2⟩ := x2
      clear hr hk hlen g4 g7 g8 g12 g13 hlt
      (repeat' (first | (simp -implicitDefEqProofs (maxSteps := 1000000) (disch := first | assumption | omega | (simp only [ZDI]; omega)) only [*,reps_s,G57,Za,Zb,Zc,Zd,Ze,Zf,Zg,Zh,Zi,Zj,Zk,Zl,Zm,Zn,Zo,Ja,Jb,Jc,J6,Jd,Je,J7,J8,Jf,Jg,Jh,Ji,Jj,Jk,J9,Jl,Jm,wr,Jn,JA,JB,Jo,Jp,Jq,Jr,Js,Jt,Ju,Jv,Jw,Jx,Jy,Jz,J0,J1,J2,J3,J4,J5,reduceCtorEq,JC,JD,JE,JF,JG,JH,JI,JJ]) | ((with_reducible (first | apply Ok.br | apply Ok.gd | apply Ok.ld)) <;> (intro g; (try simp only [ZGS] at g); try (exfalso; omega)))))
      have hmb : mbOf h.length i = H.length := by rw [hlen'.out]; unfold mbOf; rw [if_neg (by omega)]
      refine Turn.next ((b - a).toNat - (i + 1)) (by omega) ⟨rfl, i + 1, rfl, by omega, by omega, by show TV.v (.int .i64 (a + i + 1)) = .v (.int .i64 (a + ((i + 1 : Nat) : Int))); congr 2; omega, ⟨_, _, rfl⟩, ?_, ?_, ?_⟩
      · exact hk'.out.wide (G := [h.length, h.length + 1, h.length + 3]) (((((Keeps.set (.refl _ _) (.inl (by simp)) _).set (.inl (by simp)) _).set (.inl (by simp)) _).set (.inl (by simp)) _).snoc _) (fun j hj hlt => by simp at hj; omega)
      · simp only [List.length_append,List.length_set,List.length_cons,List.length_nil]; rw [hlen'.out]; omega
      · exact refGrow hr'.out g1 g2 g5 hmb rfl (fun _ => rfl)
    · have hlt' : ¬ a + (i : Int) < b := by omega
      obtain rfl : i = (b - a).toNat := by omega
      have hr' := Hid.mk hr
      have hk' := Hid.mk hk
      clear hr hk hlen
      (repeat' (first | (simp -implicitDefEqProofs (maxSteps := 1000000) (disch := first | assumption | omega | (simp only [ZDI]; omega)) only [*,reps_s,G57,Za,Zb,Zc,Zd,Ze,Zf,Zg,Zh,Zi,Zj,Zk,Zl,Zm,Zn,Zo,Ja,Jb,Jc,J6,Jd,Je,J7,J8,Jf,Jg,Jh,Ji,Jj,Jk,J9,Jl,Jm,wr,Jn,JA,JB,Jo,Jp,Jq,Jr,Js,Jt,Ju,Jv,Jw,Jx,Jy,Jz,J0,J1,J2,J3,J4,J5,reduceCtorEq,JC,JD,JE,JF,JG,JH,JI,JJ]) | ((with_reducible (first | apply Ok.br | apply Ok.gd | apply Ok.ld)) <;> (intro g; (try simp only [ZGS] at g); try (exfalso; omega)))))
      exact Turn.exit ⟨rfl, rfl, ⟨_, _, rfl⟩, hk'.out, hr'.out⟩
  · intro x ⟨e', l', H⟩ hW ⟨hx, ⟨x1, x2, h2⟩, hk, hr⟩
    dsimp only at hW h2 hk hr
    subst l' hx
    rw [hW.spread]
    clear hW
    simp only [spread_t,spread_f,spread_n,Nat.zero_add,Nat.reduceAdd]
    have hr' := Hid.mk hr
    have hk' := Hid.mk hk
    clear hr hk
    (repeat' (first | (simp -implicitDefEqProofs (maxSteps := 1000000) (disch := first | assumption | omega | (simp only [ZDI]; omega)) only [*,reps_s,G57,Za,Zb,Zc,Zd,Ze,Zf,Zg,Zh,Zi,Zj,Zk,Zl,Zm,Zn,Zo,Ja,Jb,Jc,J6,Jd,Je,J7,J8,Jf,Jg,Jh,Ji,Jj,Jk,J9,Jl,Jm,wr,Jn,JA,JB,Jo,Jp,Jq,Jr,Js,Jt,Ju,Jv,Jw,Jx,Jy,Jz,J0,J1,J2,J3,J4,J5,reduceCtorEq,JC,JD,JE,JF,JG,JH,JI,JJ]) | ((with_reducible (first | apply Ok.br | apply Ok.gd | apply Ok.ld)) <;> (intro g; (try simp only [ZGS] at g); try (exfalso; omega)))))
    exact hQ'.out _ ⟨_, rfl, hk'.out, hr'.out⟩
end Go.Ev
set_option maxRecDepth 100000
namespace Go.Ev
open Go.Ev renaming exPure -> Ja, ofValue -> Jb, cellsV -> Jc, load -> Jd, store -> Je, binOp -> Jf, intOp -> Jg, rdV -> Jh, vsame -> Ji, vsames -> Jj, makeSliceV -> Jk, resV -> Jl, isCell -> Jm, nilCheckV -> Jn, allV -> Jo, builtinV -> Jp, lenV -> Jq, indexAddrV -> Jr, unOp -> Js, minmaxV -> Jt, minmax -> Ju, sliceV -> Jv, asInt -> Jw, appendV -> Jx, forkB -> Jy, roY -> Jz, rwB -> J0, copyV -> J1, clearV -> J2, convV -> J3, sliceCells -> J4, shift -> J5
open Bool renaming true -> BT, false -> BF
open Nat renaming reduceEqDiff -> J6, reduceLT -> J7, reduceAdd -> J8, reduceBEq -> J9, reduceSub -> JA, reduceMul -> JB, reduceLeDiff -> JJ
open Int renaming reduceLT -> JC, reduceLE -> JD, reduceAdd -> JE, reduceSub -> JF, reduceNeg -> JG, reduceToNat -> JH, reduceEq -> JI
open Go.Proofs
theorem RefAt.lt {H : Heap} {p T M : Nat} {mb : Nat -> Nat} {n : Nat} {s : Sto} (hr : RefAt H p T M mb n s) : ∀ j ∈ refBlocks p T M mb n, j < H.length := by
  obtain ⟨⟨gT, gM, ts, ms, f1, f2, f3, f4, f5, f6, f7⟩, f8, _⟩ := hr
  intro j hj
  rcases mem_refBlocks.1 hj with rfl | rfl | rfl | ⟨i, hi, rfl⟩
  · exact hcells_lt f1
  · exact hcells_lt f2
  · exact hcells_lt f5
  · obtain ⟨q, q1, _⟩ := f8 i hi
    exact hcells_lt q1
end Go.Ev
set_option maxRecDepth 100000
namespace Go.Ev
open Go.Ev renaming exPure -> Ja, ofValue -> Jb, cellsV -> Jc, load -> Jd, store -> Je, binOp -> Jf, intOp -> Jg, rdV -> Jh, vsame -> Ji, vsames -> Jj, makeSliceV -> Jk, resV -> Jl, isCell -> Jm, nilCheckV -> Jn, allV -> Jo, builtinV -> Jp, lenV -> Jq, indexAddrV -> Jr, unOp -> Js, minmaxV -> Jt, minmax -> Ju, sliceV -> Jv, asInt -> Jw, appendV -> Jx, forkB -> Jy, roY -> Jz, rwB -> J0, copyV -> J1, clearV -> J2, convV -> J3, sliceCells -> J4, shift -> J5
open Bool renaming true -> BT, false -> BF
open Nat renaming reduceEqDiff -> J6, reduceLT -> J7, reduceAdd -> J8, reduceBEq -> J9, reduceSub -> JA, reduceMul -> JB, reduceLeDiff -> JJ
open Int renaming reduceLT -> JC, reduceLE -> JD, reduceAdd -> JE, reduceSub -> JF, reduceNeg -> JG, reduceToNat -> JH, reduceEq -> JI
open Go.Proofs
end Go.Ev
set_option maxRecDepth 100000
namespace Go.Ev
open Go.Ev renaming exPure -> Ja, ofValue -> Jb, cellsV -> Jc, load -> Jd, store -> Je, binOp -> Jf, intOp -> Jg, rdV -> Jh, vsame -> Ji, vsames -> Jj, makeSliceV -> Jk, resV -> Jl, isCell -> Jm, nilCheckV -> Jn, allV -> Jo, builtinV -> Jp, lenV -> Jq, indexAddrV -> Jr, unOp -> Js, minmaxV -> Jt, minmax -> Ju, sliceV -> Jv, asInt -> Jw, appendV -> Jx, forkB -> Jy, roY -> Jz, rwB -> J0, copyV -> J1, clearV -> J2, convV -> J3, sliceCells -> J4, shift -> J5
open Bool renaming true -> BT, false -> BF
open Nat renaming reduceEqDiff -> J6, reduceLT -> J7, reduceAdd -> J8, reduceBEq -> J9, reduceSub -> JA, reduceMul -> JB, reduceLeDiff -> JJ
open Int renaming reduceLT -> JC, reduceLE -> JD, reduceAdd -> JE, reduceSub -> JF, reduceNeg -> JG, reduceToNat -> JH, reduceEq -> JI
open Go.Proofs
structure Cm where
  o : Int
  c : Int
  q : Int
  f : Int
  t : Int
  v : V
  l : List ByteArray
structure Both (h0 H : Heap) (ps cb pr T M : Nat) (mb : Nat -> Nat) (n : Nat) (s : Sto) : Prop where
  st : StoreAt H ps cb 0 s
  rf : RefAt H pr T M mb n s
  kp : Keeps [] h0 H
  hn : s.n = n
  apart : ps ∉ refBlocks pr T M mb n /\ cb ∉ refBlocks pr T M mb n
  new : h0.length <= ps /\ h0.length <= cb /\ ∀ j ∈ refBlocks pr T M mb n, h0.length <= j
theorem mbOf_ge (p i : Nat) : p <= mbOf p i := by unfold mbOf; split <;> omega
end Go.Ev
set_option maxRecDepth 100000
namespace Go.Ev
open Go.Ev renaming exPure -> Ja, ofValue -> Jb, cellsV -> Jc, load -> Jd, store -> Je, binOp -> Jf, intOp -> Jg, rdV -> Jh, vsame -> Ji, vsames -> Jj, makeSliceV -> Jk, resV -> Jl, isCell -> Jm, nilCheckV -> Jn, allV -> Jo, builtinV -> Jp, lenV -> Jq, indexAddrV -> Jr, unOp -> Js, minmaxV -> Jt, minmax -> Ju, sliceV -> Jv, asInt -> Jw, appendV -> Jx, forkB -> Jy, roY -> Jz, rwB -> J0, copyV -> J1, clearV -> J2, convV -> J3, sliceCells -> J4, shift -> J5
open Bool renaming true -> BT, false -> BF
open Nat renaming reduceEqDiff -> J6, reduceLT -> J7, reduceAdd -> J8, reduceBEq -> J9, reduceSub -> JA, reduceMul -> JB, reduceLeDiff -> JJ
open Int renaming reduceLT -> JC, reduceLE -> JD, reduceAdd -> JE, reduceSub -> JF, reduceNeg -> JG, reduceToNat -> JH, reduceEq -> JI
open Go.Proofs
theorem alike_at {H : Heap} {ps cb g pr T M : Nat} {mb : Nat -> Nat} {s : Sto} (hs : StoreAt H ps cb g s) (hr : RefAt H pr T M mb s.n s) : D X (.fn 28 []) [.ptr ps 0 0, .ptr pr 0 0] H = some (.bool true, H) := by
  refine Ok.eq ?_
  refine Ok.aim fun Q hQ => ?_
  have hQ' := Hid.mk hQ
  clear hQ
  have hspan := spanOf_at hs
  have hfroz := frozen_at hs
  have hok : s.Ok := by obtain ⟨_, _, _, _, _, _, _, h⟩ := hs; exact h.toOk
  have hs' := Hid.mk hs
  obtain ⟨⟨gT, gM, ts, ms, g1, g2, g3, g4, g5, g6, g7⟩, g8, g9, g10, g11, g12, g13⟩ := hr
  have g4' := Hid.mk g4
  have g7' := Hid.mk g7
  have g8' := Hid.mk g8
  have hn : s.n <= 256 := by unfold Sto.n; have := hok.h0; have := hok.h2; omega
  have hnn : (s.n : Int) = s.b - s.a := by unfold Sto.n; have := hok.h1; omega
  have hnn' := Hid.mk hnn
  clear g4 g7 g8 g12 g13 hs hnn
  (refine Ok.body body28 pin28 ?_; simp only [c28,Try.f28,Option.getD_some,nslot28,List.append_nil,List.map,List.replicate,List.length_cons,List.length_nil,Nat.reduceAdd,Nat.reduceSub,List.cons_append,List.nil_append])
  (repeat' (first | (simp -implicitDefEqProofs (maxSteps := 1000000) (disch := first | assumption | omega | (simp only [ZDI]; omega)) only [*,lenV,eq_self,G28,Za,Zb,Zc,Zd,Ze,Zf,Zg,Zh,Zi,Zj,Zk,Zl,Zm,Zn,Zo,Ja,Jb,Jc,J6,Jd,Je,J7,J8,Jf,Jg,Jh,Ji,Jj,Jk,J9,Jl,Jm,wr,Jn,JA,JB,Jo,Jp,Jq,Jr,Js,Jt,Ju,Jv,Jw,Jx,Jy,Jz,J0,J1,J2,J3,J4,J5,reduceCtorEq,JC,JD,JE,JF,JG,JH,JI,JJ]) | ((with_reducible (first | apply Ok.br | apply Ok.gd | apply Ok.ld)) <;> (intro g; (try simp only [ZGS] at g); try (exfalso; omega)))))
  refine Ok.loop [BF, BF, BF, BF, BT, BT, BT, BT, BT, BT, BT, BT, BF, BF, BF, BF, BF, BF, BF, BF, BF, BF, BF, BF, BF, BF, BF, BF, BF, BF, BF, BF, BF, BF, BF, BF, BF, BT, BT, BT, BT, BT, BT, BT, BT, BT, BT, BT, BT, BT, BT, BT, BT, BT, BT, BT, BT, BT, BT, BT, BT, BT, BT, BT, BT, BT, BT, BT, BT, BT, BT, BT, BT, BT, BT, BT, BT, BT, BT, BT, BT, BT, BT, BT, BT, BT, BT, BT, BT, BT, BT, BT, BT, BT] (fun n s2 => ∃ i : Nat, n = s.n - i /\ i <= s.n /\ tv s2.e 37 = .v (.int .i64 i) /\ s2.l = [] /\ s2.h = H) (fun x s2 => x = .exit 0 /\ s2.l = [] /\ s2.h = H) (s.n - 0) ⟨0, rfl, by omega, rfl, rfl, rfl⟩ ?_ ?_
  · intro n ⟨e', l', H'⟩ hW ⟨i, hn1, hi, h8, h2, h3⟩
    dsimp only at hW h8 h2 h3
    subst l' H'
    rw [hW.spread]
    simp only [spread_t,spread_f,spread_n,Nat.zero_add,Nat.reduceAdd,h8]
    by_cases hlt : i < s.n
    · have hlt' : (i : Int) < (s.n : Int) := by omega
      have hin1 : s.a <= s.a + (i : Int) := by omega
      have hin2 : s.a + (i : Int) < s.b := by have := hnn'.out; omega
      have hk : (s.a + (i : Int) - s.a).toNat = i := by omega
      have hblk := block_in hs'.out hin1 hin2
      rw [hk] at hblk
      have t1 := g4'.out i hlt
      have t2 := g7'.out i hlt
      obtain ⟨q, q1, q2, q3⟩ := g8'.out i hlt
      have q3' := Hid.mk q3
      have hb0 := hok.h0
      have hb2 := hok.h2
      clear q3
      (repeat' (first | (simp -implicitDefEqProofs (maxSteps := 1000000) (disch := first | assumption | omega | (simp only [ZDI]; omega)) only [*,lenV,eq_self,strEq_refl,Int.ofNat_lt,Int.natCast_nonneg,G28,Za,Zb,Zc,Zd,Ze,Zf,Zg,Zh,Zi,Zj,Zk,Zl,Zm,Zn,Zo,Ja,Jb,Jc,J6,Jd,Je,J7,J8,Jf,Jg,Jh,Ji,Jj,Jk,J9,Jl,Jm,wr,Jn,JA,JB,Jo,Jp,Jq,Jr,Js,Jt,Ju,Jv,Jw,Jx,Jy,Jz,J0,J1,J2,J3,J4,J5,reduceCtorEq,JC,JD,JE,JF,JG,JH,JI,JJ]) | ((with_reducible (first | apply Ok.br | apply Ok.gd | apply Ok.ld)) <;> (intro g; (try simp only [ZGS] at g); try (exfalso; omega)))))
      refine Ok.loop [BF, BF, BF, BF, BT, BF, BF, BF, BF, BT, BT, BT, BF, BF, BF, BF, BF, BF, BF, BF, BF, BF, BF, BF, BF, BF, BF, BF, BF, BF, BF, BF, BF, BF, BF, BF, BF, BF, BF, BF, BF, BF, BF, BF, BF, BF, BF, BF, BF, BF, BF, BF, BF, BF, BF, BF, BF, BF, BF, BF, BF, BF, BF, BF, BF, BF, BT, BT, BT, BT, BT, BT, BT, BT, BT, BT, BT, BT, BT, BT, BT, BT, BT, BT, BT, BT, BT, BT, BT, BT, BT, BT, BT, BF] (fun n s2 => ∃ k : Nat, n = 4 - k /\ k <= 4 /\ tv s2.e 66 = .v (.int .i64 k) /\ s2.l = [] /\ s2.h = H) (fun x s2 => x = .exit 2 /\ s2.l = [] /\ s2.h = H) (4 - 0) ⟨0, rfl, by omega, rfl, rfl, rfl⟩ ?_ ?_
      · intro n ⟨e2', l', H'⟩ hW2 ⟨k, hk1, hk4, h66, h2, h3⟩
        dsimp only at hW2 h66 h2 h3
        subst l' H'
        rw [hW2.spread]
        simp only [spread_t,spread_f,spread_n,Nat.zero_add,Nat.reduceAdd,h66]
        by_cases hlk : k < 4
        · have hlk' : (k : Int) < 4 := by omega
          have hmk := mark_in hs'.out hin1 hin2 (q := k) (by omega)
          rw [hk, Int.toNat_natCast] at hmk
          have t3 := q3'.out k hlk
          have hi4 : 0 <= (k : Int) /\ (k : Int) < ((4 : Nat) : Int) := by omega
          (repeat' (first | (simp -implicitDefEqProofs (maxSteps := 1000000) (disch := first | assumption | omega | (simp only [ZDI]; omega)) only [*,lenV,eq_self,Int.ofNat_lt,Int.natCast_nonneg,G28,Za,Zb,Zc,Zd,Ze,Zf,Zg,Zh,Zi,Zj,Zk,Zl,Zm,Zn,Zo,Ja,Jb,Jc,J6,Jd,Je,J7,J8,Jf,Jg,Jh,Ji,Jj,Jk,J9,Jl,Jm,wr,Jn,JA,JB,Jo,Jp,Jq,Jr,Js,Jt,Ju,Jv,Jw,Jx,Jy,Jz,J0,J1,J2,J3,J4,J5,reduceCtorEq,JC,JD,JE,JF,JG,JH,JI,JJ]) | ((with_reducible (first | apply Ok.br | apply Ok.gd | apply Ok.ld)) <;> (intro g; (try simp only [ZGS] at g); try (exfalso; omega)))))
          exact Turn.next (4 - (k + 1)) (by omega) ⟨rfl, k + 1, rfl, by omega, rfl, rfl, rfl⟩
        · have hlk' : ¬ (k : Int) < 4 := by omega
          (repeat' (first | (simp -implicitDefEqProofs (maxSteps := 1000000) (disch := first | assumption | omega | (simp only [ZDI]; omega)) only [*,G28,Za,Zb,Zc,Zd,Ze,Zf,Zg,Zh,Zi,Zj,Zk,Zl,Zm,Zn,Zo,Ja,Jb,Jc,J6,Jd,Je,J7,J8,Jf,Jg,Jh,Ji,Jj,Jk,J9,Jl,Jm,wr,Jn,JA,JB,Jo,Jp,Jq,Jr,Js,Jt,Ju,Jv,Jw,Jx,Jy,Jz,J0,J1,J2,J3,J4,J5,reduceCtorEq,JC,JD,JE,JF,JG,JH,JI,JJ]) | ((with_reducible (first | apply Ok.br | apply Ok.gd | apply Ok.ld)) <;> (intro g; (try simp only [ZGS] at g); try (exfalso; omega)))))
          exact Turn.exit ⟨rfl, rfl, rfl, rfl⟩
      · intro x ⟨e2', l', H'⟩ hW2 ⟨hx, h2, h3⟩
        dsimp only at hW2 h2 h3
        subst l' hx H'
        rw [hW2.spread]
        clear hW2
        simp only [spread_t,spread_f,spread_n,Nat.zero_add,Nat.reduceAdd]
        (repeat' (first | (simp -implicitDefEqProofs (maxSteps := 1000000) (disch := first | assumption | omega | (simp only [ZDI]; omega)) only [*,G28,Za,Zb,Zc,Zd,Ze,Zf,Zg,Zh,Zi,Zj,Zk,Zl,Zm,Zn,Zo,Ja,Jb,Jc,J6,Jd,Je,J7,J8,Jf,Jg,Jh,Ji,Jj,Jk,J9,Jl,Jm,wr,Jn,JA,JB,Jo,Jp,Jq,Jr,Js,Jt,Ju,Jv,Jw,Jx,Jy,Jz,J0,J1,J2,J3,J4,J5,reduceCtorEq,JC,JD,JE,JF,JG,JH,JI,JJ]) | ((with_reducible (first | apply Ok.br | apply Ok.gd | apply Ok.ld)) <;> (intro g; (try simp only [ZGS] at g); try (exfalso; omega)))))
        exact Turn.next (s.n - (i + 1)) (by omega) ⟨rfl, i + 1, rfl, by omega, rfl, rfl, rfl⟩
    · have hlt' : ¬ (i : Int) < (s.n : Int) := by omega
      (repeat' (first | (simp -implicitDefEqProofs (maxSteps := 1000000) (disch := first | assumption | omega | (simp only [ZDI]; omega)) only [*,G28,Za,Zb,Zc,Zd,Ze,Zf,Zg,Zh,Zi,Zj,Zk,Zl,Zm,Zn,Zo,Ja,Jb,Jc,J6,Jd,Je,J7,J8,Jf,Jg,Jh,Ji,Jj,Jk,J9,Jl,Jm,wr,Jn,JA,JB,Jo,Jp,Jq,Jr,Js,Jt,Ju,Jv,Jw,Jx,Jy,Jz,J0,J1,J2,J3,J4,J5,reduceCtorEq,JC,JD,JE,JF,JG,JH,JI,JJ]) | ((with_reducible (first | apply Ok.br | apply Ok.gd | apply Ok.ld)) <;> (intro g; (try simp only [ZGS] at g); try (exfalso; omega)))))
      exact Turn.exit ⟨rfl, rfl, rfl, rfl⟩
  · intro x ⟨e', l', H'⟩ hW ⟨hx, h2, h3⟩
    dsimp only at hW h2 h3
    subst l' hx H'
    rw [hW.spread]
    clear hW
    simp only [spread_t,spread_f,spread_n,Nat.zero_add,Nat.reduceAdd]
    (repeat' (first | (simp -implicitDefEqProofs (maxSteps := 1000000) (disch := first | assumption | omega | (simp only [ZDI]; omega)) only [*,G28,Za,Zb,Zc,Zd,Ze,Zf,Zg,Zh,Zi,Zj,Zk,Zl,Zm,Zn,Zo,Ja,Jb,Jc,J6,Jd,Je,J7,J8,Jf,Jg,Jh,Ji,Jj,Jk,J9,Jl,Jm,wr,Jn,JA,JB,Jo,Jp,Jq,Jr,Js,Jt,Ju,Jv,Jw,Jx,Jy,Jz,J0,J1,J2,J3,J4,J5,reduceCtorEq,JC,JD,JE,JF,JG,JH,JI,JJ]) | ((with_reducible (first | apply Ok.br | apply Ok.gd | apply Ok.ld)) <;> (intro g; (try simp only [ZGS] at g); try (exfalso; omega)))))
    exact hQ'.out _ rfl
end Go.Ev
set_option maxRecDepth 100000
namespace Go.Ev
open Go.Ev renaming exPure -> Ja, ofValue -> Jb, cellsV -> Jc, load -> Jd, store -> Je, binOp -> Jf, intOp -> Jg, rdV -> Jh, vsame -> Ji, vsames -> Jj, makeSliceV -> Jk, resV -> Jl, isCell -> Jm, nilCheckV -> Jn, allV -> Jo, builtinV -> Jp, lenV -> Jq, indexAddrV -> Jr, unOp -> Js, minmaxV -> Jt, minmax -> Ju, sliceV -> Jv, asInt -> Jw, appendV -> Jx, forkB -> Jy, roY -> Jz, rwB -> J0, copyV -> J1, clearV -> J2, convV -> J3, sliceCells -> J4, shift -> J5
open Bool renaming true -> BT, false -> BF
open Nat renaming reduceEqDiff -> J6, reduceLT -> J7, reduceAdd -> J8, reduceBEq -> J9, reduceSub -> JA, reduceMul -> JB, reduceLeDiff -> JJ
open Int renaming reduceLT -> JC, reduceLE -> JD, reduceAdd -> JE, reduceSub -> JF, reduceNeg -> JG, reduceToNat -> JH, reduceEq -> JI
open Go.Proofs
theorem Cells.five {full : List V} {n : Nat} {txt : Nat -> ByteArray} {mrk : Nat -> Nat -> Int} (h : Cells full n txt mrk) {i : Nat} (hi : i < n) :
    (full.drop (i * 5)).take 5 = [.str (txt i), .int .i64 (mrk i 0), .int .i64 (mrk i 1), .int .i64 (mrk i 2), .int .i64 (mrk i 3)] /\
    (full.drop (i * 5 + 1)).take 4 = [.int .i64 (mrk i 0), .int .i64 (mrk i 1), .int .i64 (mrk i 2), .int .i64 (mrk i 3)] := by
  obtain ⟨h1, h2⟩ := h
  obtain ⟨h3, h4⟩ := h2 i hi
  have k0 := h4 0 (by omega)
  have k1 := h4 1 (by omega)
  have k2 := h4 2 (by omega)
  have k3 := h4 3 (by omega)
  constructor
  · apply List.ext_getElem?
    intro j
    rw [List.getElem?_take]
    match j with
    | 0 => simpa [List.getElem?_drop] using h3
    | 1 => simpa [List.getElem?_drop] using k0
    | 2 => simpa [List.getElem?_drop] using k1
    | 3 => simpa [List.getElem?_drop] using k2
    | 4 => simpa [List.getElem?_drop] using k3
    | j + 5 => rw [if_neg (by omega)]; simp
  · apply List.ext_getElem?
    intro j
    rw [List.getElem?_take]
    match j with
    | 0 => simpa [List.getElem?_drop] using k0
    | 1 => simpa [List.getElem?_drop] using k1
    | 2 => simpa [List.getElem?_drop] using k2
    | 3 => simpa [List.getElem?_drop] using k3
    | j + 4 => rw [if_neg (by omega)]; simp
end Go.Ev
set_option maxRecDepth 100000
namespace Go.Ev
open Go.Ev renaming exPure -> Ja, ofValue -> Jb, cellsV -> Jc, load -> Jd, store -> Je, binOp -> Jf, intOp -> Jg, rdV -> Jh, vsame -> Ji, vsames -> Jj, makeSliceV -> Jk, resV -> Jl, isCell -> Jm, nilCheckV -> Jn, allV -> Jo, builtinV -> Jp, lenV -> Jq, indexAddrV -> Jr, unOp -> Js, minmaxV -> Jt, minmax -> Ju, sliceV -> Jv, asInt -> Jw, appendV -> Jx, forkB -> Jy, roY -> Jz, rwB -> J0, copyV -> J1, clearV -> J2, convV -> J3, sliceCells -> J4, shift -> J5
open Bool renaming true -> BT, false -> BF
open Nat renaming reduceEqDiff -> J6, reduceLT -> J7, reduceAdd -> J8, reduceBEq -> J9, reduceSub -> JA, reduceMul -> JB, reduceLeDiff -> JJ
open Int renaming reduceLT -> JC, reduceLE -> JD, reduceAdd -> JE, reduceSub -> JF, reduceNeg -> JG, reduceToNat -> JH, reduceEq -> JI
open Go.Proofs
def cellE (s : Sto) (i : Nat) : List UInt8 := textE (s.txt i) ++ numE (s.mrk i 0).toNat ++ numE (s.mrk i 1).toNat ++ numE (s.mrk i 2).toNat ++ numE (s.mrk i 3).toNat
def cellsE (s : Sto) : Nat -> List UInt8
  | 0 => []
  | n + 1 => cellsE s n ++ cellE s n
def storeE (s : Sto) : List UInt8 := numE s.a.toNat ++ numE s.b.toNat ++ [if s.fz then 1 else 0] ++ cellsE s s.n
structure Sto.Good (s : Sto) : Prop where
  text : ∀ i, textB (s.txt i) = true
  mark : ∀ i k, 0 <= s.mrk i k /\ s.mrk i k <= 1099511627776
theorem Sto.Good.size {s : Sto} (h : s.Good) (i : Nat) : (s.txt i).size <= 4096 := by
  have := h.text i
  unfold textB at this
  rw [Bool.and_eq_true, decide_eq_true_eq] at this
  omega
theorem cellE_len {s : Sto} (h : s.Good) (i : Nat) : (cellE s i).length <= 8240 := by
  have h1 := textE_len (s.txt i)
  have h2 := h.size i
  have h3 : ∀ k, (numE (s.mrk i k).toNat).length <= 10 := fun k => numE_len (by have := h.mark i k; omega)
  have e0 := h3 0
  have e1 := h3 1
  have e2 := h3 2
  have e3 := h3 3
  unfold cellE
  simp only [List.length_append]
  omega
theorem cellsE_len {s : Sto} (h : s.Good) : ∀ n, (cellsE s n).length <= 8240 * n
  | 0 => by simp [cellsE]
  | n + 1 => by
    have h1 := cellsE_len h n
    have h2 := cellE_len h n
    rw [cellsE, List.length_append]; omega
set_option maxHeartbeats 16000000 in
theorem encode_at {H : Heap} {p c g : Nat} {s : Sto} (hs : StoreAt H p c g s) (hg : s.Good) : Ev.Ok (D X (.fn 35 []) [.ptr p 0 0] H) (Bys H (storeE s)) := by
  refine Ok.aim fun Q hQ => ?_
  have hQ' := Hid.mk hQ
  clear hQ
  obtain ⟨cap, z, full, hp1, hc1, hcl, hpc, hok⟩ := hs
  have g0 := hok.h0
  have g1 := hok.h1
  have g2 := hok.h2
  have hn2 : s.n <= 300 := by unfold Sto.n; omega
  have hpl := hcells_lt hp1
  have hcl0 := hcells_lt hc1
  have hua := wrapU (n := s.a) (by omega)
  have hub := wrapU (n := s.b) (by omega)
  have hla := numE_len (n := s.a.toNat) (by omega)
  have hlb := numE_len (n := s.b.toNat) (by omega)
  obtain ⟨y1, e1, H1, ob1, hy1, w1, s1⟩ := wNum_at (H := H ++ [.cells 0 true [.sl .nil 0 0 0]]) (p := H.length) (ob := none) (bs := []) ⟨hc_new, rfl⟩ (c := s.a) (by omega) (by simp)
  subst hy1
  obtain ⟨y2, e2, H2, ob2, hy2, w2, s2⟩ := wNum_at w1 (c := s.b) (by omega) (by simp; omega)
  subst hy2
  obtain ⟨y3, e3, H3, ob3, hy3, w3, s3⟩ := wBool_at w2 s.fz (by simp; omega)
  subst hy3
  have st := (s1.trans s2).trans s3
  obtain ⟨k3, b3⟩ := st.keepC (H0 := H) ⟨by simp, fun i g q hc => by rw [hcells_app (hcells_lt hc)]; exact hc⟩ (Nat.le_refl _) (fun b e => by cases e)
  have hpp1 := s1.keeps.cells (p := (true, [.int .i64 s.a, .int .i64 s.b, .bool s.fz, .sl (.at c g 0) s.n cap z])) (by rw [hcells_app hpl]; exact hp1) (by simp; omega)
  have hpp2 := (s1.trans s2).keeps.cells (p := (true, [.int .i64 s.a, .int .i64 s.b, .bool s.fz, .sl (.at c g 0) s.n cap z])) (by rw [hcells_app hpl]; exact hp1) (by simp; omega)
  have hpp3 := k3.2 _ _ _ hp1
  have hbl : ([] ++ numE s.a.toNat ++ numE s.b.toNat ++ [if s.fz then 1 else 0]).length <= 30 := by simp; omega
  have hfin : ∀ H' ob', WrAt H' H.length ob' ([] ++ numE s.a.toNat ++ numE s.b.toNat ++ [if s.fz then 1 else 0] ++ cellsE s s.n) -> WStep H.length ob3 ob' H3 H' -> Hid (D X (.fn 37 []) [.ptr H.length 0 0] H' = some (.sl (.at H'.length 0 0) (storeE s).length (storeE s).length 1, H' ++ [.cells 0 true (bV (storeE s))]) /\ Q (.sl (.at H'.length 0 0) (storeE s).length (storeE s).length 1, H' ++ [.cells 0 true (bV (storeE s))])) := by
    intro H' ob' hw hst
    have e : [] ++ numE s.a.toNat ++ numE s.b.toNat ++ [if s.fz then 1 else 0] ++ cellsE s s.n = storeE s := by unfold storeE; rw [List.nil_append]
    rw [e] at hw
    have hl := cellsE_len hg s.n
    refine ⟨wBytes_at hw ?_ ?_, hQ'.out _ ⟨H'.length, 0, 1, rfl, .inr rfl, hc_new, ?_, ?_⟩⟩
    · rw [<- e]; simp
    · rw [<- e, List.length_append]; omega
    · have := hst.1.1; have := k3.1; omega
    · refine Keeps.snoc ⟨by have := hst.1.1; have := k3.1; omega, fun i hi _ => ?_⟩ _
      have h4 := (st.trans hst).1.2 i (by simp; omega) (by simp; omega)
      rw [h4, List.getElem?_append_left hi]
  have hfin' := Hid.mk hfin
  have b3' := Hid.mk b3
  have k3' := Hid.mk k3
  have hg' := Hid.mk hg
  have hcl' := Hid.mk hcl
  have w3' := Hid.mk w3
  generalize [] ++ numE s.a.toNat ++ numE s.b.toNat ++ [if s.fz then 1 else 0] = B0 at w3' hfin' hbl
  clear hfin b3 k3 hg hcl w1 w2 w3 s1 s2 s3 st hla hlb hQ'
  (refine Ok.body body35 pin35 ?_; simp only [c35,Try.f35,Option.getD_some,nslot35,List.append_nil,List.map,List.replicate,List.length_cons,List.length_nil,Nat.reduceAdd,Nat.reduceSub,List.cons_append,List.nil_append])
  (repeat' (first | (simp -implicitDefEqProofs (maxSteps := 1000000) (disch := first | assumption | omega | (simp only [ZDI]; omega)) only [*,lenV,G35,Za,Zb,Zc,Zd,Ze,Zf,Zg,Zh,Zi,Zj,Zk,Zl,Zm,Zn,Zo,Ja,Jb,Jc,J6,Jd,Je,J7,J8,Jf,Jg,Jh,Ji,Jj,Jk,J9,Jl,Jm,wr,Jn,JA,JB,Jo,Jp,Jq,Jr,Js,Jt,Ju,Jv,Jw,Jx,Jy,Jz,J0,J1,J2,J3,J4,J5,reduceCtorEq,JC,JD,JE,JF,JG,JH,JI,JJ]) | ((with_reducible (first | apply Ok.br | apply Ok.gd | apply Ok.ld)) <;> (intro g; (try simp only [ZGS] at g); try (exfalso; omega)))))
  refine Ok.loop [BF, BF, BF, BF, BF, BT, BF, BT, BF, BF, BF, BF, BF, BF, BF, BF, BF, BF, BF, BF, BF, BF, BF, BF, BF, BF, BF, BF, BF, BF, BF, BF, BF, BF, BF, BF, BF, BF, BF, BT, BT, BT, BT, BT, BT, BT, BT, BT, BT, BT, BT, BT, BT, BT, BT, BT, BT, BT, BF, BF] (fun n s2 => ∃ (i w : Nat) (q : List V) (ob' : Option Nat), n = s.n - i /\ i <= s.n /\ tv s2.e 39 = .v (.int .i64 i) /\ s2.l = [(w, q)] /\ WrAt s2.h H.length ob' (B0 ++ cellsE s i) /\ WStep H.length ob3 ob' H3 s2.h)
    (fun y s2 => y = .exit 0 /\ ∃ (w : Nat) (q : List V) (ob' : Option Nat), s2.l = [(w, q)] /\ WrAt s2.h H.length ob' (B0 ++ cellsE s s.n) /\ WStep H.length ob3 ob' H3 s2.h)
    (s.n - 0) ⟨0, _, _, ob3, rfl, Nat.zero_le _, rfl, rfl, by rw [cellsE, List.append_nil]; exact w3'.out, WStep.refl _ _ _ (by intro h b e; rw [h] at e; cases e)⟩ ?_ ?_
  · intro n ⟨e', l', G⟩ hW ⟨i, w, q, ob', hm, hi, h39, k2, hwr, hst⟩
    dsimp only at hW h39 k2 hwr hst
    subst l'
    rw [hW.spread]
    simp only [spread_t,spread_f,spread_n,Nat.zero_add,Nat.reduceAdd,h39]
    clear hW
    by_cases hlt : i < s.n
    · have hlt' : (i : Int) < (s.n : Int) := by omega
      have g1 : 0 <= (i : Int) /\ (i : Int) < (s.n : Int) := by omega
      obtain ⟨f1, f2⟩ := hcl'.out.five hlt
      have e5 : i * 5 + 5 <= full.length := by rw [hcl'.out.1]; omega
      have hcG := (hst.keepC k3'.out (Nat.le_refl _) b3'.out).1.2 _ _ _ hc1
      have hL0 := cellsE_len hg'.out i
      have hsz := hg'.out.size i
      have htl := textE_len (s.txt i)
      have m0 := hg'.out.mark i 0
      have m1 := hg'.out.mark i 1
      have m2 := hg'.out.mark i 2
      have m3 := hg'.out.mark i 3
      have n0 := numE_len (n := (s.mrk i 0).toNat) (by omega)
      have n1 := numE_len (n := (s.mrk i 1).toNat) (by omega)
      have n2 := numE_len (n := (s.mrk i 2).toNat) (by omega)
      have n3 := numE_len (n := (s.mrk i 3).toNat) (by omega)
      have u0 := wrapU (n := s.mrk i 0) (by omega)
      have u1 := wrapU (n := s.mrk i 1) (by omega)
      have u2 := wrapU (n := s.mrk i 2) (by omega)
      have u3 := wrapU (n := s.mrk i 3) (by omega)
      obtain ⟨y4, e4, H4, ob4, hy4, w4, s4⟩ := wText_at hwr (s.txt i) (by rw [List.length_append]; omega)
      subst hy4
      obtain ⟨y5, e5', H5, ob5, hy5, w5, s5⟩ := wNum_at w4 (c := s.mrk i 0) (by omega) (by simp only [List.length_append]; omega)
      subst hy5
      obtain ⟨y6, e6, H6, ob6, hy6, w6, s6⟩ := wNum_at w5 (c := s.mrk i 1) (by omega) (by simp only [List.length_append]; omega)
      subst hy6
      obtain ⟨y7, e7, H7, ob7, hy7, w7, s7⟩ := wNum_at w6 (c := s.mrk i 2) (by omega) (by simp only [List.length_append]; omega)
      subst hy7
      obtain ⟨y8, e8, H8, ob8, hy8, w8, s8⟩ := wNum_at w7 (c := s.mrk i 3) (by omega) (by simp only [List.length_append]; omega)
      subst hy8
      have w9 : Hid (WrAt H8 H.length ob8 (B0 ++ cellsE s (i + 1))) := ⟨by rw [cellsE]; unfold cellE; simpa only [List.append_assoc] using w8⟩
      have s9 := Hid.mk ((((hst.trans s4).trans s5).trans s6).trans (s7.trans s8))
      clear w4 w5 w6 w7 w8 s4 s5 s6 s7 s8 hwr hst hL0 hsz htl m0 m1 m2 m3 n0 n1 n2 n3 hc1 hp1 e1 e2 e3
      (repeat' (first | (simp -implicitDefEqProofs (maxSteps := 1000000) (disch := first | assumption | omega | (simp only [ZDI]; omega)) only [*,lenV,indexV,G35,Za,Zb,Zc,Zd,Ze,Zf,Zg,Zh,Zi,Zj,Zk,Zl,Zm,Zn,Zo,Ja,Jb,Jc,J6,Jd,Je,J7,J8,Jf,Jg,Jh,Ji,Jj,Jk,J9,Jl,Jm,wr,Jn,JA,JB,Jo,Jp,Jq,Jr,Js,Jt,Ju,Jv,Jw,Jx,Jy,Jz,J0,J1,J2,J3,J4,J5,reduceCtorEq,JC,JD,JE,JF,JG,JH,JI,JJ]) | ((with_reducible (first | apply Ok.br | apply Ok.gd | apply Ok.ld)) <;> (intro g; (try simp only [ZGS] at g); try (exfalso; omega)))))
      refine Ok.unroll ?_
      (repeat' (first | (simp -implicitDefEqProofs (maxSteps := 1000000) (disch := first | assumption | omega | (simp only [ZDI]; omega)) only [*,lenV,indexV,G35,Za,Zb,Zc,Zd,Ze,Zf,Zg,Zh,Zi,Zj,Zk,Zl,Zm,Zn,Zo,Ja,Jb,Jc,J6,Jd,Je,J7,J8,Jf,Jg,Jh,Ji,Jj,Jk,J9,Jl,Jm,wr,Jn,JA,JB,Jo,Jp,Jq,Jr,Js,Jt,Ju,Jv,Jw,Jx,Jy,Jz,J0,J1,J2,J3,J4,J5,reduceCtorEq,JC,JD,JE,JF,JG,JH,JI,JJ]) | ((with_reducible (first | apply Ok.br | apply Ok.gd | apply Ok.ld)) <;> (intro g; (try simp only [ZGS] at g); try (exfalso; omega)))))
      refine Ok.unroll ?_
      (repeat' (first | (simp -implicitDefEqProofs (maxSteps := 1000000) (disch := first | assumption | omega | (simp only [ZDI]; omega)) only [*,lenV,indexV,G35,Za,Zb,Zc,Zd,Ze,Zf,Zg,Zh,Zi,Zj,Zk,Zl,Zm,Zn,Zo,Ja,Jb,Jc,J6,Jd,Je,J7,J8,Jf,Jg,Jh,Ji,Jj,Jk,J9,Jl,Jm,wr,Jn,JA,JB,Jo,Jp,Jq,Jr,Js,Jt,Ju,Jv,Jw,Jx,Jy,Jz,J0,J1,J2,J3,J4,J5,reduceCtorEq,JC,JD,JE,JF,JG,JH,JI,JJ]) | ((with_reducible (first | apply Ok.br | apply Ok.gd | apply Ok.ld)) <;> (intro g; (try simp only [ZGS] at g); try (exfalso; omega)))))
      refine Ok.unroll ?_
      (repeat' (first | (simp -implicitDefEqProofs (maxSteps := 1000000) (disch := first | assumption | omega | (simp only [ZDI]; omega)) only [*,lenV,indexV,G35,Za,Zb,Zc,Zd,Ze,Zf,Zg,Zh,Zi,Zj,Zk,Zl,Zm,Zn,Zo,Ja,Jb,Jc,J6,Jd,Je,J7,J8,Jf,Jg,Jh,Ji,Jj,Jk,J9,Jl,Jm,wr,Jn,JA,JB,Jo,Jp,Jq,Jr,Js,Jt,Ju,Jv,Jw,Jx,Jy,Jz,J0,J1,J2,J3,J4,J5,reduceCtorEq,JC,JD,JE,JF,JG,JH,JI,JJ]) | ((with_reducible (first | apply Ok.br | apply Ok.gd | apply Ok.ld)) <;> (intro g; (try simp only [ZGS] at g); try (exfalso; omega)))))
      refine Ok.unroll ?_
      (repeat' (first | (simp -implicitDefEqProofs (maxSteps := 1000000) (disch := first | assumption | omega | (simp only [ZDI]; omega)) only [*,lenV,indexV,G35,Za,Zb,Zc,Zd,Ze,Zf,Zg,Zh,Zi,Zj,Zk,Zl,Zm,Zn,Zo,Ja,Jb,Jc,J6,Jd,Je,J7,J8,Jf,Jg,Jh,Ji,Jj,Jk,J9,Jl,Jm,wr,Jn,JA,JB,Jo,Jp,Jq,Jr,Js,Jt,Ju,Jv,Jw,Jx,Jy,Jz,J0,J1,J2,J3,J4,J5,reduceCtorEq,JC,JD,JE,JF,JG,JH,JI,JJ]) | ((with_reducible (first | apply Ok.br | apply Ok.gd | apply Ok.ld)) <;> (intro g; (try simp only [ZGS] at g); try (exfalso; omega)))))
      refine Ok.unroll ?_
      (repeat' (first | (simp -implicitDefEqProofs (maxSteps := 1000000) (disch := first | assumption | omega | (simp only [ZDI]; omega)) only [*,lenV,indexV,G35,Za,Zb,Zc,Zd,Ze,Zf,Zg,Zh,Zi,Zj,Zk,Zl,Zm,Zn,Zo,Ja,Jb,Jc,J6,Jd,Je,J7,J8,Jf,Jg,Jh,Ji,Jj,Jk,J9,Jl,Jm,wr,Jn,JA,JB,Jo,Jp,Jq,Jr,Js,Jt,Ju,Jv,Jw,Jx,Jy,Jz,J0,J1,J2,J3,J4,J5,reduceCtorEq,JC,JD,JE,JF,JG,JH,JI,JJ]) | ((with_reducible (first | apply Ok.br | apply Ok.gd | apply Ok.ld)) <;> (intro g; (try simp only [ZGS] at g); try (exfalso; omega)))))
      exact Turn.next (s.n - (i + 1)) (by omega) ⟨rfl, i + 1, _, _, ob8, rfl, by omega, rfl, rfl, w9.out, s9.out⟩
    · have hlt' : ¬ (i : Int) < (s.n : Int) := by omega
      have hin : i = s.n := by omega
      subst hin
      have w2' := Hid.mk hwr
      have s2' := Hid.mk hst
      clear hwr hst e1 e2 e3
      (repeat' (first | (simp -implicitDefEqProofs (maxSteps := 1000000) (disch := first | assumption | omega | (simp only [ZDI]; omega)) only [*,lenV,indexV,G35,Za,Zb,Zc,Zd,Ze,Zf,Zg,Zh,Zi,Zj,Zk,Zl,Zm,Zn,Zo,Ja,Jb,Jc,J6,Jd,Je,J7,J8,Jf,Jg,Jh,Ji,Jj,Jk,J9,Jl,Jm,wr,Jn,JA,JB,Jo,Jp,Jq,Jr,Js,Jt,Ju,Jv,Jw,Jx,Jy,Jz,J0,J1,J2,J3,J4,J5,reduceCtorEq,JC,JD,JE,JF,JG,JH,JI,JJ]) | ((with_reducible (first | apply Ok.br | apply Ok.gd | apply Ok.ld)) <;> (intro g; (try simp only [ZGS] at g); try (exfalso; omega)))))
      exact Turn.exit ⟨rfl, rfl, w, q, ob', rfl, w2'.out, s2'.out⟩
  · intro y ⟨e', l', G⟩ hW ⟨hy, w, q, ob', k2, hwr, hst⟩
    dsimp only at hW k2 hwr hst
    subst l' hy
    rw [hW.spread]
    clear hW
    simp only [spread_t,spread_f,spread_n,Nat.zero_add,Nat.reduceAdd]
    obtain ⟨hq⟩ := hfin'.out G ob' hwr hst
    obtain ⟨q1, q2⟩ := hq
    have hq2 := Hid.mk q2
    clear hwr hst q2 e1 e2 e3
    (repeat' (first | (simp -implicitDefEqProofs (maxSteps := 1000000) (disch := first | assumption | omega | (simp only [ZDI]; omega)) only [*,G35,Za,Zb,Zc,Zd,Ze,Zf,Zg,Zh,Zi,Zj,Zk,Zl,Zm,Zn,Zo,Ja,Jb,Jc,J6,Jd,Je,J7,J8,Jf,Jg,Jh,Ji,Jj,Jk,J9,Jl,Jm,wr,Jn,JA,JB,Jo,Jp,Jq,Jr,Js,Jt,Ju,Jv,Jw,Jx,Jy,Jz,J0,J1,J2,J3,J4,J5,reduceCtorEq,JC,JD,JE,JF,JG,JH,JI,JJ]) | ((with_reducible (first | apply Ok.br | apply Ok.gd | apply Ok.ld)) <;> (intro g; (try simp only [ZGS] at g); try (exfalso; omega)))))
    exact hq2.out
end Go.Ev
set_option maxRecDepth 100000
namespace Go.Ev
open Go.Ev renaming exPure -> Ja, ofValue -> Jb, cellsV -> Jc, load -> Jd, store -> Je, binOp -> Jf, intOp -> Jg, rdV -> Jh, vsame -> Ji, vsames -> Jj, makeSliceV -> Jk, resV -> Jl, isCell -> Jm, nilCheckV -> Jn, allV -> Jo, builtinV -> Jp, lenV -> Jq, indexAddrV -> Jr, unOp -> Js, minmaxV -> Jt, minmax -> Ju, sliceV -> Jv, asInt -> Jw, appendV -> Jx, forkB -> Jy, roY -> Jz, rwB -> J0, copyV -> J1, clearV -> J2, convV -> J3, sliceCells -> J4, shift -> J5
open Bool renaming true -> BT, false -> BF
open Nat renaming reduceEqDiff -> J6, reduceLT -> J7, reduceAdd -> J8, reduceBEq -> J9, reduceSub -> JA, reduceMul -> JB, reduceLeDiff -> JJ
open Int renaming reduceLT -> JC, reduceLE -> JD, reduceAdd -> JE, reduceSub -> JF, reduceNeg -> JG, reduceToNat -> JH, reduceEq -> JI
open Go.Proofs
theorem fits_u8 {h : Heap} {d : Nat} {cs : List V} (hf : Fits X.ty h (d + 1) 5 cs) : ∃ c : UInt8, cs = [.int .u8 (c.toNat : Nat)] := by
  unfold Fits at hf
  rw [ty5] at hf
  obtain ⟨i, rfl, h1⟩ := hf
  simp only [Lit.wf,IntKind.min,IntKind.max,IntKind.signed,IntKind.bits] at h1
  simp at h1
  refine ⟨UInt8.ofNat i.toNat, ?_⟩
  rw [UInt8.toNat_ofNat']
  congr 2
  omega
def BytesIn (H : Heap) (v : V) (bs : List UInt8) : Prop := bs.length <= 9223372036854775807 /\ ((bs = [] /\ (v = .sl .nil 0 0 0 \/ v = .sl .any 0 0 1)) \/ ∃ b cap full, v = .sl (.at b 0 0) bs.length cap 0 /\ hcells H b 0 = some (false, full) /\ bs.length <= full.length /\ full.take bs.length = bV bs)
set_option maxHeartbeats 4000000 in
theorem newReader_at {H : Heap} {b g n c z : Nat} {rw : Bool} {full : List V} {bs : List UInt8} (hc : hcells H b g = some (rw, full)) (hn : bs.length = n) (hl : n <= full.length) (ht : full.take n = bV bs) (hpos : 0 < n) (hroom : n < 35184372088832) :
    D X (.fn 39 []) [.sl (.at b g 0) n c z] H = some (.ptr (H.length + 1) 0 0, H ++ [.cells 0 true (bV bs), .cells 0 true [.sl (.at H.length 0 0) n n 1, .int .i64 0, .bool false]]) /\
      RdAt (H ++ [.cells 0 true (bV bs), .cells 0 true [.sl (.at H.length 0 0) n n 1, .int .i64 0, .bool false]]) (H.length + 1) (.sl (.at H.length 0 0) n n 1) bs (some bs) := by
  constructor
  · refine Ok.eq ?_
    have hb := hcells_lt hc
    have hn0 : ¬ n <= 0 := by omega
    have hn1 : ¬ n = 0 := by omega
    have hL : n * 1 <= 35184372088832 /\ n <= 35184372088832 := by omega
    clear hn
    (refine Ok.body body39 pin39 ?_; simp only [c39,Try.f39,Option.getD_some,nslot39,List.append_nil,List.map,List.replicate,List.length_cons,List.length_nil,Nat.reduceAdd,Nat.reduceSub,List.cons_append,List.nil_append])
    (repeat' (first | (simp -implicitDefEqProofs (maxSteps := 1000000) (disch := first | assumption | omega | (simp only [ZDI]; omega)) only [*,lenV,List.drop_zero,Nat.zero_add,Nat.mul_one,G39,Za,Zb,Zc,Zd,Ze,Zf,Zg,Zh,Zi,Zj,Zk,Zl,Zm,Zn,Zo,Ja,Jb,Jc,J6,Jd,Je,J7,J8,Jf,Jg,Jh,Ji,Jj,Jk,J9,Jl,Jm,wr,Jn,JA,JB,Jo,Jp,Jq,Jr,Js,Jt,Ju,Jv,Jw,Jx,Jy,Jz,J0,J1,J2,J3,J4,J5,reduceCtorEq,JC,JD,JE,JF,JG,JH,JI,JJ]) | ((with_reducible (first | apply Ok.br | apply Ok.gd | apply Ok.ld)) <;> (intro g; (try simp only [ZGS] at g); try (exfalso; omega)))))
  · subst hn
    refine ⟨.inr ⟨H.length, by omega, rfl, ?_⟩, ⟨0, Nat.zero_le _, fun r e => by cases e; rfl, hc_new2⟩, hroom⟩
    rw [hcells_ge (Nat.le_refl _), Nat.sub_self]; exact grd_t rfl _
end Go.Ev
set_option maxRecDepth 100000
namespace Go.Ev
open Go.Ev renaming exPure -> Ja, ofValue -> Jb, cellsV -> Jc, load -> Jd, store -> Je, binOp -> Jf, intOp -> Jg, rdV -> Jh, vsame -> Ji, vsames -> Jj, makeSliceV -> Jk, resV -> Jl, isCell -> Jm, nilCheckV -> Jn, allV -> Jo, builtinV -> Jp, lenV -> Jq, indexAddrV -> Jr, unOp -> Js, minmaxV -> Jt, minmax -> Ju, sliceV -> Jv, asInt -> Jw, appendV -> Jx, forkB -> Jy, roY -> Jz, rwB -> J0, copyV -> J1, clearV -> J2, convV -> J3, sliceCells -> J4, shift -> J5
open Bool renaming true -> BT, false -> BF
open Nat renaming reduceEqDiff -> J6, reduceLT -> J7, reduceAdd -> J8, reduceBEq -> J9, reduceSub -> JA, reduceMul -> JB, reduceLeDiff -> JJ
open Int renaming reduceLT -> JC, reduceLE -> JD, reduceAdd -> JE, reduceSub -> JF, reduceNeg -> JG, reduceToNat -> JH, reduceEq -> JI
open Go.Proofs
def tailE (s : Sto) : Nat -> Nat -> List UInt8
  | _, 0 => []
  | i, m + 1 => cellE s i ++ tailE s (i + 1) m
theorem cellsE_tail (s : Sto) : ∀ (m i : Nat), cellsE s (i + m) = cellsE s i ++ tailE s i m
  | 0, i => by simp [tailE]
  | m + 1, i => by
    have h := cellsE_tail s m (i + 1)
    rw [show i + (m + 1) = i + 1 + m by omega, h, cellsE, tailE, List.append_assoc]
theorem storeE_eq (s : Sto) : storeE s = numE s.a.toNat ++ (numE s.b.toNat ++ ((if s.fz then 1 else 0) :: tailE s 0 s.n)) := by
  have h := cellsE_tail s s.n 0
  rw [Nat.zero_add, cellsE, List.nil_append] at h
  unfold storeE
  rw [h]
  simp only [List.append_assoc,List.cons_append,List.nil_append]
theorem rdEnd_at {H : Heap} {p : Nat} {v : V} {bs : List UInt8} (h : RdAt H p v bs (some [])) : D X (.fn 75 []) [.ptr p 0 0] H = some (.bool true, H) := by
  have h1 := rdBad_at h
  have h2 := rdLeft_at h
  simp only [Option.isNone_some,leftN,List.length_nil] at h1 h2
  clear h
  refine Ok.eq ?_
  (refine Ok.body body75 pin75 ?_; simp only [c75,Try.f75,Option.getD_some,nslot75,List.append_nil,List.map,List.replicate,List.length_cons,List.length_nil,Nat.reduceAdd,Nat.reduceSub,List.cons_append,List.nil_append])
  (repeat' (first | (simp -implicitDefEqProofs (maxSteps := 1000000) (disch := first | assumption | omega | (simp only [ZDI]; omega)) only [*,G75,Za,Zb,Zc,Zd,Ze,Zf,Zg,Zh,Zi,Zj,Zk,Zl,Zm,Zn,Zo,Ja,Jb,Jc,J6,Jd,Je,J7,J8,Jf,Jg,Jh,Ji,Jj,Jk,J9,Jl,Jm,wr,Jn,JA,JB,Jo,Jp,Jq,Jr,Js,Jt,Ju,Jv,Jw,Jx,Jy,Jz,J0,J1,J2,J3,J4,J5,reduceCtorEq,JC,JD,JE,JF,JG,JH,JI,JJ]) | ((with_reducible (first | apply Ok.br | apply Ok.gd | apply Ok.ld)) <;> (intro g; (try simp only [ZGS] at g); try (exfalso; omega)))))
set_option maxHeartbeats 64000000 in
theorem decode_at {H : Heap} {b g n cap z : Nat} {rw : Bool} {fullA : List V} {s : Sto} (hb : hcells H b g = some (rw, fullA)) (hbl : n <= fullA.length) (hbt : fullA.take n = bV (storeE s)) (hn : n = (storeE s).length) (hok : s.Ok) (hg : s.Good) :
    Ev.Ok (D X (.fn 44 []) [.sl (.at b g 0) n cap z] H) fun y => ∃ p c, y.1 = .tup [.ptr p 0 0, .int .i64 0] /\ StoreAt y.2 p c 0 s /\ Keeps [] H y.2 /\ H.length <= p /\ H.length <= c := by
  refine Ok.aim fun Q hQ => ?_
  have hQ' := Hid.mk hQ
  clear hQ
  have g0 := hok.h0
  have g1 := hok.h1
  have g2 := hok.h2
  have hn2 : s.n <= 300 := by unfold Sto.n; omega
  have hla := numE_len (n := s.a.toNat) (by omega)
  have hlb := numE_len (n := s.b.toNat) (by omega)
  have hpa := numE_pos s.a.toNat
  have hlc := cellsE_len hg s.n
  have hlen : 0 < (storeE s).length /\ (storeE s).length <= 3000000 := by
    unfold storeE
    simp only [List.length_append,List.length_cons,List.length_nil]
    omega
  obtain ⟨eN, r0⟩ := newReader_at (c := cap) (z := z) (bs := storeE s) hb hn.symm hbl hbt (by omega) (by omega)
  obtain ⟨G0, hG0⟩ : ∃ G, G = H ++ [.cells 0 true (bV (storeE s)), .cells 0 true [.sl (.at H.length 0 0) n n 1, .int .i64 0, .bool false]] := ⟨_, rfl⟩
  have hk0 : Keeps [] H G0 := by rw [hG0]; exact .app _ _ _
  rw [<- hG0] at eN r0
  have hpr : H.length + 1 < G0.length := by rw [hG0]; simp
  clear hG0 hlc hb hbl hbt
  have hd1 : (some (storeE s)).bind numD = some (s.a.toNat, numE s.b.toNat ++ ((if s.fz then 1 else 0) :: tailE s 0 s.n)) := by rw [storeE_eq]; exact numD_E (by omega) _
  have hd2 : (some (numE s.b.toNat ++ ((if s.fz then 1 else 0) :: tailE s 0 s.n))).bind numD = some (s.b.toNat, (if s.fz then 1 else 0) :: tailE s 0 s.n) := numD_E (by omega) _
  have hd3 : (some ((if s.fz then 1 else 0) :: tailE s 0 s.n)).bind boolD = some (s.fz, tailE s 0 s.n) := boolD_E _ _
  obtain ⟨⟨w1, G1⟩, e1, hv1, r1, k1⟩ := rdNum_at r0
  dsimp only at hv1 r1 k1
  rw [hd1] at hv1 r1
  simp only [Option.map_some,Option.getD_some] at hv1 r1
  subst hv1
  obtain ⟨⟨w2, G2⟩, e2, hv2, r2, k2⟩ := rdNum_at r1
  dsimp only at hv2 r2 k2
  rw [hd2] at hv2 r2
  simp only [Option.map_some,Option.getD_some] at hv2 r2
  subst hv2
  obtain ⟨⟨w3, G3⟩, e3, hv3, r3, k3⟩ := rdBool_at r2
  dsimp only at hv3 r3 k3
  rw [hd3] at hv3 r3
  simp only [Option.map_some,Option.getD_some] at hv3 r3
  subst hv3
  have eBad := rdBad_at r3
  simp only [Option.isNone_some] at eBad
  have k03 := (k1.trans k2).trans k3
  have hK3 : Keeps [] H G3 := ⟨Nat.le_trans hk0.1 k03.1, fun i hi _ => by rw [k03.2 i (by have := hk0.1; omega) (by simp; omega)]; exact hk0.2 i hi (by simp)⟩
  have hpr3 : H.length + 1 < G3.length := by have := k03.1; omega
  obtain ⟨⟨w4, G4⟩, e4, h4', hy4, k4, l4, st4⟩ := new_store g0 g1 g2 G3
  simp only [Prod.mk.injEq] at hy4
  obtain ⟨rfl, rfl⟩ := hy4
  obtain ⟨cp, zz, full0, q1, q2, q3, q4, q5⟩ := st4
  have hna : ((s.a.toNat : Nat) : Int) = s.a := by omega
  have hnb : ((s.b.toNat : Nat) : Int) = s.b := by omega
  have hne : (emptySto s.a s.b).n = s.n := rfl
  rw [hne] at q1 q3
  have hcp : s.n <= cp := q5.hc
  have hz5 := q5.hz
  have hpl4 := hcells_lt q1
  have hcl4 := hcells_lt q2
  have hf0 : full0.length = s.n * 5 := q3.1
  have q1 : hcells G4 (G3.length + 1) 0 = some (true, [.int .i64 s.a, .int .i64 s.b, .bool false, .sl (.at G3.length 0 0) s.n cp zz]) := q1
  rw [hna] at e1
  rw [hnb] at e2
  have r4 : RdAt (G4.set (G3.length + 1) (.cells 0 true [.int .i64 s.a, .int .i64 s.b, .bool s.fz, .sl (.at G3.length 0 0) s.n cp zz])) (H.length + 1) (.sl (.at H.length 0 0) n n 1) (storeE s) (some (tailE s 0 s.n)) :=
    r3.grow r3 fun i hi => by rw [List.getElem?_set_ne (by omega)]; exact k4.2 i hi (by simp)
  have hgo : s.Good := hg
  have r3' := Hid.mk r3
  have r4' := Hid.mk r4
  have hK3' := Hid.mk hK3
  have k4' := Hid.mk k4
  have hg' := Hid.mk hg
  have hok' := Hid.mk hok
  clear hd1 hd2 hd3 r0 r1 r2 r3 r4 k1 k2 k3 k03 hk0 hK3 k4 q3 q5 hg hgo hok hla hlb hpa hpr hn
  (refine Ok.body body44 pin44 ?_; simp only [c44,Try.f44,Option.getD_some,nslot44,List.append_nil,List.map,List.replicate,List.length_cons,List.length_nil,Nat.reduceAdd,Nat.reduceSub,List.cons_append,List.nil_append])
  (repeat' (first | (simp -implicitDefEqProofs (maxSteps := 1000000) (disch := first | assumption | omega | (simp only [ZDI]; omega)) only [*,lenV,G44,Za,Zb,Zc,Zd,Ze,Zf,Zg,Zh,Zi,Zj,Zk,Zl,Zm,Zn,Zo,Ja,Jb,Jc,J6,Jd,Je,J7,J8,Jf,Jg,Jh,Ji,Jj,Jk,J9,Jl,Jm,wr,Jn,JA,JB,Jo,Jp,Jq,Jr,Js,Jt,Ju,Jv,Jw,Jx,Jy,Jz,J0,J1,J2,J3,J4,J5,reduceCtorEq,JC,JD,JE,JF,JG,JH,JI,JJ]) | ((with_reducible (first | apply Ok.br | apply Ok.gd | apply Ok.ld)) <;> (intro g; (try simp only [ZGS] at g); try (exfalso; omega)))))
  refine Ok.loop [BF, BF, BT, BT, BF, BF, BF, BF, BF, BF, BT, BT, BT, BT, BF, BF, BF, BF, BF, BF, BF, BF, BF, BF, BF, BF, BF, BF, BF, BF, BF, BF, BF, BF, BF, BF, BF, BF, BF, BF, BF, BF, BF, BF, BF, BF, BF, BF, BF, BF, BF, BT, BT, BT, BT, BT, BT, BT, BT, BT, BT, BT, BT, BT, BT, BT, BT, BT, BT, BT, BT, BT, BT, BT, BT, BT, BT, BT, BT, BT, BT, BT, BT, BT, BT, BT, BT, BF, BF, BF, BF] (fun m s2 => ∃ (i : Nat) (full : List V), m = s.n - i /\ i <= s.n /\ tv s2.e 51 = .v (.int .i64 i) /\ s2.l = [] /\ RdAt s2.h (H.length + 1) (.sl (.at H.length 0 0) n n 1) (storeE s) (some (tailE s i (s.n - i))) /\ Keeps [H.length + 1] G3 s2.h /\
      hcells s2.h (G3.length + 1) 0 = some (true, [.int .i64 s.a, .int .i64 s.b, .bool s.fz, .sl (.at G3.length 0 0) s.n cp zz]) /\ hcells s2.h G3.length 0 = some (true, full) /\ full.length = s.n * 5 /\ (∀ j, j < i -> full[j * 5]? = some (.str (s.txt j)) /\ ∀ k, k < 4 -> full[j * 5 + 1 + k]? = some (.int .i64 (s.mrk j k))))
    (fun y s2 => y = .exit 0 /\ ∃ (full : List V), s2.l = [] /\ RdAt s2.h (H.length + 1) (.sl (.at H.length 0 0) n n 1) (storeE s) (some []) /\ Keeps [H.length + 1] G3 s2.h /\
      hcells s2.h (G3.length + 1) 0 = some (true, [.int .i64 s.a, .int .i64 s.b, .bool s.fz, .sl (.at G3.length 0 0) s.n cp zz]) /\ hcells s2.h G3.length 0 = some (true, full) /\ full.length = s.n * 5 /\ (∀ j, j < s.n -> full[j * 5]? = some (.str (s.txt j)) /\ ∀ k, k < 4 -> full[j * 5 + 1 + k]? = some (.int .i64 (s.mrk j k))))
    (s.n - 0) ⟨0, full0, rfl, Nat.zero_le _, rfl, rfl, r4'.out, ⟨by have := k4'.out.1; simp; omega, fun i hi _ => by
      dsimp only
      rw [List.getElem?_set_ne (by omega)]; exact k4'.out.2 i hi (by simp)⟩, hcells_set_eq hpl4, by dsimp only; rw [hcells_set_ne (by omega)]; exact q2, hf0, fun j hj => absurd hj (by omega)⟩ ?_ ?_
  · intro m ⟨e', l', G⟩ hW ⟨i, full, hm, hi, h51, kl, hrd, hkG, hp, hc, hfl, hcs⟩
    dsimp only at hW h51 kl hrd hkG hp hc
    subst l'
    rw [hW.spread]
    simp only [spread_t,spread_f,spread_n,Nat.zero_add,Nat.reduceAdd,h51]
    clear hW hQ' e1 e2 e3 eN e4 eBad q1 q2
    by_cases hlt : i < s.n
    · have hlt' : (i : Int) < (s.n : Int) := by omega
      have g1 : 0 <= (i : Int) /\ (i : Int) < (s.n : Int) := by omega
      have hni : s.n - i = (s.n - (i + 1)) + 1 := by omega
      have hsz := hg'.out.size i
      have htx := hg'.out.text i
      have m0 := hg'.out.mark i 0
      have m1 := hg'.out.mark i 1
      have m2 := hg'.out.mark i 2
      have m3 := hg'.out.mark i 3
      have eT := isText_at (s.txt i)
      rw [htx] at eT
      obtain ⟨R, hR⟩ : ∃ R, R = tailE s (i + 1) (s.n - (i + 1)) := ⟨_, rfl⟩
      have htail : tailE s i (s.n - i) = textE (s.txt i) ++ (numE (s.mrk i 0).toNat ++ (numE (s.mrk i 1).toNat ++ (numE (s.mrk i 2).toNat ++ (numE (s.mrk i 3).toNat ++ R)))) := by
        rw [hni, tailE, <- hR]; unfold cellE; simp only [List.append_assoc]
      rw [htail] at hrd
      obtain ⟨⟨w5, G5⟩, e5, hv5, r5, k5⟩ := rdText_at hrd
      dsimp only at hv5 r5 k5
      have hd5 : (some (textE (s.txt i) ++ (numE (s.mrk i 0).toNat ++ (numE (s.mrk i 1).toNat ++ (numE (s.mrk i 2).toNat ++ (numE (s.mrk i 3).toNat ++ R)))))).bind textD = some (s.txt i, numE (s.mrk i 0).toNat ++ (numE (s.mrk i 1).toNat ++ (numE (s.mrk i 2).toNat ++ (numE (s.mrk i 3).toNat ++ R)))) := textD_E (by omega) _
      rw [hd5] at hv5 r5
      simp only [Option.map_some,Option.getD_some] at hv5 r5
      subst hv5
      have c5 := k5.cells hc (by simp; omega)
      have p5 := k5.cells hp (by simp; omega)
      have K5 := hkG.trans (⟨k5.1, fun i hi hF => k5.2 i hi hF⟩ : Keeps [H.length + 1] G G5)
      obtain ⟨x6, a6, G6, hx6, ha6, e6, r6, K6, c6, l6, kk6⟩ := took_step (fun G hG => rdNum_at hG) r3'.out r5 K5 c5 (full.set (i * 5) (.str (s.txt i)))
      have hd6 : (some (numE (s.mrk i 0).toNat ++ (numE (s.mrk i 1).toNat ++ (numE (s.mrk i 2).toNat ++ (numE (s.mrk i 3).toNat ++ R))))).bind numD = some ((s.mrk i 0).toNat, numE (s.mrk i 1).toNat ++ (numE (s.mrk i 2).toNat ++ (numE (s.mrk i 3).toNat ++ R))) := numD_E (by omega) _
      rw [hd6] at hx6; subst hx6
      have ha6 : a6 = (s.mrk i 0).toNat := ha6
      have r6 : RdAt G6 (H.length + 1) (.sl (.at H.length 0 0) n n 1) (storeE s) (some (numE (s.mrk i 1).toNat ++ (numE (s.mrk i 2).toNat ++ (numE (s.mrk i 3).toNat ++ R)))) := r6
      have p6 := kk6.cells p5 (by simp; omega)
      obtain ⟨x7, a7, G7, hx7, ha7, e7, r7, K7, c7, l7, kk7⟩ := took_step (fun G hG => rdNum_at hG) r3'.out r6 K6 c6 ((full.set (i * 5) (.str (s.txt i))).set (i * 5 + 1) (.int .i64 (s.mrk i 0)))
      have hd7 : (some (numE (s.mrk i 1).toNat ++ (numE (s.mrk i 2).toNat ++ (numE (s.mrk i 3).toNat ++ R)))).bind numD = some ((s.mrk i 1).toNat, numE (s.mrk i 2).toNat ++ (numE (s.mrk i 3).toNat ++ R)) := numD_E (by omega) _
      rw [hd7] at hx7; subst hx7
      have ha7 : a7 = (s.mrk i 1).toNat := ha7
      have r7 : RdAt G7 (H.length + 1) (.sl (.at H.length 0 0) n n 1) (storeE s) (some (numE (s.mrk i 2).toNat ++ (numE (s.mrk i 3).toNat ++ R))) := r7
      have p7 := kk7.cells p6 (by simp; omega)
      obtain ⟨x8, a8, G8, hx8, ha8, e8, r8, K8, c8, l8, kk8⟩ := took_step (fun G hG => rdNum_at hG) r3'.out r7 K7 c7 (((full.set (i * 5) (.str (s.txt i))).set (i * 5 + 1) (.int .i64 (s.mrk i 0))).set (i * 5 + 1 + 1) (.int .i64 (s.mrk i 1)))
      have hd8 : (some (numE (s.mrk i 2).toNat ++ (numE (s.mrk i 3).toNat ++ R))).bind numD = some ((s.mrk i 2).toNat, numE (s.mrk i 3).toNat ++ R) := numD_E (by omega) _
      rw [hd8] at hx8; subst hx8
      have ha8 : a8 = (s.mrk i 2).toNat := ha8
      have r8 : RdAt G8 (H.length + 1) (.sl (.at H.length 0 0) n n 1) (storeE s) (some (numE (s.mrk i 3).toNat ++ R)) := r8
      have p8 := kk8.cells p7 (by simp; omega)
      obtain ⟨x9, a9, G9, hx9, ha9, e9, r9, K9, c9, l9, kk9⟩ := took_step (fun G hG => rdNum_at hG) r3'.out r8 K8 c8 ((((full.set (i * 5) (.str (s.txt i))).set (i * 5 + 1) (.int .i64 (s.mrk i 0))).set (i * 5 + 1 + 1) (.int .i64 (s.mrk i 1))).set (i * 5 + 1 + 2) (.int .i64 (s.mrk i 2)))
      have hd9 : (some (numE (s.mrk i 3).toNat ++ R)).bind numD = some ((s.mrk i 3).toNat, R) := numD_E (by omega) _
      rw [hd9] at hx9; subst hx9
      have ha9 : a9 = (s.mrk i 3).toNat := ha9
      have r9 : RdAt G9 (H.length + 1) (.sl (.at H.length 0 0) n n 1) (storeE s) (some R) := r9
      have p9 := kk9.cells p8 (by simp; omega)
      have v6 : ((a6 : Nat) : Int) = s.mrk i 0 := by omega
      have v7 : ((a7 : Nat) : Int) = s.mrk i 1 := by omega
      have v8 : ((a8 : Nat) : Int) = s.mrk i 2 := by omega
      have v9 : ((a9 : Nat) : Int) = s.mrk i 3 := by omega
      rw [v6] at e6
      rw [v7] at e7
      rw [v8] at e8
      rw [v9] at e9
      have l5 := hcells_lt c5
      have lp5 := hcells_lt p5
      have lp9 := hcells_lt p9
      obtain ⟨F5, hF5⟩ : ∃ F, F = ((((full.set (i * 5) (.str (s.txt i))).set (i * 5 + 1) (.int .i64 (s.mrk i 0))).set (i * 5 + 1 + 1) (.int .i64 (s.mrk i 1))).set (i * 5 + 1 + 2) (.int .i64 (s.mrk i 2))).set (i * 5 + 1 + 3) (.int .i64 (s.mrk i 3)) := ⟨_, rfl⟩
      have hF5l : F5.length = s.n * 5 := by rw [hF5]; simp [hfl]
      have hF5t : F5[i * 5]? = some (.str (s.txt i)) := by
        rw [hF5, List.getElem?_set_ne (by omega), List.getElem?_set_ne (by omega), List.getElem?_set_ne (by omega), List.getElem?_set_ne (by omega), List.getElem?_set_self (by omega)]
      have hF5c : ∀ j, j < i + 1 -> F5[j * 5]? = some (.str (s.txt j)) /\ ∀ k, k < 4 -> F5[j * 5 + 1 + k]? = some (.int .i64 (s.mrk j k)) := by
        intro j hj
        by_cases hji : j = i
        · subst hji
          refine ⟨hF5t, fun k hk => ?_⟩
          rw [hF5]
          simp only [List.getElem?_set,List.length_set,hfl]
          rcases (by omega : k = 0 \/ k = 1 \/ k = 2 \/ k = 3) with rfl | rfl | rfl | rfl
          · rw [if_neg (by omega), if_neg (by omega), if_neg (by omega), if_pos (by omega), if_pos (by omega)]
          · rw [if_neg (by omega), if_neg (by omega), if_pos (by omega), if_pos (by omega)]
          · rw [if_neg (by omega), if_pos (by omega), if_pos (by omega)]
          · rw [if_pos (by omega), if_pos (by omega)]
        · obtain ⟨a1, a2⟩ := hcs j (by omega)
          rw [hF5]
          refine ⟨?_, fun k hk => ?_⟩
          · rw [List.getElem?_set_ne (by omega), List.getElem?_set_ne (by omega), List.getElem?_set_ne (by omega), List.getElem?_set_ne (by omega), List.getElem?_set_ne (by omega)]; exact a1
          · rw [List.getElem?_set_ne (by omega), List.getElem?_set_ne (by omega), List.getElem?_set_ne (by omega), List.getElem?_set_ne (by omega), List.getElem?_set_ne (by omega)]; exact a2 k hk
      have hend : Hid (RdAt (G9.set G3.length (.cells 0 true F5)) (H.length + 1) (.sl (.at H.length 0 0) n n 1) (storeE s) (some (tailE s (i + 1) (s.n - (i + 1)))) /\ Keeps [H.length + 1] G3 (G9.set G3.length (.cells 0 true F5)) /\
          hcells (G9.set G3.length (.cells 0 true F5)) (G3.length + 1) 0 = some (true, [.int .i64 s.a, .int .i64 s.b, .bool s.fz, .sl (.at G3.length 0 0) s.n cp zz]) /\ hcells (G9.set G3.length (.cells 0 true F5)) G3.length 0 = some (true, F5)) :=
        ⟨by rw [<- hR]; exact r3'.out.grow r9 fun i hi => List.getElem?_set_ne (by omega), K9.set (.inr (Nat.le_refl _)) _, by rw [hcells_set_ne (by omega)]; exact p9, hcells_set_eq l9⟩
      have hF5c' := Hid.mk hF5c
      have hoff : i * 5 + 1 + 3 < full.length := by rw [hfl]; omega
      have z6 : ¬ (1099511627776 : Int) < s.mrk i 0 := by omega
      have z7 : ¬ (1099511627776 : Int) < s.mrk i 1 := by omega
      have z8 : ¬ (1099511627776 : Int) < s.mrk i 2 := by omega
      have z9 : ¬ (1099511627776 : Int) < s.mrk i 3 := by omega
      have hF5s := hF5.symm
      clear hF5 hF5c hcs hrd hkG r5 r6 r7 r8 r9 k5 kk6 kk7 kk8 kk9 K5 K6 K7 K8 K9 hd5 hd6 hd7 hd8 hd9 htail hR ha6 ha7 ha8 ha9 v6 v7 v8 v9 hsz htx
      (repeat' (first | (simp -implicitDefEqProofs (maxSteps := 1000000) (disch := first | assumption | omega | (simp only [ZDI]; omega)) only [*,lenV,G44,Za,Zb,Zc,Zd,Ze,Zf,Zg,Zh,Zi,Zj,Zk,Zl,Zm,Zn,Zo,Ja,Jb,Jc,J6,Jd,Je,J7,J8,Jf,Jg,Jh,Ji,Jj,Jk,J9,Jl,Jm,wr,Jn,JA,JB,Jo,Jp,Jq,Jr,Js,Jt,Ju,Jv,Jw,Jx,Jy,Jz,J0,J1,J2,J3,J4,J5,reduceCtorEq,JC,JD,JE,JF,JG,JH,JI,JJ]) | ((with_reducible (first | apply Ok.br | apply Ok.gd | apply Ok.ld)) <;> (intro g; (try simp only [ZGS] at g); try (exfalso; omega)))))
      refine Ok.unroll ?_
      (repeat' (first | (simp -implicitDefEqProofs (maxSteps := 1000000) (disch := first | assumption | omega | (simp only [ZDI]; omega)) only [*,lenV,G44,Za,Zb,Zc,Zd,Ze,Zf,Zg,Zh,Zi,Zj,Zk,Zl,Zm,Zn,Zo,Ja,Jb,Jc,J6,Jd,Je,J7,J8,Jf,Jg,Jh,Ji,Jj,Jk,J9,Jl,Jm,wr,Jn,JA,JB,Jo,Jp,Jq,Jr,Js,Jt,Ju,Jv,Jw,Jx,Jy,Jz,J0,J1,J2,J3,J4,J5,reduceCtorEq,JC,JD,JE,JF,JG,JH,JI,JJ]) | ((with_reducible (first | apply Ok.br | apply Ok.gd | apply Ok.ld)) <;> (intro g; (try simp only [ZGS] at g); try (exfalso; omega)))))
      refine Ok.unroll ?_
      (repeat' (first | (simp -implicitDefEqProofs (maxSteps := 1000000) (disch := first | assumption | omega | (simp only [ZDI]; omega)) only [*,lenV,G44,Za,Zb,Zc,Zd,Ze,Zf,Zg,Zh,Zi,Zj,Zk,Zl,Zm,Zn,Zo,Ja,Jb,Jc,J6,Jd,Je,J7,J8,Jf,Jg,Jh,Ji,Jj,Jk,J9,Jl,Jm,wr,Jn,JA,JB,Jo,Jp,Jq,Jr,Js,Jt,Ju,Jv,Jw,Jx,Jy,Jz,J0,J1,J2,J3,J4,J5,reduceCtorEq,JC,JD,JE,JF,JG,JH,JI,JJ]) | ((with_reducible (first | apply Ok.br | apply Ok.gd | apply Ok.ld)) <;> (intro g; (try simp only [ZGS] at g); try (exfalso; omega)))))
      refine Ok.unroll ?_
      (repeat' (first | (simp -implicitDefEqProofs (maxSteps := 1000000) (disch := first | assumption | omega | (simp only [ZDI]; omega)) only [*,lenV,G44,Za,Zb,Zc,Zd,Ze,Zf,Zg,Zh,Zi,Zj,Zk,Zl,Zm,Zn,Zo,Ja,Jb,Jc,J6,Jd,Je,J7,J8,Jf,Jg,Jh,Ji,Jj,Jk,J9,Jl,Jm,wr,Jn,JA,JB,Jo,Jp,Jq,Jr,Js,Jt,Ju,Jv,Jw,Jx,Jy,Jz,J0,J1,J2,J3,J4,J5,reduceCtorEq,JC,JD,JE,JF,JG,JH,JI,JJ]) | ((with_reducible (first | apply Ok.br | apply Ok.gd | apply Ok.ld)) <;> (intro g; (try simp only [ZGS] at g); try (exfalso; omega)))))
      refine Ok.unroll ?_
      (repeat' (first | (simp -implicitDefEqProofs (maxSteps := 1000000) (disch := first | assumption | omega | (simp only [ZDI]; omega)) only [*,lenV,G44,Za,Zb,Zc,Zd,Ze,Zf,Zg,Zh,Zi,Zj,Zk,Zl,Zm,Zn,Zo,Ja,Jb,Jc,J6,Jd,Je,J7,J8,Jf,Jg,Jh,Ji,Jj,Jk,J9,Jl,Jm,wr,Jn,JA,JB,Jo,Jp,Jq,Jr,Js,Jt,Ju,Jv,Jw,Jx,Jy,Jz,J0,J1,J2,J3,J4,J5,reduceCtorEq,JC,JD,JE,JF,JG,JH,JI,JJ]) | ((with_reducible (first | apply Ok.br | apply Ok.gd | apply Ok.ld)) <;> (intro g; (try simp only [ZGS] at g); try (exfalso; omega)))))
      refine Ok.unroll ?_
      (repeat' (first | (simp -implicitDefEqProofs (maxSteps := 1000000) (disch := first | assumption | omega | (simp only [ZDI]; omega)) only [*,lenV,G44,Za,Zb,Zc,Zd,Ze,Zf,Zg,Zh,Zi,Zj,Zk,Zl,Zm,Zn,Zo,Ja,Jb,Jc,J6,Jd,Je,J7,J8,Jf,Jg,Jh,Ji,Jj,Jk,J9,Jl,Jm,wr,Jn,JA,JB,Jo,Jp,Jq,Jr,Js,Jt,Ju,Jv,Jw,Jx,Jy,Jz,J0,J1,J2,J3,J4,J5,reduceCtorEq,JC,JD,JE,JF,JG,JH,JI,JJ]) | ((with_reducible (first | apply Ok.br | apply Ok.gd | apply Ok.ld)) <;> (intro g; (try simp only [ZGS] at g); try (exfalso; omega)))))
      exact Turn.next (s.n - (i + 1)) (by omega) ⟨rfl, i + 1, F5, rfl, by omega, rfl, rfl, hend.out.1, hend.out.2.1, hend.out.2.2.1, hend.out.2.2.2, hF5l, hF5c'.out⟩
    · have hlt' : ¬ (i : Int) < (s.n : Int) := by omega
      have hin : i = s.n := by omega
      have hr2 : Hid (RdAt G (H.length + 1) (.sl (.at H.length 0 0) n n 1) (storeE s) (some [])) := ⟨by rw [hin, Nat.sub_self, tailE] at hrd; exact hrd⟩
      have hk2 := Hid.mk hkG
      have hcs2 : Hid (∀ j, j < s.n -> full[j * 5]? = some (.str (s.txt j)) /\ ∀ k, k < 4 -> full[j * 5 + 1 + k]? = some (.int .i64 (s.mrk j k))) := ⟨by rw [<- hin]; exact hcs⟩
      clear hrd hkG hcs hin
      (repeat' (first | (simp -implicitDefEqProofs (maxSteps := 1000000) (disch := first | assumption | omega | (simp only [ZDI]; omega)) only [*,lenV,G44,Za,Zb,Zc,Zd,Ze,Zf,Zg,Zh,Zi,Zj,Zk,Zl,Zm,Zn,Zo,Ja,Jb,Jc,J6,Jd,Je,J7,J8,Jf,Jg,Jh,Ji,Jj,Jk,J9,Jl,Jm,wr,Jn,JA,JB,Jo,Jp,Jq,Jr,Js,Jt,Ju,Jv,Jw,Jx,Jy,Jz,J0,J1,J2,J3,J4,J5,reduceCtorEq,JC,JD,JE,JF,JG,JH,JI,JJ]) | ((with_reducible (first | apply Ok.br | apply Ok.gd | apply Ok.ld)) <;> (intro g; (try simp only [ZGS] at g); try (exfalso; omega)))))
      exact Turn.exit ⟨rfl, rfl, full, rfl, hr2.out, hk2.out, hp, hc, hfl, hcs2.out⟩
  · intro y ⟨e', l', G⟩ hW ⟨hy, full, kl, hrd, hkG, hp, hc, hfl, hcs⟩
    dsimp only at hW kl hrd hkG hp hc
    subst l' hy
    rw [hW.spread]
    clear hW e1 e2 e3 eN e4 eBad q1 q2
    simp only [spread_t,spread_f,spread_n,Nat.zero_add,Nat.reduceAdd]
    have eE := rdEnd_at hrd
    have hq := Hid.mk (hQ'.out (.tup [.ptr (G3.length + 1) 0 0, .int .i64 0], G) ⟨G3.length + 1, G3.length, rfl, ⟨cp, zz, full, hp, hc, ⟨hfl, hcs⟩, by omega, ⟨hok'.out, hcp, hz5⟩⟩, ⟨by show H.length <= G.length; have := hkG.1; have := hK3'.out.1; omega, fun i hi _ => by
      show G[i]? = H[i]?
      rw [hkG.2 i (by omega) (by simp; omega)]; exact hK3'.out.2 i hi (by simp)⟩, by omega, by omega⟩)
    clear hQ' hrd hkG hp hc hcs
    (repeat' (first | (simp -implicitDefEqProofs (maxSteps := 1000000) (disch := first | assumption | omega | (simp only [ZDI]; omega)) only [*,G44,Za,Zb,Zc,Zd,Ze,Zf,Zg,Zh,Zi,Zj,Zk,Zl,Zm,Zn,Zo,Ja,Jb,Jc,J6,Jd,Je,J7,J8,Jf,Jg,Jh,Ji,Jj,Jk,J9,Jl,Jm,wr,Jn,JA,JB,Jo,Jp,Jq,Jr,Js,Jt,Ju,Jv,Jw,Jx,Jy,Jz,J0,J1,J2,J3,J4,J5,reduceCtorEq,JC,JD,JE,JF,JG,JH,JI,JJ]) | ((with_reducible (first | apply Ok.br | apply Ok.gd | apply Ok.ld)) <;> (intro g; (try simp only [ZGS] at g); try (exfalso; omega)))))
    exact hq.out
end Go.Ev
set_option maxRecDepth 100000
namespace Go.Ev
open Go.Proofs
abbrev CellT := ByteArray × List Nat
def markD : Dec Nat := fun l => (numD l).bind fun x => if 1099511627776 < x.1 then none else some x
def cellD : Dec CellT := fun l => (textD l).bind fun x => if textB x.1 = false then none else (manyD markD 4 x.2).bind fun y => some ((x.1, y.1), y.2)
def stoOf (a b : Nat) (fz : Bool) (cs : List CellT) : Sto := ⟨a, b, fz, fun i => (cs.getD i (⟨#[]⟩, [])).1, fun i k => (((cs.getD i (⟨#[]⟩, [])).2.getD k 0 : Nat) : Int)⟩
def stoD (l : List UInt8) : Option Sto := (numD l).bind fun x1 => (numD x1.2).bind fun x2 => (boolD x2.2).bind fun x3 => if 256 < x2.1 \/ x2.1 <= x1.1 then none else (manyD cellD (x2.1 - x1.1) x3.2).bind fun x4 => if x4.2 = [] then some (stoOf x1.1 x2.1 x3.1 x4.1) else none
def cellB (c : CellT) : List UInt8 := textE c.1 ++ c.2.flatMap numE
theorem manyD_canon {α : Type} {d : Dec α} {e : α -> List UInt8} {P : α -> Prop} (h : ∀ l x r, d l = some (x, r) -> l = e x ++ r /\ P x) : ∀ (n : Nat) (l : List UInt8) (xs : List α) (r : List UInt8), manyD d n l = some (xs, r) -> l = xs.flatMap e ++ r /\ (∀ x ∈ xs, P x) /\ xs.length = n
  | 0, l, xs, r, hm => by cases hm; simp
  | n + 1, l, xs, r, hm => by
    rw [manyD] at hm
    cases hd : d l with
    | none => rw [hd] at hm; cases hm
    | some y =>
      rw [hd, Option.bind_some] at hm
      obtain ⟨e1, p1⟩ := h l y.1 y.2 hd
      cases hk : manyD d n y.2 with
      | none => rw [hk] at hm; cases hm
      | some z =>
        rw [hk] at hm
        cases hm
        obtain ⟨e2, p2, p3⟩ := manyD_canon h n y.2 z.1 z.2 hk
        refine ⟨by rw [List.flatMap_cons, List.append_assoc, <- e2, <- e1], fun x hx => ?_, by simp [p3]⟩
        rcases List.mem_cons.1 hx with rfl | hx
        · exact p1
        · exact p2 x hx
theorem markD_canon (l : List UInt8) (x : Nat) (r : List UInt8) (h : markD l = some (x, r)) : l = numE x ++ r /\ x <= 1099511627776 := by
  unfold markD at h
  cases hn : numD l with
  | none => rw [hn] at h; cases h
  | some y =>
    rw [hn, Option.bind_some] at h
    split at h
    · cases h
    · cases h
      exact ⟨(numD_canon hn).1, by omega⟩
def CellOk (c : CellT) : Prop := textB c.1 = true /\ c.2.length = 4 /\ ∀ m ∈ c.2, m <= 1099511627776
theorem cellD_canon (l : List UInt8) (c : CellT) (r : List UInt8) (h : cellD l = some (c, r)) : l = cellB c ++ r /\ CellOk c := by
  unfold cellD at h
  cases ht : textD l with
  | none => rw [ht] at h; cases h
  | some x =>
    rw [ht, Option.bind_some] at h
    split at h
    · cases h
    · rename_i hb
      cases hm : manyD markD 4 x.2 with
      | none => rw [hm] at h; cases h
      | some y =>
        rw [hm] at h
        cases h
        obtain ⟨e1, _⟩ := textD_canon (s := x.1) (r := x.2) ht
        obtain ⟨e2, p2, p3⟩ := manyD_canon markD_canon 4 x.2 y.1 y.2 hm
        refine ⟨?_, by simpa using hb, p3, p2⟩
        unfold cellB
        rw [List.append_assoc]
        show l = textE x.1 ++ (y.1.flatMap numE ++ y.2)
        rw [<- e2]; exact e1
theorem cells_bytes {a b : Nat} {fz : Bool} : ∀ (cs : List CellT), (∀ c ∈ cs, CellOk c) -> ∀ m, m <= cs.length -> cellsE (stoOf a b fz cs) m = (cs.take m).flatMap cellB
  | cs, h, 0, _ => by simp [cellsE]
  | cs, h, m + 1, hm => by
    rw [cellsE, cells_bytes cs h m (by omega), List.take_add_one]
    obtain ⟨c, hc⟩ : ∃ c, cs[m]? = some c := ⟨_, List.getElem?_eq_getElem (by omega)⟩
    rw [hc, Option.toList_some, List.flatMap_append]
    congr 1
    obtain ⟨h1, h2, h3⟩ := h c (List.mem_of_getElem? hc)
    have hg : cs.getD m (⟨#[]⟩, []) = c := by rw [List.getD_eq_getElem?_getD, hc]; rfl
    obtain ⟨t, ms⟩ := c
    match ms, h2 with
    | [x0, x1, x2, x3], _ =>
      simp only [cellE,stoOf,hg,List.getD_cons_zero,List.getD_cons_succ,Int.toNat_natCast,cellB,List.flatMap_cons,List.flatMap_nil,List.append_nil,List.append_assoc]
theorem stoD_canon {l : List UInt8} {s : Sto} (h : stoD l = some s) : storeE s = l /\ s.Ok /\ s.Good := by
  unfold stoD at h
  cases h1 : numD l with
  | none => rw [h1] at h; cases h
  | some x1 =>
    rw [h1, Option.bind_some] at h
    cases h2 : numD x1.2 with
    | none => rw [h2] at h; cases h
    | some x2 =>
      rw [h2, Option.bind_some] at h
      cases h3 : boolD x2.2 with
      | none => rw [h3] at h; cases h
      | some x3 =>
        rw [h3, Option.bind_some] at h
        split at h
        · cases h
        · rename_i hb
          cases h4 : manyD cellD (x2.1 - x1.1) x3.2 with
          | none => rw [h4] at h; cases h
          | some x4 =>
            rw [h4, Option.bind_some] at h
            split at h
            · rename_i hr
              cases h
              obtain ⟨e1, _⟩ := numD_canon (m := x1.1) (r := x1.2) h1
              obtain ⟨e2, _⟩ := numD_canon (m := x2.1) (r := x2.2) h2
              have e3 := boolD_canon (b := x3.1) (r := x3.2) h3
              obtain ⟨e4, p4, l4⟩ := manyD_canon cellD_canon _ x3.2 x4.1 x4.2 h4
              refine ⟨?_, ⟨by show (0 : Int) <= _; exact Int.natCast_nonneg _, by show ((x1.1 : Nat) : Int) < ((x2.1 : Nat) : Int); omega, by show ((x2.1 : Nat) : Int) <= 256; omega⟩, ⟨fun i => ?_, fun i k => ?_⟩⟩
              · have hn : (stoOf x1.1 x2.1 x3.1 x4.1).n = x4.1.length := by
                  show (((x2.1 : Nat) : Int) - ((x1.1 : Nat) : Int)).toNat = _
                  rw [l4]; omega
                unfold storeE
                rw [hn, cells_bytes x4.1 p4 _ (Nat.le_refl _), List.take_length]
                rw [hr, List.append_nil] at e4
                show numE ((x1.1 : Nat) : Int).toNat ++ numE ((x2.1 : Nat) : Int).toNat ++ [if x3.1 then 1 else 0] ++ _ = l
                rw [Int.toNat_natCast, Int.toNat_natCast, <- e4, List.append_assoc, List.append_assoc, List.cons_append, List.nil_append, <- e3, <- e2, <- e1]
              · show textB (x4.1.getD i (⟨#[]⟩, [])).1 = true
                rw [List.getD_eq_getElem?_getD]
                cases hx : x4.1[i]? with
                | none => exact textB_0 rfl
                | some c => exact (p4 c (List.mem_of_getElem? hx)).1
              · show (0 : Int) <= (((x4.1.getD i (⟨#[]⟩, [])).2.getD k 0 : Nat) : Int) /\ (((x4.1.getD i (⟨#[]⟩, [])).2.getD k 0 : Nat) : Int) <= 1099511627776
                have hle : (x4.1.getD i (⟨#[]⟩, [])).2.getD k 0 <= 1099511627776 := by
                  rw [List.getD_eq_getElem?_getD, List.getD_eq_getElem?_getD]
                  cases hx : x4.1[i]? with
                  | none => simp
                  | some c =>
                    simp only [Option.getD_some]
                    cases hy : c.2[k]? with
                    | none => simp
                    | some m => exact (p4 c (List.mem_of_getElem? hx)).2.2 m (List.mem_of_getElem? hy)
                omega
            · cases h
end Go.Ev
set_option maxRecDepth 100000
namespace Go.Ev
open Go.Ev renaming exPure -> Ja, ofValue -> Jb, cellsV -> Jc, load -> Jd, store -> Je, binOp -> Jf, intOp -> Jg, rdV -> Jh, vsame -> Ji, vsames -> Jj, makeSliceV -> Jk, resV -> Jl, isCell -> Jm, nilCheckV -> Jn, allV -> Jo, builtinV -> Jp, lenV -> Jq, indexAddrV -> Jr, unOp -> Js, minmaxV -> Jt, minmax -> Ju, sliceV -> Jv, asInt -> Jw, appendV -> Jx, forkB -> Jy, roY -> Jz, rwB -> J0, copyV -> J1, clearV -> J2, convV -> J3, sliceCells -> J4, shift -> J5
open Bool renaming true -> BT, false -> BF
open Nat renaming reduceEqDiff -> J6, reduceLT -> J7, reduceAdd -> J8, reduceBEq -> J9, reduceSub -> JA, reduceMul -> JB, reduceLeDiff -> JJ
open Int renaming reduceLT -> JC, reduceLE -> JD, reduceAdd -> JE, reduceSub -> JF, reduceNeg -> JG, reduceToNat -> JH, reduceEq -> JI
open Go.Proofs
def OffAt (H : Heap) (v : V) (l : List UInt8) : Prop := ∃ a cap z, v = .sl a l.length cap z /\ l.length <= cap /\ (l = [] \/ ∃ b o rw full, a = .at b 0 o /\ z = 0 /\ hcells H b 0 = some (rw, full) /\ o + l.length <= full.length /\ (full.drop o).take l.length = bV l)
theorem OffAt.keep {H H' : Heap} {v : V} {l : List UInt8} (h : OffAt H v l) (hk : KeepC H H') : OffAt H' v l := by
  obtain ⟨a, cap, z, e, h1, h2⟩ := h
  refine ⟨a, cap, z, e, h1, h2.imp id ?_⟩
  rintro ⟨b, o, rw, full, h3, h4, h5, h6, h7⟩
  exact ⟨b, o, rw, full, h3, h4, hk.2 _ _ _ h5, h6, h7⟩
theorem off_get {full : List V} {o : Nat} {l : List UInt8} (h : (full.drop o).take l.length = bV l) {i : Nat} {c : UInt8} (hc : l[i]? = some c) : full[o + i]? = some (.int .u8 (c.toNat : Nat)) := by
  have hlt := (List.getElem?_eq_some_iff.1 hc).1
  have h1 := congrArg (fun x => x[i]?) h
  simp only [List.getElem?_take,if_pos hlt,List.getElem?_drop] at h1
  rw [h1]; unfold bV; rw [List.getElem?_map, hc]; rfl
theorem off_take {full : List V} {o : Nat} {l : List UInt8} (h : (full.drop o).take l.length = bV l) {n : Nat} (hn : n <= l.length) : (full.drop o).take n = bV (l.take n) := by
  have h1 := congrArg (fun x => x.take n) h
  simp only [List.take_take,Nat.min_eq_left hn] at h1
  rw [h1, bV_cut0]
theorem off_drop {full : List V} {o : Nat} {l : List UInt8} (h : (full.drop o).take l.length = bV l) (k : Nat) : (full.drop (o + k)).take (l.length - k) = bV (l.drop k) := by
  have h1 := congrArg (fun x => x.drop k) h
  simp only [List.drop_take,List.drop_drop] at h1
  rw [h1]; unfold bV; rw [List.map_drop]
theorem off_mid {full : List V} {o : Nat} {l : List UInt8} (h : (full.drop o).take l.length = bV l) {k n : Nat} (hn : k + n <= l.length) : (full.drop (o + k)).take n = bV ((l.drop k).take n) := by
  have h1 := off_drop h k
  have h2 := congrArg (fun x => x.take n) h1
  simp only [List.take_take,Nat.min_eq_left (show n <= l.length - k by omega)] at h2
  rw [h2, bV_cut0]
def tkN (l : List UInt8) : Nat × Nat := match numD l with | some x => (x.1, l.length - x.2.length) | none => (0, 0)
def tkT (l : List UInt8) : ByteArray × Nat := match textD l with | some x => (x.1, l.length - x.2.length) | none => (⟨#[]⟩, 0)
set_option maxHeartbeats 16000000 in
theorem takeNum_at {H : Heap} {v : V} {l : List UInt8} (hv : OffAt H v l) (hl : l.length <= 1000000) : Ev.Ok (D X (.fn 76 []) [v] H) fun y => ∃ H', y = (.tup [.int .u64 ((tkN l).1 : Nat), .int .i64 ((tkN l).2 : Nat)], H') /\ Keeps [] H H' := by
  refine Ok.aim fun Q hQ => ?_
  have hQ' := Hid.mk hQ
  clear hQ
  obtain ⟨a, cap, z, rfl, hcap, hb⟩ := hv
  have hb' := Hid.mk hb
  clear hb
  (refine Ok.body body76 pin76 ?_; simp only [c76,Try.f76,Option.getD_some,nslot76,List.append_nil,List.map,List.replicate,List.length_cons,List.length_nil,Nat.reduceAdd,Nat.reduceSub,List.cons_append,List.nil_append])
  (repeat' (first | (simp -implicitDefEqProofs (maxSteps := 1000000) (disch := first | assumption | omega | (simp only [ZDI]; omega)) only [*,lenV,G76,Za,Zb,Zc,Zd,Ze,Zf,Zg,Zh,Zi,Zj,Zk,Zl,Zm,Zn,Zo,Ja,Jb,Jc,J6,Jd,Je,J7,J8,Jf,Jg,Jh,Ji,Jj,Jk,J9,Jl,Jm,wr,Jn,JA,JB,Jo,Jp,Jq,Jr,Js,Jt,Ju,Jv,Jw,Jx,Jy,Jz,J0,J1,J2,J3,J4,J5,reduceCtorEq,JC,JD,JE,JF,JG,JH,JI,JJ]) | ((with_reducible (first | apply Ok.br | apply Ok.gd | apply Ok.ld)) <;> (intro g; (try simp only [ZGS] at g); try (exfalso; omega)))))
  refine Ok.loop [BF, BF, BT, BT, BT, BT, BT, BT, BT, BT, BT, BT, BT, BT, BT, BT, BT, BT, BT, BT, BT, BT, BT, BT, BT, BT, BT, BT, BT, BT, BT, BT, BT, BT, BT, BT, BT, BT, BT, BT, BT, BT, BT, BT] (fun k s2 => ∃ (i : Nat), k = l.length - i /\ i <= l.length /\ tv s2.e 4 = .v (.int .u64 ((valE (l.take i) : Nat) : Int)) /\ tv s2.e 5 = .v (.int .i64 i) /\ s2.l = [] /\ s2.h = H /\ (∀ j c, j < i -> l[j]? = some c -> 128 <= c.toNat))
    (fun y s2 => s2.l = [] /\ Keeps [] H s2.h /\ ((y = .exit 0 /\ numD l = none) \/ (y = .ret /\ tv s2.e 2 = .v (.int .u64 ((tkN l).1 : Nat)) /\ tv s2.e 3 = .v (.int .i64 ((tkN l).2 : Nat)))))
    (l.length - 0) ⟨0, rfl, Nat.zero_le _, rfl, rfl, rfl, rfl, fun j c h => by omega⟩ ?_ ?_
  · intro k ⟨e', l', G⟩ hW ⟨i, hm, hi, h4, h5, kl, kh, hge⟩
    dsimp only at hW h4 h5 kl kh
    subst l' G
    rw [hW.spread]
    simp only [spread_t,spread_f,spread_n,Nat.zero_add,Nat.reduceAdd,h4,h5]
    clear hW hQ'
    by_cases hlt : i < l.length /\ i < 10
    · obtain ⟨hlt, h10⟩ := hlt
      have hlt' : (i : Int) < (l.length : Int) := by omega
      have h10' : (i : Int) < 10 := by omega
      rcases hb'.out with hb | ⟨b, o, rw, full, rfl, rfl, hbc, hbl, hbt⟩
      · rw [hb] at hlt; simp at hlt
      · by_cases hbig : 144115188075855872 <= valE (l.take i)
        · have hbig' : (144115188075855872 : Int) <= ((valE (l.take i) : Nat) : Int) := by omega
          have hnone := take_b hge hbig
          have hres : Hid (tkN l = (0, 0)) := ⟨by unfold tkN; rw [hnone]⟩
          clear hge hbc hbt hnone hbig
          (repeat' (first | (simp -implicitDefEqProofs (maxSteps := 1000000) (disch := first | assumption | omega | (simp only [ZDI]; omega)) only [*,lenV,G76,Za,Zb,Zc,Zd,Ze,Zf,Zg,Zh,Zi,Zj,Zk,Zl,Zm,Zn,Zo,Ja,Jb,Jc,J6,Jd,Je,J7,J8,Jf,Jg,Jh,Ji,Jj,Jk,J9,Jl,Jm,wr,Jn,JA,JB,Jo,Jp,Jq,Jr,Js,Jt,Ju,Jv,Jw,Jx,Jy,Jz,J0,J1,J2,J3,J4,J5,reduceCtorEq,JC,JD,JE,JF,JG,JH,JI,JJ]) | ((with_reducible (first | apply Ok.br | apply Ok.gd | apply Ok.ld)) <;> (intro g; (try simp only [ZGS] at g); try (exfalso; omega)))))
          exact Turn.ret ⟨rfl, rfl, .refl _ _, .inr ⟨rfl, by rw [hres.out]; rfl, by rw [hres.out]; rfl⟩⟩
        · have hbig' : ¬ (144115188075855872 : Int) <= ((valE (l.take i) : Nat) : Int) := by omega
          obtain ⟨c, hc⟩ : ∃ c, l[i]? = some c := ⟨_, List.getElem?_eq_getElem hlt⟩
          have hcell := off_get hbt hc
          have hc256 := UInt8.toNat_lt c
          have g1 : 0 <= (i : Int) /\ (i : Int) < (l.length : Int) := by omega
          have hnext := valE_take hc
          obtain ⟨n, hn⟩ : ∃ n, n = valE (l.take i) := ⟨_, rfl⟩
          rw [<- hn] at hbig' hbig hnext ⊢
          obtain ⟨N, hN⟩ : ∃ N, N = n * 128 + c.toNat % 128 := ⟨_, rfl⟩
          rw [<- hN] at hnext
          have hN64 : N < 18446744073709551616 := by omega
          have f1 : ((c.toNat : Nat) : Int).tmod 128 = ((c.toNat % 128 : Nat) : Int) := by rw [Int.tmod_eq_emod_of_nonneg (by omega)]; omega
          have f2 : IntKind.u64.wrap ((c.toNat % 128 : Nat) : Int) = ((c.toNat % 128 : Nat) : Int) := wrapU (by omega)
          have f3 : IntKind.u64.wrap ((n : Int) * 128) = ((n * 128 : Nat) : Int) := by rw [wrapU (by omega)]; omega
          have f4 : IntKind.u64.wrap (((n * 128 : Nat) : Int) + ((c.toNat % 128 : Nat) : Int)) = (N : Int) := by rw [wrapU (by omega)]; omega
          by_cases h128 : c.toNat < 128
          · have h128' : ((c.toNat : Nat) : Int) < 128 := by omega
            obtain ⟨⟨v1, G1⟩, e1, b1, g1', z1, hv1, hz1, hc1, hb1, hk1⟩ := rNum_at (H := H) (n := N) hN64
            dsimp only at hv1 hc1 hk1
            subst hv1
            have hcut := off_take hbt (n := i + 1) (by omega)
            have hbc1 := hk1.cells hbc (by simp)
            have hpos := numE_pos N
            have hne : ¬ (numE N).length = 0 := by omega
            have ht1 := toBytes_bV (numE N)
            have ht2 := toBytes_bV (l.take (i + 1))
            have hi1 : (i : Int) + 1 = ((i + 1 : Nat) : Int) := by omega
            have hle1 : i + 1 <= l.length := by omega
            have hcapn : ¬ cap = 0 := by omega
            have hblen : o + (i + 1) <= full.length := by omega
            by_cases heq : numE N = l.take (i + 1)
            · have hse : strEq ⟨(numE N).toArray⟩ ⟨(l.take (i + 1)).toArray⟩ = true := by rw [heq]; exact strEq_refl _
              have hres : Hid (tkN l = (N, i + 1)) := ⟨by unfold tkN; rw [take_d hN64 heq]; simp only [List.length_drop,Prod.mk.injEq,true_and]; omega⟩
              have hk1' := Hid.mk hk1
              clear hge hbt hc hn hN hk1 heq hnext
              (repeat' (first | (simp -implicitDefEqProofs (maxSteps := 1000000) (disch := first | assumption | omega | (simp only [ZDI]; omega)) only [*,lenV,bV_take,bV_len,List.drop_zero,Nat.zero_add,Nat.add_zero,Nat.mul_one,Nat.sub_zero,SA.add,optArr_s,optArr_n,Array.toList_append,strEq_refl,G76,Za,Zb,Zc,Zd,Ze,Zf,Zg,Zh,Zi,Zj,Zk,Zl,Zm,Zn,Zo,Ja,Jb,Jc,J6,Jd,Je,J7,J8,Jf,Jg,Jh,Ji,Jj,Jk,J9,Jl,Jm,wr,Jn,JA,JB,Jo,Jp,Jq,Jr,Js,Jt,Ju,Jv,Jw,Jx,Jy,Jz,J0,J1,J2,J3,J4,J5,reduceCtorEq,JC,JD,JE,JF,JG,JH,JI,JJ]) | ((with_reducible (first | apply Ok.br | apply Ok.gd | apply Ok.ld)) <;> (intro g; (try simp only [ZGS] at g); try (exfalso; omega)))))
              exact Turn.ret ⟨rfl, rfl, hk1'.out, .inr ⟨rfl, by rw [hres.out]; rfl, by rw [hres.out]; rfl⟩⟩
            · have hse : strEq ⟨(numE N).toArray⟩ ⟨(l.take (i + 1)).toArray⟩ = false := by
                unfold strEq
                exact decide_eq_false fun e => heq (by simpa using e)
              have hnone : numD l = none := take_c hge hc h128 (by rw [<- hn, <- hN]; exact heq)
              have hres : Hid (tkN l = (0, 0)) := ⟨by unfold tkN; rw [hnone]⟩
              have hk1' := Hid.mk hk1
              clear hge hbt hc hn hN hk1 heq hnext hnone
              (repeat' (first | (simp -implicitDefEqProofs (maxSteps := 1000000) (disch := first | assumption | omega | (simp only [ZDI]; omega)) only [*,lenV,bV_take,bV_len,List.drop_zero,Nat.zero_add,Nat.add_zero,Nat.mul_one,Nat.sub_zero,SA.add,optArr_s,optArr_n,Array.toList_append,strEq_refl,G76,Za,Zb,Zc,Zd,Ze,Zf,Zg,Zh,Zi,Zj,Zk,Zl,Zm,Zn,Zo,Ja,Jb,Jc,J6,Jd,Je,J7,J8,Jf,Jg,Jh,Ji,Jj,Jk,J9,Jl,Jm,wr,Jn,JA,JB,Jo,Jp,Jq,Jr,Js,Jt,Ju,Jv,Jw,Jx,Jy,Jz,J0,J1,J2,J3,J4,J5,reduceCtorEq,JC,JD,JE,JF,JG,JH,JI,JJ]) | ((with_reducible (first | apply Ok.br | apply Ok.gd | apply Ok.ld)) <;> (intro g; (try simp only [ZGS] at g); try (exfalso; omega)))))
              exact Turn.ret ⟨rfl, rfl, hk1'.out, .inr ⟨rfl, by rw [hres.out]; rfl, by rw [hres.out]; rfl⟩⟩
          · have h128' : ¬ ((c.toNat : Nat) : Int) < 128 := by omega
            have hge' : Hid (∀ j c, j < i + 1 -> l[j]? = some c -> 128 <= c.toNat) := ⟨fun j c' hj hc' => by
              rcases (by omega : j < i \/ j = i) with h | rfl
              · exact hge j c' h hc'
              · rw [hc] at hc'; cases hc'; omega⟩
            have hnx := Hid.mk hnext
            clear hge hbt hc hn hN hnext
            (repeat' (first | (simp -implicitDefEqProofs (maxSteps := 1000000) (disch := first | assumption | omega | (simp only [ZDI]; omega)) only [*,lenV,Nat.zero_add,Nat.add_zero,Nat.mul_one,G76,Za,Zb,Zc,Zd,Ze,Zf,Zg,Zh,Zi,Zj,Zk,Zl,Zm,Zn,Zo,Ja,Jb,Jc,J6,Jd,Je,J7,J8,Jf,Jg,Jh,Ji,Jj,Jk,J9,Jl,Jm,wr,Jn,JA,JB,Jo,Jp,Jq,Jr,Js,Jt,Ju,Jv,Jw,Jx,Jy,Jz,J0,J1,J2,J3,J4,J5,reduceCtorEq,JC,JD,JE,JF,JG,JH,JI,JJ]) | ((with_reducible (first | apply Ok.br | apply Ok.gd | apply Ok.ld)) <;> (intro g; (try simp only [ZGS] at g); try (exfalso; omega)))))
            exact Turn.next (l.length - (i + 1)) (by omega) ⟨rfl, i + 1, rfl, by omega, by rw [hnx.out]; rfl, rfl, rfl, rfl, hge'.out⟩
    · have hnone : numD l = none := take_a hge (by omega)
      have hnone' := Hid.mk hnone
      rcases (by omega : ¬ (i : Int) < (l.length : Int) \/ ((i : Int) < (l.length : Int) /\ ¬ (i : Int) < 10)) with hx | ⟨hx, hy⟩
      all_goals
        clear hge hlt hnone
        (repeat' (first | (simp -implicitDefEqProofs (maxSteps := 1000000) (disch := first | assumption | omega | (simp only [ZDI]; omega)) only [*,lenV,G76,Za,Zb,Zc,Zd,Ze,Zf,Zg,Zh,Zi,Zj,Zk,Zl,Zm,Zn,Zo,Ja,Jb,Jc,J6,Jd,Je,J7,J8,Jf,Jg,Jh,Ji,Jj,Jk,J9,Jl,Jm,wr,Jn,JA,JB,Jo,Jp,Jq,Jr,Js,Jt,Ju,Jv,Jw,Jx,Jy,Jz,J0,J1,J2,J3,J4,J5,reduceCtorEq,JC,JD,JE,JF,JG,JH,JI,JJ]) | ((with_reducible (first | apply Ok.br | apply Ok.gd | apply Ok.ld)) <;> (intro g; (try simp only [ZGS] at g); try (exfalso; omega)))))
        exact Turn.exit ⟨rfl, rfl, .refl _ _, .inl ⟨rfl, hnone'.out⟩⟩
  · intro y ⟨e', l', G⟩ hW ⟨kl, hk, hcase⟩
    dsimp only at hW kl hk hcase
    subst l'
    rw [hW.spread]
    clear hW
    rcases hcase with ⟨rfl, hnone⟩ | ⟨rfl, h2, h3⟩
    · simp only [spread_t,spread_f,spread_n,Nat.zero_add,Nat.reduceAdd]
      have hres : tkN l = (0, 0) := by unfold tkN; rw [hnone]
      have hq := Hid.mk (hQ'.out (.tup [.int .u64 0, .int .i64 0], G) ⟨G, by rw [hres]; rfl, hk⟩)
      clear hQ' hk hres hnone
      (repeat' (first | (simp -implicitDefEqProofs (maxSteps := 1000000) (disch := first | assumption | omega | (simp only [ZDI]; omega)) only [*,G76,Za,Zb,Zc,Zd,Ze,Zf,Zg,Zh,Zi,Zj,Zk,Zl,Zm,Zn,Zo,Ja,Jb,Jc,J6,Jd,Je,J7,J8,Jf,Jg,Jh,Ji,Jj,Jk,J9,Jl,Jm,wr,Jn,JA,JB,Jo,Jp,Jq,Jr,Js,Jt,Ju,Jv,Jw,Jx,Jy,Jz,J0,J1,J2,J3,J4,J5,reduceCtorEq,JC,JD,JE,JF,JG,JH,JI,JJ]) | ((with_reducible (first | apply Ok.br | apply Ok.gd | apply Ok.ld)) <;> (intro g; (try simp only [ZGS] at g); try (exfalso; omega)))))
      exact hq.out
    · simp only [spread_t,spread_f,spread_n,Nat.zero_add,Nat.reduceAdd,h2,h3]
      have hq := Hid.mk (hQ'.out (.tup [.int .u64 ((tkN l).1 : Nat), .int .i64 ((tkN l).2 : Nat)], G) ⟨G, rfl, hk⟩)
      clear hQ' hk
      (repeat' (first | (simp -implicitDefEqProofs (maxSteps := 1000000) (disch := first | assumption | omega | (simp only [ZDI]; omega)) only [*,G76,Za,Zb,Zc,Zd,Ze,Zf,Zg,Zh,Zi,Zj,Zk,Zl,Zm,Zn,Zo,Ja,Jb,Jc,J6,Jd,Je,J7,J8,Jf,Jg,Jh,Ji,Jj,Jk,J9,Jl,Jm,wr,Jn,JA,JB,Jo,Jp,Jq,Jr,Js,Jt,Ju,Jv,Jw,Jx,Jy,Jz,J0,J1,J2,J3,J4,J5,reduceCtorEq,JC,JD,JE,JF,JG,JH,JI,JJ]) | ((with_reducible (first | apply Ok.br | apply Ok.gd | apply Ok.ld)) <;> (intro g; (try simp only [ZGS] at g); try (exfalso; omega)))))
      exact hq.out
set_option maxHeartbeats 16000000 in
theorem takeText_at {H : Heap} {v : V} {l : List UInt8} (hv : OffAt H v l) (hl : l.length <= 1000000) : Ev.Ok (D X (.fn 77 []) [v] H) fun y => ∃ H', y = (.tup [.str (tkT l).1, .int .i64 ((tkT l).2 : Nat)], H') /\ Keeps [] H H' := by
  refine Ok.aim fun Q hQ => ?_
  have hQ' := Hid.mk hQ
  clear hQ
  obtain ⟨y1, e1, H1, hy1, hk1⟩ := takeNum_at hv hl
  subst hy1
  obtain ⟨a, cap, z, rfl, hcap, hb⟩ := hv
  have hT : tkT l = match (numD l).bind fun x => if 1048576 < x.1 \/ x.2.length < x.1 then none else some ((⟨(x.2.take x.1).toArray⟩ : ByteArray), x.2.drop x.1) with | some x => (x.1, l.length - x.2.length) | none => (⟨#[]⟩, 0) := rfl
  cases hn : numD l with
  | none =>
    have h1 : tkN l = (0, 0) := by unfold tkN; rw [hn]
    rw [hn] at hT
    have h2 : tkT l = (⟨#[]⟩, 0) := hT
    rw [h1] at e1
    have hq := Hid.mk (hQ'.out (.tup [.str ⟨#[]⟩, .int .i64 0], H1) ⟨H1, by rw [h2]; rfl, hk1⟩)
    clear hQ' hk1 hb hT h1 h2 hn
    (refine Ok.body body77 pin77 ?_; simp only [c77,Try.f77,Option.getD_some,nslot77,List.append_nil,List.map,List.replicate,List.length_cons,List.length_nil,Nat.reduceAdd,Nat.reduceSub,List.cons_append,List.nil_append])
    (repeat' (first | (simp -implicitDefEqProofs (maxSteps := 1000000) (disch := first | assumption | omega | (simp only [ZDI]; omega)) only [*,lenV,G77,Za,Zb,Zc,Zd,Ze,Zf,Zg,Zh,Zi,Zj,Zk,Zl,Zm,Zn,Zo,Ja,Jb,Jc,J6,Jd,Je,J7,J8,Jf,Jg,Jh,Ji,Jj,Jk,J9,Jl,Jm,wr,Jn,JA,JB,Jo,Jp,Jq,Jr,Js,Jt,Ju,Jv,Jw,Jx,Jy,Jz,J0,J1,J2,J3,J4,J5,reduceCtorEq,JC,JD,JE,JF,JG,JH,JI,JJ]) | ((with_reducible (first | apply Ok.br | apply Ok.gd | apply Ok.ld)) <;> (intro g; (try simp only [ZGS] at g); try (exfalso; omega)))))
    exact hq.out
  | some x =>
    obtain ⟨n, r⟩ := x
    have h1 : tkN l = (n, l.length - r.length) := by unfold tkN; rw [hn]
    rw [h1] at e1
    rw [hn] at hT
    simp only [Option.bind_some] at hT
    obtain ⟨hc1, hc2⟩ := numD_canon hn
    have hp := numE_pos n
    obtain ⟨k, hk⟩ : ∃ k, k = l.length - r.length := ⟨_, rfl⟩
    rw [<- hk] at e1
    have hll : l.length = (numE n).length + r.length := by rw [hc1, List.length_append]
    have hkl : k = (numE n).length := by omega
    have hr : r = l.drop k := by rw [hkl, hc1, List.drop_left]
    have hk0 : ¬ ((k : Nat) : Int) = 0 := by omega
    have hsub : (l.length : Int) - (k : Int) = ((r.length : Nat) : Int) := by omega
    have hwl := wrapU (n := (r.length : Int)) (by omega)
    by_cases hbig : 1048576 < n \/ r.length < n
    · rw [if_pos hbig] at hT
      have h2 : tkT l = (⟨#[]⟩, 0) := hT
      have hq := Hid.mk (hQ'.out (.tup [.str ⟨#[]⟩, .int .i64 0], H1) ⟨H1, by rw [h2]; rfl, hk1⟩)
      have hb2 : ((1048576 : Int) < (n : Int)) \/ (¬ (1048576 : Int) < (n : Int) /\ (r.length : Int) < (n : Int)) := by omega
      clear hQ' hk1 hb hT h1 h2 hn hbig hc1 hr hll hkl hk
      rcases hb2 with h3 | ⟨h3, h4⟩
      all_goals
        (refine Ok.body body77 pin77 ?_; simp only [c77,Try.f77,Option.getD_some,nslot77,List.append_nil,List.map,List.replicate,List.length_cons,List.length_nil,Nat.reduceAdd,Nat.reduceSub,List.cons_append,List.nil_append])
        (repeat' (first | (simp -implicitDefEqProofs (maxSteps := 1000000) (disch := first | assumption | omega | (simp only [ZDI]; omega)) only [*,lenV,G77,Za,Zb,Zc,Zd,Ze,Zf,Zg,Zh,Zi,Zj,Zk,Zl,Zm,Zn,Zo,Ja,Jb,Jc,J6,Jd,Je,J7,J8,Jf,Jg,Jh,Ji,Jj,Jk,J9,Jl,Jm,wr,Jn,JA,JB,Jo,Jp,Jq,Jr,Js,Jt,Ju,Jv,Jw,Jx,Jy,Jz,J0,J1,J2,J3,J4,J5,reduceCtorEq,JC,JD,JE,JF,JG,JH,JI,JJ]) | ((with_reducible (first | apply Ok.br | apply Ok.gd | apply Ok.ld)) <;> (intro g; (try simp only [ZGS] at g); try (exfalso; omega)))))
        exact hq.out
    · rw [if_neg hbig] at hT
      have e9 : l.length - (r.drop n).length = k + n := by rw [List.length_drop]; omega
      have h2 : tkT l = (⟨(r.take n).toArray⟩, k + n) := by rw [hT, <- e9]
      have hq := Hid.mk (hQ'.out (.tup [.str ⟨(r.take n).toArray⟩, .int .i64 ((k + n : Nat) : Int)], H1) ⟨H1, by rw [h2], hk1⟩)
      have h3 : ¬ (1048576 : Int) < (n : Int) := by omega
      have h4 : ¬ (r.length : Int) < (n : Int) := by omega
      rcases hb with hb | ⟨b, o, rw, full, rfl, rfl, hbc, hbl, hbt⟩
      · exfalso; rw [hb] at hll; simp at hll; omega
      · have hmid := off_mid hbt (k := k) (n := n) (by omega)
        rw [<- hr] at hmid
        have hbc1 := hk1.cells hbc (by simp)
        have ht := toBytes_bV (r.take n)
        have hkn : (k : Int) + (n : Int) = ((k + n : Nat) : Int) := by omega
        have hkn2 : k + n - k = n := by omega
        have hle1 : k + n <= l.length := by omega
        have hblen : o + k + n <= full.length := by omega
        have hwn : IntKind.i64.wrap (n : Int) = (n : Int) := wrapI (by omega)
        have hcapk : k + n <= cap := by omega
        clear hQ' hk1 hbt hT h1 h2 hn hbig hc1 hr hll hkl hk
        by_cases hn0 : n = 0
        · have ht0 : r.take n = [] := by rw [hn0]; rfl
          rw [ht0] at hq
          have hz2 : decide (n = 0) = true := decide_eq_true hn0
          have hck : (cap = k) \/ ¬ (cap = k) := by omega
          clear hmid ht ht0 hn0
          rcases hck with rfl | hck
          all_goals
            (refine Ok.body body77 pin77 ?_; simp only [c77,Try.f77,Option.getD_some,nslot77,List.append_nil,List.map,List.replicate,List.length_cons,List.length_nil,Nat.reduceAdd,Nat.reduceSub,List.cons_append,List.nil_append])
            (repeat' (first | (simp -implicitDefEqProofs (maxSteps := 1000000) (disch := first | assumption | omega | (simp only [ZDI]; omega)) only [*,lenV,bV_take,bV_len,List.drop_zero,Nat.zero_add,Nat.mul_one,SA.add,optArr_s,optArr_n,Array.toList_append,strEq_refl,toBytes,eq_self,G77,Za,Zb,Zc,Zd,Ze,Zf,Zg,Zh,Zi,Zj,Zk,Zl,Zm,Zn,Zo,Ja,Jb,Jc,J6,Jd,Je,J7,J8,Jf,Jg,Jh,Ji,Jj,Jk,J9,Jl,Jm,wr,Jn,JA,JB,Jo,Jp,Jq,Jr,Js,Jt,Ju,Jv,Jw,Jx,Jy,Jz,J0,J1,J2,J3,J4,J5,reduceCtorEq,JC,JD,JE,JF,JG,JH,JI,JJ]) | ((with_reducible (first | apply Ok.br | apply Ok.gd | apply Ok.ld)) <;> (intro g; (try simp only [ZGS] at g); try (exfalso; omega)))))
            exact hq.out
        · have hck : ¬ cap = k := by omega
          (refine Ok.body body77 pin77 ?_; simp only [c77,Try.f77,Option.getD_some,nslot77,List.append_nil,List.map,List.replicate,List.length_cons,List.length_nil,Nat.reduceAdd,Nat.reduceSub,List.cons_append,List.nil_append])
          (repeat' (first | (simp -implicitDefEqProofs (maxSteps := 1000000) (disch := first | assumption | omega | (simp only [ZDI]; omega)) only [*,lenV,bV_take,bV_len,List.drop_zero,Nat.zero_add,Nat.mul_one,SA.add,optArr_s,optArr_n,Array.toList_append,strEq_refl,G77,Za,Zb,Zc,Zd,Ze,Zf,Zg,Zh,Zi,Zj,Zk,Zl,Zm,Zn,Zo,Ja,Jb,Jc,J6,Jd,Je,J7,J8,Jf,Jg,Jh,Ji,Jj,Jk,J9,Jl,Jm,wr,Jn,JA,JB,Jo,Jp,Jq,Jr,Js,Jt,Ju,Jv,Jw,Jx,Jy,Jz,J0,J1,J2,J3,J4,J5,reduceCtorEq,JC,JD,JE,JF,JG,JH,JI,JJ]) | ((with_reducible (first | apply Ok.br | apply Ok.gd | apply Ok.ld)) <;> (intro g; (try simp only [ZGS] at g); try (exfalso; omega)))))
          exact hq.out
end Go.Ev
set_option maxRecDepth 100000
namespace Go.Ev
open Go.Proofs
def Sto.setT (s : Sto) (i : Nat) (t : ByteArray) : Sto := { s with txt := fun j => if j = i then t else s.txt j }
def Sto.setM (s : Sto) (i k : Nat) (m : Int) : Sto := { s with mrk := fun j q => if j = i /\ q = k then m else s.mrk j q }
theorem gD_old {α : Type} {l x : List α} {j : Nat} {d : α} (h : j < l.length) : (l ++ x).getD j d = l.getD j d := by
  rw [List.getD_eq_getElem?_getD, List.getD_eq_getElem?_getD, List.getElem?_append_left h]
theorem gD_new {α : Type} {l : List α} {c d : α} : (l ++ [c]).getD l.length d = c := by
  rw [List.getD_eq_getElem?_getD, List.getElem?_append_right (Nat.le_refl _), Nat.sub_self]; rfl
theorem gD_out {α : Type} {l : List α} {j : Nat} {d : α} (h : l.length <= j) : l.getD j d = d := by
  rw [List.getD_eq_getElem?_getD, List.getElem?_eq_none h]; rfl
theorem stoOf_T (a b : Nat) (fz : Bool) (cs : List CellT) (t : ByteArray) : (stoOf a b fz cs).setT cs.length t = stoOf a b fz (cs ++ [(t, [])]) := by
  refine Sto.ext' rfl rfl rfl (fun j => ?_) (fun j k => ?_)
  · show (if j = cs.length then t else (cs.getD j (⟨#[]⟩, [])).1) = ((cs ++ [(t, [])]).getD j (⟨#[]⟩, [])).1
    rcases Nat.lt_trichotomy j cs.length with h | h | h
    · rw [if_neg (by omega), gD_old h]
    · subst h; rw [if_pos rfl, gD_new]
    · rw [if_neg (by omega), gD_out (by omega), gD_out (by simp; omega)]
  · show (((cs.getD j (⟨#[]⟩, [])).2.getD k 0 : Nat) : Int) = ((((cs ++ [(t, [])]).getD j (⟨#[]⟩, [])).2.getD k 0 : Nat) : Int)
    rcases Nat.lt_trichotomy j cs.length with h | h | h
    · rw [gD_old h]
    · subst h; rw [gD_new, gD_out (l := cs) (Nat.le_refl _)]
    · rw [gD_out (l := cs) (by omega), gD_out (l := cs ++ [(t, [])]) (by simp; omega)]
theorem stoOf_M (a b : Nat) (fz : Bool) (cs : List CellT) (t : ByteArray) (ms : List Nat) (m : Nat) : (stoOf a b fz (cs ++ [(t, ms)])).setM cs.length ms.length m = stoOf a b fz (cs ++ [(t, ms ++ [m])]) := by
  refine Sto.ext' rfl rfl rfl (fun j => ?_) (fun j k => ?_)
  · show ((cs ++ [(t, ms)]).getD j (⟨#[]⟩, [])).1 = ((cs ++ [(t, ms ++ [m])]).getD j (⟨#[]⟩, [])).1
    rcases Nat.lt_trichotomy j cs.length with h | h | h
    · rw [gD_old h, gD_old h]
    · subst h; rw [gD_new, gD_new]
    · rw [gD_out (by simp; omega), gD_out (by simp; omega)]
  · show (if j = cs.length /\ k = ms.length then ((m : Nat) : Int) else ((((cs ++ [(t, ms)]).getD j (⟨#[]⟩, [])).2.getD k 0 : Nat) : Int)) = ((((cs ++ [(t, ms ++ [m])]).getD j (⟨#[]⟩, [])).2.getD k 0 : Nat) : Int)
    rcases Nat.lt_trichotomy j cs.length with h | h | h
    · rw [if_neg (by omega), gD_old h, gD_old h]
    · subst h
      rw [gD_new, gD_new]
      show (if cs.length = cs.length /\ k = ms.length then ((m : Nat) : Int) else ((ms.getD k 0 : Nat) : Int)) = (((ms ++ [m]).getD k 0 : Nat) : Int)
      rcases Nat.lt_trichotomy k ms.length with h2 | h2 | h2
      · rw [if_neg (by omega), gD_old h2]
      · subst h2; rw [if_pos ⟨rfl, rfl⟩, gD_new]
      · rw [if_neg (by omega), gD_out (by omega), gD_out (by simp; omega)]
    · rw [if_neg (by omega), gD_out (l := cs ++ [(t, ms)]) (by simp; omega), gD_out (l := cs ++ [(t, ms ++ [m])]) (by simp; omega)]
theorem RefAt.put_text {H : Heap} {p T M : Nat} {mb : Nat -> Nat} {n : Nat} {s : Sto} (h : RefAt H p T M mb n s) {gT : Nat} {ts : List V} (hT : hcells H T gT = some (true, ts)) {i : Nat} (hi : i < n) (t : ByteArray) :
    RefAt (H.set T (.cells gT true (ts.set i (.str t)))) p T M mb n (s.setT i t) := by
  obtain ⟨⟨gT', gM, ts', ms, f1, f2, f3, f4, f5, f6, f7⟩, f8, f9, f10, f11, f12, f13⟩ := h
  have hTl := hcells_lt hT
  have hg : gT' = gT /\ ts' = ts := by
    unfold hcells at hT f2
    cases hx : H[T]? with
    | none => rw [hx] at hT; cases hT
    | some x =>
      rw [hx] at hT f2
      cases x with
      | cells g' k c =>
        obtain ⟨a1, a2⟩ := grd_some hT
        obtain ⟨b1, b2⟩ := grd_some f2
        simp only [Option.some.injEq,Prod.mk.injEq] at a2 b2
        exact ⟨by omega, by rw [<- a2.2, <- b2.2]⟩
      | map _ _ _ => cases hT
      | loop _ => cases hT
  obtain ⟨rfl, rfl⟩ := hg
  refine ⟨⟨gT', gM, ts'.set i (.str t), ms, ?_, hcells_set_eq hTl, by simp [f3], fun j hj => ?_, ?_, f6, f7⟩, fun j hj => ?_, f9, f10, f11, f12, f13⟩
  · rw [hcells_set_ne f9]; exact f1
  · show _ = some (V.str (if j = i then t else s.txt j))
    by_cases e : j = i
    · subst e; rw [if_pos rfl, List.getElem?_set_self (by omega)]
    · rw [if_neg e, List.getElem?_set_ne (Ne.symm e)]; exact f4 j hj
  · rw [hcells_set_ne (Ne.symm f11)]; exact f5
  · obtain ⟨q, h1, h2, h3⟩ := f8 j hj
    exact ⟨q, by rw [hcells_set_ne (f12 j hj).2.1]; exact h1, h2, h3⟩
theorem RefAt.put_mark {H : Heap} {p T M : Nat} {mb : Nat -> Nat} {n : Nat} {s : Sto} (h : RefAt H p T M mb n s) {i : Nat} (hi : i < n) {q : List V} (hq : hcells H (mb i) 0 = some (true, q)) {k : Nat} (hk : k < 4) (m : Int) :
    RefAt (H.set (mb i) (.cells 0 true (q.set k (.int .i64 m)))) p T M mb n (s.setM i k m) := by
  obtain ⟨⟨gT, gM, ts, ms, f1, f2, f3, f4, f5, f6, f7⟩, f8, f9, f10, f11, f12, f13⟩ := h
  have hql := hcells_lt hq
  obtain ⟨a1, a2, a3⟩ := f12 i hi
  refine ⟨⟨gT, gM, ts, ms, by rw [hcells_set_ne (Ne.symm a1)]; exact f1, by rw [hcells_set_ne (Ne.symm a2)]; exact f2, f3, f4, by rw [hcells_set_ne (Ne.symm a3)]; exact f5, f6, f7⟩, fun j hj => ?_, f9, f10, f11, f12, f13⟩
  obtain ⟨q', h1, h2, h3⟩ := f8 j hj
  by_cases e : j = i
  · subst e
    rw [hq] at h1
    simp only [Option.some.injEq,Prod.mk.injEq,true_and] at h1
    subst h1
    refine ⟨_, hcells_set_eq hql, by simpa using h2, fun x hx => ?_⟩
    show _ = some (V.int .i64 (if j = j /\ x = k then m else s.mrk j x))
    by_cases e2 : x = k
    · subst e2; rw [if_pos ⟨rfl, rfl⟩, List.getElem?_set_self (by omega)]
    · rw [if_neg (fun h => e2 h.2), List.getElem?_set_ne (Ne.symm e2)]; exact h3 x hx
  · refine ⟨q', ?_, h2, fun x hx => ?_⟩
    · rw [hcells_set_ne (fun e' => e (f13 j i hj hi e'))]; exact h1
    · show _ = some (V.int .i64 (if j = i /\ x = k then m else s.mrk j x))
      rw [if_neg (fun h => e h.1)]; exact h3 x hx
theorem RefAt.put_fz {H : Heap} {p T M : Nat} {mb : Nat -> Nat} {n : Nat} {s : Sto} (h : RefAt H p T M mb n s) (fz : Bool) : ∃ gT gM, hcells H p 0 = some (true, [.int .i64 s.a, .int .i64 s.b, .bool s.fz, .sl (.at T gT 0) n n 1, .sl (.at M gM 0) n n 1]) /\
    RefAt (H.set p (.cells 0 true [.int .i64 s.a, .int .i64 s.b, .bool fz, .sl (.at T gT 0) n n 1, .sl (.at M gM 0) n n 1])) p T M mb n { s with fz := fz } := by
  obtain ⟨⟨gT, gM, ts, ms, f1, f2, f3, f4, f5, f6, f7⟩, f8, f9, f10, f11, f12, f13⟩ := h
  have hpl := hcells_lt f1
  refine ⟨gT, gM, f1, ⟨gT, gM, ts, ms, hcells_set_eq hpl, by rw [hcells_set_ne (Ne.symm f9)]; exact f2, f3, f4, by rw [hcells_set_ne (Ne.symm f10)]; exact f5, f6, f7⟩, fun j hj => ?_, f9, f10, f11, f12, f13⟩
  obtain ⟨q, h1, h2, h3⟩ := f8 j hj
  exact ⟨q, by rw [hcells_set_ne (f12 j hj).1]; exact h1, h2, h3⟩
end Go.Ev
set_option maxRecDepth 100000
namespace Go.Ev
open Go.Ev renaming exPure -> Ja, ofValue -> Jb, cellsV -> Jc, load -> Jd, store -> Je, binOp -> Jf, intOp -> Jg, rdV -> Jh, vsame -> Ji, vsames -> Jj, makeSliceV -> Jk, resV -> Jl, isCell -> Jm, nilCheckV -> Jn, allV -> Jo, builtinV -> Jp, lenV -> Jq, indexAddrV -> Jr, unOp -> Js, minmaxV -> Jt, minmax -> Ju, sliceV -> Jv, asInt -> Jw, appendV -> Jx, forkB -> Jy, roY -> Jz, rwB -> J0, copyV -> J1, clearV -> J2, convV -> J3, sliceCells -> J4, shift -> J5
open Bool renaming true -> BT, false -> BF
open Nat renaming reduceEqDiff -> J6, reduceLT -> J7, reduceAdd -> J8, reduceBEq -> J9, reduceSub -> JA, reduceMul -> JB, reduceLeDiff -> JJ
open Int renaming reduceLT -> JC, reduceLE -> JD, reduceAdd -> JE, reduceSub -> JF, reduceNeg -> JG, reduceToNat -> JH, reduceEq -> JI
open Go.Proofs
def ReadR (H : Heap) (bs : List UInt8) (y : V × Heap) : Prop := Keeps [] H y.2 /\ ((∃ w, y.1 = .tup [w, .bool false] /\ stoD bs = none) \/ ∃ s p T M mb, y.1 = .tup [.ptr p 0 0, .bool true] /\ stoD bs = some s /\ RefAt y.2 p T M mb s.n s /\ ∀ j ∈ refBlocks p T M mb s.n, H.length <= j)
theorem tk_some {l r : List UInt8} {n : Nat} (h : numD l = some (n, r)) : tkN l = (n, l.length - r.length) /\ 0 < l.length - r.length /\ r = l.drop (l.length - r.length) /\ r.length <= l.length := by
  obtain ⟨e, _⟩ := numD_canon h
  have hp := numE_pos n
  have hl : l.length = (numE n).length + r.length := by rw [e, List.length_append]
  refine ⟨by unfold tkN; rw [h], by omega, ?_, by omega⟩
  have : l.length - r.length = (numE n).length := by omega
  rw [this, e, List.drop_left]
theorem tk_none {l : List UInt8} (h : numD l = none) : tkN l = (0, 0) := by unfold tkN; rw [h]
theorem tt_some {l r : List UInt8} {s : ByteArray} (h : textD l = some (s, r)) : tkT l = (s, l.length - r.length) /\ 0 < l.length - r.length /\ r = l.drop (l.length - r.length) /\ r.length <= l.length := by
  obtain ⟨e, _⟩ := textD_canon h
  have hp : 0 < (textE s).length := by unfold textE; rw [List.length_append]; have := numE_pos s.size; omega
  have hl : l.length = (textE s).length + r.length := by rw [e, List.length_append]
  refine ⟨by unfold tkT; rw [h], by omega, ?_, by omega⟩
  have : l.length - r.length = (textE s).length := by omega
  rw [this, e, List.drop_left]
theorem tt_none {l : List UInt8} (h : textD l = none) : tkT l = (⟨#[]⟩, 0) := by unfold tkT; rw [h]
theorem off_cut {H : Heap} {b o cap : Nat} {rw : Bool} {full : List V} {l : List UInt8} (hc : hcells H b 0 = some (rw, full)) (hl : o + l.length <= full.length) (ht : (full.drop o).take l.length = bV l) (hcap : l.length <= cap) {k : Nat} (hk : k <= l.length) (hne : ¬ cap = k) :
    OffAt H (.sl (.at b 0 (o + k)) (l.length - k) (cap - k) 0) (l.drop k) := by
  refine ⟨.at b 0 (o + k), cap - k, 0, by rw [List.length_drop], by rw [List.length_drop]; omega, .inr ⟨b, o + k, rw, full, rfl, rfl, hc, by rw [List.length_drop]; omega, ?_⟩⟩
  rw [List.length_drop]; exact off_drop ht k
theorem off_end {H : Heap} {a : SA} {c : Nat} : OffAt H (.sl a 0 c 0) [] := ⟨a, c, 0, rfl, by simp, .inl rfl⟩
theorem Keeps.kc {h h' : Heap} (hk : Keeps [] h h') : KeepC h h' := ⟨hk.1, fun i g q hc => hk.cells hc (by simp)⟩
set_option maxHeartbeats 64000000 in
theorem read_at {H : Heap} {v : V} {bs : List UInt8} (hv : OffAt H v bs) (hl : bs.length <= 100000) : Ev.Ok (D X (.fn 45 []) [v] H) (ReadR H bs) := by
  refine Ok.aim fun Q hQ => ?_
  have hQ' := Hid.mk hQ
  clear hQ
  have hbad : ∀ w g, stoD bs = none -> Keeps [] H g -> Hid (Q (.tup [w, .bool false], g)) := fun w g e k => ⟨hQ'.out _ ⟨k, .inl ⟨w, rfl, e⟩⟩⟩
  obtain ⟨y1, e1, H1, hy1, hk1⟩ := takeNum_at hv (by omega)
  subst hy1
  obtain ⟨a, cap, z, rfl, hcap, hb⟩ := hv
  cases h1 : numD bs with
  | none =>
    rw [tk_none h1] at e1
    have hq := hbad .nilp H1 (by unfold stoD; rw [h1]; rfl) hk1
    clear hQ' hbad hb hk1 h1
    (refine Ok.body body45 pin45 ?_; simp only [c45,Try.f45,Option.getD_some,nslot45,List.append_nil,List.map,List.replicate,List.length_cons,List.length_nil,Nat.reduceAdd,Nat.reduceSub,List.cons_append,List.nil_append])
    (repeat' (first | (simp -implicitDefEqProofs (maxSteps := 1000000) (disch := first | assumption | omega | (simp only [ZDI]; omega)) only [*,lenV,Nat.zero_add,Nat.add_zero,Nat.mul_one,Nat.sub_zero,SA.add,optArr_s,optArr_n,Array.toList_append,G45,Za,Zb,Zc,Zd,Ze,Zf,Zg,Zh,Zi,Zj,Zk,Zl,Zm,Zn,Zo,Ja,Jb,Jc,J6,Jd,Je,J7,J8,Jf,Jg,Jh,Ji,Jj,Jk,J9,Jl,Jm,wr,Jn,JA,JB,Jo,Jp,Jq,Jr,Js,Jt,Ju,Jv,Jw,Jx,Jy,Jz,J0,J1,J2,J3,J4,J5,reduceCtorEq,JC,JD,JE,JF,JG,JH,JI,JJ]) | ((with_reducible (first | apply Ok.br | apply Ok.gd | apply Ok.ld)) <;> (intro g; (try simp only [ZGS] at g); try (exfalso; omega)))))
    exact hq.out
  | some x1 =>
    obtain ⟨A, r1⟩ := x1
    obtain ⟨t1, t2, t3, t4⟩ := tk_some h1
    rw [t1] at e1
    obtain ⟨k1, hk⟩ : ∃ k, k = bs.length - r1.length := ⟨_, rfl⟩
    rw [<- hk] at e1 t2 t3
    have hk1l : k1 <= bs.length := by omega
    have hk0 : ¬ ((k1 : Nat) : Int) = 0 := by omega
    have hr1l : r1.length = bs.length - k1 := by omega
    rcases hb with hb | ⟨b, o, rw, full, rfl, rfl, hbc, hbl, hbt⟩
    · exfalso; rw [hb] at hk; simp at hk; omega
    · have hbc1 := hk1.cells hbc (by simp)
      have hS1 : stoD bs = (numD r1).bind fun x2 => (boolD x2.2).bind fun x3 => if 256 < x2.1 \/ x2.1 <= A then none else (manyD cellD (x2.1 - A) x3.2).bind fun x4 => if x4.2 = [] then some (stoOf A x2.1 x3.1 x4.1) else none := by unfold stoD; rw [h1]; rfl
      obtain ⟨v1, hv1, hoff1⟩ : ∃ v1, v1 = (if cap = k1 then V.sl (.at b 0 o) (bs.length - k1) (cap - k1) 0 else V.sl (.at b 0 (o + k1)) (bs.length - k1) (cap - k1) 0) /\ OffAt H1 v1 r1 := by
        refine ⟨_, rfl, ?_⟩
        by_cases hck : cap = k1
        · rw [if_pos hck, show bs.length - k1 = 0 by omega]
          have : r1 = [] := List.length_eq_zero_iff.1 (by omega)
          rw [this]; exact off_end
        · rw [if_neg hck, t3]; exact off_cut hbc1 hbl hbt hcap hk1l hck
      obtain ⟨y2, e2, H2, hy2, hk2⟩ := takeNum_at hoff1 (by omega)
      subst hy2
      have hK2 : Keeps [] H H2 := hk1.trans ⟨hk2.1, hk2.2⟩
      cases h2 : numD r1 with
      | none =>
        rw [tk_none h2] at e2
        have hq := hbad .nilp H2 (by rw [hS1, h2]; rfl) hK2
        clear hQ' hbad hk1 hk2 hK2 h1 h2 hS1 t1 t3 t4 hbt hoff1 hk hr1l
        rcases (by omega : cap = k1 \/ ¬ cap = k1) with hck | hck
        · rw [if_pos hck] at hv1
          subst hv1 hck
          rw [Nat.sub_self] at e2
          (refine Ok.body body45 pin45 ?_; simp only [c45,Try.f45,Option.getD_some,nslot45,List.append_nil,List.map,List.replicate,List.length_cons,List.length_nil,Nat.reduceAdd,Nat.reduceSub,List.cons_append,List.nil_append])
          (repeat' (first | (simp -implicitDefEqProofs (maxSteps := 1000000) (disch := first | assumption | omega | (simp only [ZDI]; omega)) only [*,lenV,Nat.zero_add,Nat.add_zero,Nat.mul_one,Nat.sub_zero,SA.add,optArr_s,optArr_n,Array.toList_append,G45,Za,Zb,Zc,Zd,Ze,Zf,Zg,Zh,Zi,Zj,Zk,Zl,Zm,Zn,Zo,Ja,Jb,Jc,J6,Jd,Je,J7,J8,Jf,Jg,Jh,Ji,Jj,Jk,J9,Jl,Jm,wr,Jn,JA,JB,Jo,Jp,Jq,Jr,Js,Jt,Ju,Jv,Jw,Jx,Jy,Jz,J0,J1,J2,J3,J4,J5,reduceCtorEq,JC,JD,JE,JF,JG,JH,JI,JJ]) | ((with_reducible (first | apply Ok.br | apply Ok.gd | apply Ok.ld)) <;> (intro g; (try simp only [ZGS] at g); try (exfalso; omega)))))
          exact hq.out
        · rw [if_neg hck] at hv1
          subst hv1
          (refine Ok.body body45 pin45 ?_; simp only [c45,Try.f45,Option.getD_some,nslot45,List.append_nil,List.map,List.replicate,List.length_cons,List.length_nil,Nat.reduceAdd,Nat.reduceSub,List.cons_append,List.nil_append])
          (repeat' (first | (simp -implicitDefEqProofs (maxSteps := 1000000) (disch := first | assumption | omega | (simp only [ZDI]; omega)) only [*,lenV,Nat.zero_add,Nat.add_zero,Nat.mul_one,Nat.sub_zero,SA.add,optArr_s,optArr_n,Array.toList_append,G45,Za,Zb,Zc,Zd,Ze,Zf,Zg,Zh,Zi,Zj,Zk,Zl,Zm,Zn,Zo,Ja,Jb,Jc,J6,Jd,Je,J7,J8,Jf,Jg,Jh,Ji,Jj,Jk,J9,Jl,Jm,wr,Jn,JA,JB,Jo,Jp,Jq,Jr,Js,Jt,Ju,Jv,Jw,Jx,Jy,Jz,J0,J1,J2,J3,J4,J5,reduceCtorEq,JC,JD,JE,JF,JG,JH,JI,JJ]) | ((with_reducible (first | apply Ok.br | apply Ok.gd | apply Ok.ld)) <;> (intro g; (try simp only [ZGS] at g); try (exfalso; omega)))))
          exact hq.out
      | some x2 =>
        obtain ⟨B, r2⟩ := x2
        obtain ⟨u1, u2, u3, u4⟩ := tk_some h2
        rw [u1] at e2
        have hck : ¬ cap = k1 := by omega
        rw [if_neg hck] at hv1
        subst hv1
        obtain ⟨k2, hk2'⟩ : ∃ k, k = r1.length - r2.length := ⟨_, rfl⟩
        rw [<- hk2'] at e2 u2 u3
        have hk20 : ¬ ((k2 : Nat) : Int) = 0 := by omega
        rw [h2] at hS1
        simp only [Option.bind_some] at hS1
        obtain ⟨L1, hL1⟩ : ∃ L, L = bs.length - k1 := ⟨_, rfl⟩
        obtain ⟨C1, hC1⟩ : ∃ C, C = cap - k1 := ⟨_, rfl⟩
        obtain ⟨o1, ho1⟩ : ∃ C, C = o + k1 := ⟨_, rfl⟩
        have hbt1 : (full.drop o1).take r1.length = bV r1 := by rw [ho1, t3, List.length_drop]; exact off_drop hbt k1
        have hbl1 : o1 + r1.length <= full.length := by omega
        have hC1l : r1.length <= C1 := by omega
        have hL1l : L1 = r1.length := by omega
        have hbc2 := hk2.cells hbc1 (by simp)
        have hwL : ((L1 : Nat) : Int) = ((r1.length : Nat) : Int) := by omega
        have hcases : (r2 = [] \/ (∃ c r3, r2 = c :: r3 /\ (1 < c.toNat \/ (¬ 1 < c.toNat /\ (256 < B \/ (¬ 256 < B /\ B <= A)))))) \/ ∃ c r3, r2 = c :: r3 /\ ¬ 1 < c.toNat /\ ¬ 256 < B /\ ¬ B <= A := by
          cases r2 with
          | nil => exact .inl (.inl rfl)
          | cons c r3 =>
            by_cases g1 : 1 < c.toNat
            · exact .inl (.inr ⟨c, r3, rfl, .inl g1⟩)
            · by_cases g2 : 256 < B
              · exact .inl (.inr ⟨c, r3, rfl, .inr ⟨g1, .inl g2⟩⟩)
              · by_cases g3 : B <= A
                · exact .inl (.inr ⟨c, r3, rfl, .inr ⟨g1, .inr ⟨g2, g3⟩⟩⟩)
                · exact .inr ⟨c, r3, rfl, g1, g2, g3⟩
        rw [<- hL1, <- hC1, <- ho1] at e2
        rcases hcases with hcases | ⟨c, r3, hr2, g1, g2, g3⟩
        · have hq := hbad .nilp H2 (by
            rw [hS1]
            rcases hcases with e | ⟨c, r3, e, g1 | ⟨g1, g2⟩⟩
            · rw [e]; rfl
            · rw [e]
              show ((byteD (c :: r3)).bind _).bind _ = none
              simp only [byteD,Option.bind_some]
              rw [if_pos g1]; rfl
            · have hor : 256 < B \/ B <= A := by omega
              cases boolD r2 with
              | none => rfl
              | some x => simp only [Option.bind_some]; rw [if_pos hor]) hK2
          have hcell : ∀ c r3, r2 = c :: r3 -> full[o1 + k2]? = some (.int .u8 (c.toNat : Nat)) /\ k2 < L1 := fun c r3 e => by
            have hkl : k2 < r1.length := by rw [hk2', e]; rw [e] at u4; simp at u4 ⊢; omega
            refine ⟨off_get hbt1 ?_, by omega⟩
            have h := congrArg (fun l => l[0]?) (u3.symm.trans e)
            simpa [List.getElem?_drop] using h
          have hnil : r2 = [] -> k2 = L1 := fun e => by rw [e] at hk2'; simp at hk2'; omega
          have hck' : ¬ cap = k1 := hck
          have hL1s := hL1.symm
          have hC1s := hC1.symm
          have ho1s := ho1.symm
          clear hQ' hbad hk1 hk2 hK2 h1 h2 hS1 t1 t3 t4 u1 u3 u4 hbt hbt1 hoff1 hk hr1l hk2' hL1 hC1 ho1 hL1l hwL hck
          rcases hcases with e | ⟨c, r3, e, g⟩
          · have hkk := hnil e
            have hkk' : ((L1 : Nat) : Int) = ((k2 : Nat) : Int) := by omega
            clear hcell hnil e hkk
            (refine Ok.body body45 pin45 ?_; simp only [c45,Try.f45,Option.getD_some,nslot45,List.append_nil,List.map,List.replicate,List.length_cons,List.length_nil,Nat.reduceAdd,Nat.reduceSub,List.cons_append,List.nil_append])
            (repeat' (first | (simp -implicitDefEqProofs (maxSteps := 1000000) (disch := first | assumption | omega | (simp only [ZDI]; omega)) only [*,lenV,Nat.zero_add,Nat.add_zero,Nat.mul_one,Nat.sub_zero,SA.add,optArr_s,optArr_n,Array.toList_append,G45,Za,Zb,Zc,Zd,Ze,Zf,Zg,Zh,Zi,Zj,Zk,Zl,Zm,Zn,Zo,Ja,Jb,Jc,J6,Jd,Je,J7,J8,Jf,Jg,Jh,Ji,Jj,Jk,J9,Jl,Jm,wr,Jn,JA,JB,Jo,Jp,Jq,Jr,Js,Jt,Ju,Jv,Jw,Jx,Jy,Jz,J0,J1,J2,J3,J4,J5,reduceCtorEq,JC,JD,JE,JF,JG,JH,JI,JJ]) | ((with_reducible (first | apply Ok.br | apply Ok.gd | apply Ok.ld)) <;> (intro g; (try simp only [ZGS] at g); try (exfalso; omega)))))
            exact hq.out
          · obtain ⟨hc1, hc2⟩ := hcell c r3 e
            have hne : ¬ ((L1 : Nat) : Int) = ((k2 : Nat) : Int) := by omega
            have gi : 0 <= ((k2 : Nat) : Int) /\ ((k2 : Nat) : Int) < ((L1 : Nat) : Int) := by omega
            have g' : ((1 : Int) < ((c.toNat : Nat) : Int)) \/ (¬ (1 : Int) < ((c.toNat : Nat) : Int) /\ (256 : Int) < (B : Int)) \/ (¬ (1 : Int) < ((c.toNat : Nat) : Int) /\ ¬ (256 : Int) < (B : Int) /\ (B : Int) <= (A : Int)) := by omega
            clear hcell hnil e g
            rcases g' with g | ⟨g, g2⟩ | ⟨g, g2, g3⟩
            all_goals
              (refine Ok.body body45 pin45 ?_; simp only [c45,Try.f45,Option.getD_some,nslot45,List.append_nil,List.map,List.replicate,List.length_cons,List.length_nil,Nat.reduceAdd,Nat.reduceSub,List.cons_append,List.nil_append])
              (repeat' (first | (simp -implicitDefEqProofs (maxSteps := 1000000) (disch := first | assumption | omega | (simp only [ZDI]; omega)) only [*,lenV,Nat.zero_add,Nat.add_zero,Nat.mul_one,Nat.sub_zero,SA.add,optArr_s,optArr_n,Array.toList_append,G45,Za,Zb,Zc,Zd,Ze,Zf,Zg,Zh,Zi,Zj,Zk,Zl,Zm,Zn,Zo,Ja,Jb,Jc,J6,Jd,Je,J7,J8,Jf,Jg,Jh,Ji,Jj,Jk,J9,Jl,Jm,wr,Jn,JA,JB,Jo,Jp,Jq,Jr,Js,Jt,Ju,Jv,Jw,Jx,Jy,Jz,J0,J1,J2,J3,J4,J5,reduceCtorEq,JC,JD,JE,JF,JG,JH,JI,JJ]) | ((with_reducible (first | apply Ok.br | apply Ok.gd | apply Ok.ld)) <;> (intro g; (try simp only [ZGS] at g); try (exfalso; omega)))))
              exact hq.out
        · subst hr2
          have hkl : k2 < r1.length := by rw [hk2']; simp at u4 ⊢; omega
          obtain ⟨fz, hfz⟩ : ∃ f, f = decide (c.toNat = 1) := ⟨_, rfl⟩
          have hb3 : boolD (c :: r3) = some (fz, r3) := by
            unfold boolD
            simp only [byteD,Option.bind_some]
            rw [if_neg g1, <- hfz]
          rw [hb3] at hS1
          simp only [Option.bind_some] at hS1
          rw [if_neg (by omega)] at hS1
          obtain ⟨n, hn⟩ : ∃ n, n = B - A := ⟨_, rfl⟩
          rw [<- hn] at hS1
          have hcell : full[o1 + k2]? = some (.int .u8 (c.toNat : Nat)) := by
            refine off_get hbt1 ?_
            have h := congrArg (fun l => l[0]?) u3
            simp only [List.getElem?_cons_zero,List.getElem?_drop,Nat.add_zero] at h
            exact h.symm
          have hr3 : r3 = r1.drop (k2 + 1) := by
            have := congrArg (fun l => l.drop 1) u3
            simpa [List.drop_drop] using this
          have hr3l : r3.length = r1.length - (k2 + 1) := by rw [hr3, List.length_drop]
          have hAB : ((B : Int) - (A : Int)).toNat = n := by omega
          have hBA : Hid (B = A + n) := ⟨by omega⟩
          obtain ⟨⟨w3, H3⟩, e3, H3', hy3, hk3, hrf0⟩ := refNew_at (a := (A : Int)) (b := (B : Int)) (by omega) (by omega) (by omega) H2
          simp only [Prod.mk.injEq] at hy3
          obtain ⟨rfl, rfl⟩ := hy3
          rw [hAB] at hrf0
          obtain ⟨gT, gM, hp3, hrf1⟩ := hrf0.put_fz fz
          have hst0 : ({ emptySto (A : Int) (B : Int) with fz := fz } : Sto) = stoOf A B fz [] := Sto.ext' rfl rfl rfl (fun _ => rfl) (fun _ _ => rfl)
          rw [hst0] at hrf1
          have hp3 : hcells H3 H2.length 0 = some (true, [.int .i64 A, .int .i64 B, .bool false, .sl (.at (H2.length + 1) gT 0) n n 1, .sl (.at (H2.length + 3) gM 0) n n 1]) := hp3
          have hrf1 : RefAt (H3.set H2.length (.cells 0 true [.int .i64 A, .int .i64 B, .bool fz, .sl (.at (H2.length + 1) gT 0) n n 1, .sl (.at (H2.length + 3) gM 0) n n 1])) H2.length (H2.length + 1) (H2.length + 3) (mbOf H2.length) n (stoOf A B fz []) := hrf1
          obtain ⟨H4, hH4⟩ : ∃ G, H3.set H2.length (.cells 0 true [.int .i64 A, .int .i64 B, .bool fz, .sl (.at (H2.length + 1) gT 0) n n 1, .sl (.at (H2.length + 3) gM 0) n n 1]) = G := ⟨_, rfl⟩
          rw [hH4] at hrf1
          have hpl3 := hcells_lt hp3
          have hp4 : hcells H4 H2.length 0 = some (true, [.int .i64 A, .int .i64 B, .bool fz, .sl (.at (H2.length + 1) gT 0) n n 1, .sl (.at (H2.length + 3) gM 0) n n 1]) := by rw [<- hH4]; exact hcells_set_eq hpl3
          have hbc3 := hk3.cells hbc2 (by simp)
          have hK4 : Keeps [] H2 H4 := by rw [<- hH4]; exact hk3.set (.inr (Nat.le_refl _)) _
          have hbc4 := hK4.cells hbc2 (by simp)
          have hKH4 : Keeps [] H H4 := ⟨Nat.le_trans hK2.1 hK4.1, fun i hi hF => by rw [hK4.2 i (by have := hK2.1; omega) hF]; exact hK2.2 i hi hF⟩
          have hgeB : ∀ j ∈ refBlocks H2.length (H2.length + 1) (H2.length + 3) (mbOf H2.length) n, H.length <= j := by
            intro j hj
            have hH := hK2.1
            rcases mem_refBlocks.1 hj with rfl | rfl | rfl | ⟨i, hi, rfl⟩
            · omega
            · omega
            · omega
            · have := mbOf_ge H2.length i; omega
          obtain ⟨v3, hv3, hoff3⟩ : ∃ v3, v3 = (if C1 = k2 + 1 then V.sl (.at b 0 o1) (L1 - (k2 + 1)) 0 0 else V.sl (.at b 0 (o1 + (k2 + 1))) (L1 - (k2 + 1)) (C1 - (k2 + 1)) 0) /\ OffAt H v3 r3 := by
            refine ⟨_, rfl, ?_⟩
            by_cases hck : C1 = k2 + 1
            · rw [if_pos hck, show L1 - (k2 + 1) = 0 by omega]
              have : r3 = [] := List.length_eq_zero_iff.1 (by omega)
              rw [this]; exact off_end
            · rw [if_neg hck, hr3, hL1l]; exact off_cut hbc hbl1 hbt1 hC1l (by omega) hck
          have hnl : n <= 256 := by omega
          have hr3b : r3.length <= 100000 := by omega
          have hcapk : ¬ cap = k1 := hck
          clear hck
          have hdec : decide (((c.toNat : Nat) : Int) = 1) = fz := by
            rw [hfz]
            by_cases e : c.toNat = 1
            · rw [decide_eq_true e, decide_eq_true (by omega)]
            · rw [decide_eq_false e, decide_eq_false (by omega)]
          have g1' : ¬ (1 : Int) < ((c.toNat : Nat) : Int) := by omega
          have g2' : ¬ (256 : Int) < (B : Int) := by omega
          have g3' : ¬ (B : Int) <= (A : Int) := by omega
          have hne : ¬ ((L1 : Nat) : Int) = ((k2 : Nat) : Int) := by omega
          have gi : 0 <= ((k2 : Nat) : Int) /\ ((k2 : Nat) : Int) < ((L1 : Nat) : Int) := by omega
          have hk2s : (k2 : Int) + 1 = ((k2 + 1 : Nat) : Int) := by omega
          have hk2L : k2 + 1 <= L1 := by omega
          have hL1s := hL1.symm
          have hC1s := hC1.symm
          have ho1s := ho1.symm
          have hS := Hid.mk hS1
          have hrf := Hid.mk hrf1
          have hKH := Hid.mk hKH4
          have hge := Hid.mk hgeB
          have hof := Hid.mk hoff3
          have hbad' := Hid.mk hbad
          have hAw : (A : Int) < (B : Int) /\ (B : Int) <= 256 := by omega
          generalize hTg : H2.length + 1 = T at *
          generalize hMg : H2.length + 3 = M at *
          generalize hmbg : mbOf H2.length = mb at *
          obtain ⟨P, hP⟩ : ∃ P, H2.length = P := ⟨_, rfl⟩
          rw [hP] at e3 hp3 hp4 hH4 hrf hge hpl3
          clear hbad hS1 hrf1 hKH4 hgeB hoff3 hrf0 hk1 hk2 hK2 h1 h2 t1 t3 t4 u1 u3 u4 hbt hbt1 hoff1 hk hr1l hk2' hL1 hC1 ho1 hL1l hwL hb3 hn hr3 hr3l hAB hk3 hst0 hK4 hfz hkl hP hTg hMg hmbg hbl hbl1 hC1l
          rcases (by omega : C1 = k2 + 1 \/ ¬ C1 = k2 + 1) with rfl | hck
          case' inl => rw [if_pos rfl] at hv3
          case' inr => rw [if_neg hck] at hv3
          all_goals
            subst hv3
            have hof' := hof
            (refine Ok.body body45 pin45 ?_; simp only [c45,Try.f45,Option.getD_some,nslot45,List.append_nil,List.map,List.replicate,List.length_cons,List.length_nil,Nat.reduceAdd,Nat.reduceSub,List.cons_append,List.nil_append])
            (repeat' (first | (simp -implicitDefEqProofs (maxSteps := 1000000) (disch := first | assumption | omega | (simp only [ZDI]; omega)) only [*,lenV,Nat.zero_add,Nat.add_zero,Nat.mul_one,Nat.sub_zero,SA.add,optArr_s,optArr_n,Array.toList_append,G45,Za,Zb,Zc,Zd,Ze,Zf,Zg,Zh,Zi,Zj,Zk,Zl,Zm,Zn,Zo,Ja,Jb,Jc,J6,Jd,Je,J7,J8,Jf,Jg,Jh,Ji,Jj,Jk,J9,Jl,Jm,wr,Jn,JA,JB,Jo,Jp,Jq,Jr,Js,Jt,Ju,Jv,Jw,Jx,Jy,Jz,J0,J1,J2,J3,J4,J5,reduceCtorEq,JC,JD,JE,JF,JG,JH,JI,JJ]) | ((with_reducible (first | apply Ok.br | apply Ok.gd | apply Ok.ld)) <;> (intro g; (try simp only [ZGS] at g); try (exfalso; omega)))))
            clear e1 e2 e3 hcell hbc hbc1 hbc2 hbc3 hbc4 hp3 hp4 hH4 hdec g1' g2' g3' hne gi hk2s hk2L hL1s hC1s ho1s hk0 hk20 hcapk
            refine Ok.loop [BT, BF, BT, BT, BF, BF, BF, BF, BT, BT, BT, BT, BT, BT, BF, BF, BF, BF, BF, BF, BF, BF, BF, BF, BF, BF, BF, BF, BF, BF, BF, BF, BF, BF, BF, BF, BF, BF, BF, BF, BF, BF, BF, BF, BF, BF, BF, BF, BF, BF, BF, BF, BF, BF, BF, BF, BF, BF, BF, BF, BF, BF, BF, BF, BF, BF, BF, BF, BF, BF, BF, BF, BF, BF, BF, BF, BT, BT, BT, BT, BT, BT, BT, BT, BT, BT, BT, BT, BT, BT, BT, BT, BT, BT, BT, BT, BT, BT, BT, BT, BT, BT, BT, BT, BT, BT, BT, BT, BT, BT, BT, BT, BT, BT, BT, BT, BT, BT, BT, BT, BT, BT, BT, BT, BT, BT, BT, BT, BT, BT, BT, BF, BF, BF, BF] (fun m s2 => ∃ (i : Nat) (cs : List CellT) (r : List UInt8) (w : V), m = n - i /\ i <= n /\ tv s2.e 76 = .v (.int .i64 i) /\ tv s2.e 0 = .v w /\ s2.l = [] /\ OffAt H w r /\ r.length <= 100000 /\ cs.length = i /\ RefAt s2.h P T M mb n (stoOf A B fz cs) /\ Keeps [] H s2.h /\ manyD cellD n r3 = (manyD cellD (n - i) r).map fun y => (cs ++ y.1, y.2))
              (fun y s2 => s2.l = [] /\ Keeps [] H s2.h /\ ((y = .exit 0 /\ ∃ (cs : List CellT) (r : List UInt8) (w : V), tv s2.e 0 = .v w /\ OffAt H w r /\ RefAt s2.h P T M mb n (stoOf A B fz cs) /\ manyD cellD n r3 = some (cs, r)) \/ (y = .ret /\ manyD cellD n r3 = none /\ tv s2.e 2 = .v .nilp /\ tv s2.e 3 = .v (.bool false))))
              (n - 0) ⟨0, [], r3, _, rfl, Nat.zero_le _, rfl, rfl, rfl, hof'.out, hr3b, rfl, hrf.out, by exact hKH.out, by rw [Nat.sub_zero]; cases manyD cellD n r3 <;> rfl⟩ ?_ ?_
            · intro m ⟨e', l', G⟩ hW ⟨i, cs, r, w, hm, hi, h76, h0, kl, hoff, hrl, hcl, hrfG, hkG, hMD⟩
              dsimp only at hW h76 h0 kl hrfG hkG
              subst l'
              rw [hW.spread]
              simp only [spread_t,spread_f,spread_n,Nat.zero_add,Nat.reduceAdd,h76,h0]
              clear hW hQ' hS hbad' hof hof'
              by_cases hlt : i < n
              · have hlt' : (i : Int) < (n : Int) := by omega
                have gin : 0 <= (i : Int) /\ (i : Int) < (n : Int) := by omega
                have hni : n - i = (n - (i + 1)) + 1 := by omega
                rw [hni, manyD] at hMD
                obtain ⟨yT, eT, G1, hyT, kT⟩ := takeText_at (hoff.keep hkG.kc) (by omega)
                subst hyT
                have hKG1 : Keeps [] H G1 := hkG.trans ⟨kT.1, fun i hi hF => kT.2 i hi hF⟩
                cases hcell1 : textD r with
                | none =>
                  rw [tt_none hcell1] at eT
                  have hnone : Hid (manyD cellD n r3 = none) := ⟨by rw [hMD]; unfold cellD; rw [hcell1]; rfl⟩
                  have hk := Hid.mk hKG1
                  obtain ⟨wa, wc, wz, rfl, _⟩ := hoff
                  clear hMD hKG1 kT hkG hrfG hcell1
                  (repeat' (first | (simp -implicitDefEqProofs (maxSteps := 1000000) (disch := first | assumption | omega | (simp only [ZDI]; omega)) only [*,lenV,Nat.zero_add,Nat.add_zero,Nat.mul_one,Nat.sub_zero,SA.add,optArr_s,optArr_n,Array.toList_append,G45,Za,Zb,Zc,Zd,Ze,Zf,Zg,Zh,Zi,Zj,Zk,Zl,Zm,Zn,Zo,Ja,Jb,Jc,J6,Jd,Je,J7,J8,Jf,Jg,Jh,Ji,Jj,Jk,J9,Jl,Jm,wr,Jn,JA,JB,Jo,Jp,Jq,Jr,Js,Jt,Ju,Jv,Jw,Jx,Jy,Jz,J0,J1,J2,J3,J4,J5,reduceCtorEq,JC,JD,JE,JF,JG,JH,JI,JJ]) | ((with_reducible (first | apply Ok.br | apply Ok.gd | apply Ok.ld)) <;> (intro g; (try simp only [ZGS] at g); try (exfalso; omega)))))
                  exact Turn.ret ⟨rfl, rfl, hk.out, .inr ⟨rfl, hnone.out, rfl, rfl⟩⟩
                | some xt =>
                  obtain ⟨t, q1⟩ := xt
                  obtain ⟨u1, u2, u3, u4⟩ := tt_some hcell1
                  rw [u1] at eT
                  obtain ⟨kk, hkk⟩ : ∃ k, k = r.length - q1.length := ⟨_, rfl⟩
                  rw [<- hkk] at eT u2 u3
                  have hkk0 : ¬ ((kk : Nat) : Int) = 0 := by omega
                  have eI := rIsText_at t G1
                  cases htb : textB t with
                  | false =>
                    rw [htb] at eI
                    have hnone : Hid (manyD cellD n r3 = none) := ⟨by rw [hMD]; unfold cellD; rw [hcell1]; simp only [Option.bind_some]; rw [if_pos htb]; rfl⟩
                    have hk := Hid.mk hKG1
                    obtain ⟨wa, wc, wz, rfl, _⟩ := hoff
                    clear hMD hKG1 kT hkG hrfG hcell1 u1 u3
                    (repeat' (first | (simp -implicitDefEqProofs (maxSteps := 1000000) (disch := first | assumption | omega | (simp only [ZDI]; omega)) only [*,lenV,Nat.zero_add,Nat.add_zero,Nat.mul_one,Nat.sub_zero,SA.add,optArr_s,optArr_n,Array.toList_append,G45,Za,Zb,Zc,Zd,Ze,Zf,Zg,Zh,Zi,Zj,Zk,Zl,Zm,Zn,Zo,Ja,Jb,Jc,J6,Jd,Je,J7,J8,Jf,Jg,Jh,Ji,Jj,Jk,J9,Jl,Jm,wr,Jn,JA,JB,Jo,Jp,Jq,Jr,Js,Jt,Ju,Jv,Jw,Jx,Jy,Jz,J0,J1,J2,J3,J4,J5,reduceCtorEq,JC,JD,JE,JF,JG,JH,JI,JJ]) | ((with_reducible (first | apply Ok.br | apply Ok.gd | apply Ok.ld)) <;> (intro g; (try simp only [ZGS] at g); try (exfalso; omega)))))
                    exact Turn.ret ⟨rfl, rfl, hk.out, .inr ⟨rfl, hnone.out, rfl, rfl⟩⟩
                  | true =>
                    rw [htb] at eI
                    have hMD2 : manyD cellD n r3 = ((manyD markD 4 q1).bind fun y => (manyD cellD (n - (i + 1)) y.2).map fun z => ((t, y.1) :: z.1, z.2)).map fun y => (cs ++ y.1, y.2) := by
                      rw [hMD]; congr 1
                      unfold cellD
                      rw [hcell1]
                      simp only [Option.bind_some]
                      rw [if_neg (by rw [htb]; exact Bool.noConfusion)]
                      cases manyD markD 4 q1 <;> rfl
                    obtain ⟨wa, wc, wz, hw, hwc, hwb⟩ := hoff
                    have hrl' : kk <= r.length := by omega
                    rcases hwb with hwb | ⟨b', o', rw', full', rfl, rfl, hwb1, hwb2, hwb3⟩
                    · exfalso; rw [hwb] at hkk; simp at hkk; omega
                    · subst hw
                      have hwb4 := hKG1.cells hwb1 (by simp)
                      have hrfG1 := hrfG.keeps kT (by simp)
                      obtain ⟨gT2, gM2, ts2, ms2, hp2, hT2, hTl2, hTs2, hM2, hMl2, hMs2⟩ := hrfG1.tm
                      have hput := hrfG1.put_text hT2 hlt t
                      rw [<- hcl, stoOf_T] at hput
                      rw [hcl] at hput
                      obtain ⟨G2, hG2⟩ : ∃ G, G1.set T (.cells gT2 true (ts2.set i (.str t))) = G := ⟨_, rfl⟩
                      rw [hG2] at hput
                      have hTge : H.length <= T := hge.out T (mem_refBlocks.2 (.inr (.inl rfl)))
                      have hKG2 : Keeps [] H G2 := by rw [<- hG2]; exact hKG1.set (.inr hTge) _
                      have hbT : b' ≠ T := by have := hcells_lt hwb1; omega
                      have hwb5 : hcells G2 b' 0 = some (rw', full') := by rw [<- hG2, hcells_set_ne hbT]; exact hwb4
                      have hof2 : OffAt H (if wc = kk then V.sl (.at b' 0 o') (r.length - kk) 0 0 else V.sl (.at b' 0 (o' + kk)) (r.length - kk) (wc - kk) 0) q1 := by
                        by_cases hck : wc = kk
                        · rw [if_pos hck, show r.length - kk = 0 by omega]
                          have : q1 = [] := List.length_eq_zero_iff.1 (by omega)
                          rw [this]; exact off_end
                        · rw [if_neg hck, u3]; exact off_cut hwb1 hwb2 hwb3 hwc hrl' hck
                      have hq1l : q1.length <= 100000 := by omega
                      have hput' := Hid.mk hput
                      have hKG2' := Hid.mk hKG2
                      have hMDn : Hid (manyD markD 4 q1 = none -> manyD cellD n r3 = none) := ⟨fun e => by rw [hMD2, e]; rfl⟩
                      have hMDs : Hid (∀ ms q, manyD markD 4 q1 = some (ms, q) -> manyD cellD n r3 = (manyD cellD (n - (i + 1)) q).map fun y => ((cs ++ [(t, ms)]) ++ y.1, y.2)) := ⟨fun ms q e => by
                        rw [hMD2, e]
                        simp only [Option.bind_some,Option.map_map,Function.comp_def,List.append_assoc,List.cons_append,List.nil_append]⟩
                      have hcl' := Hid.mk hcl
                      clear hMD hMD2 hput hKG2 hKG1 kT hkG hrfG hrfG1 hTs2 hM2 hMl2 hMs2 hwb1 hwb3 hcell1 u1 u3 u4 hbT htb hTge hcl hkk
                      rcases (by omega : wc = kk \/ ¬ wc = kk) with rfl | hck
                      case' inl => rw [if_pos rfl] at hof2
                      case' inr => rw [if_neg hck] at hof2
                      all_goals
                        have hof2' := Hid.mk hof2
                        clear hof2
                        (repeat' (first | (simp -implicitDefEqProofs (maxSteps := 1000000) (disch := first | assumption | omega | (simp only [ZDI]; omega)) only [*,lenV,Nat.zero_add,Nat.add_zero,Nat.mul_one,Nat.sub_zero,SA.add,optArr_s,optArr_n,Array.toList_append,G45,Za,Zb,Zc,Zd,Ze,Zf,Zg,Zh,Zi,Zj,Zk,Zl,Zm,Zn,Zo,Ja,Jb,Jc,J6,Jd,Je,J7,J8,Jf,Jg,Jh,Ji,Jj,Jk,J9,Jl,Jm,wr,Jn,JA,JB,Jo,Jp,Jq,Jr,Js,Jt,Ju,Jv,Jw,Jx,Jy,Jz,J0,J1,J2,J3,J4,J5,reduceCtorEq,JC,JD,JE,JF,JG,JH,JI,JJ]) | ((with_reducible (first | apply Ok.br | apply Ok.gd | apply Ok.ld)) <;> (intro g; (try simp only [ZGS] at g); try (exfalso; omega)))))
                        clear eT eI hp2 hT2 hG2 hwb4 hwb5 hTl2 hwc hwb2 hrl' hkk0 u2
                        refine Ok.loop [BT, BF, BT, BT, BF, BF, BF, BF, BF, BF, BF, BT, BT, BT, BF, BF, BF, BF, BF, BF, BF, BF, BF, BF, BF, BF, BF, BF, BF, BF, BF, BF, BF, BF, BF, BF, BF, BF, BF, BF, BF, BF, BF, BF, BF, BF, BF, BF, BF, BF, BF, BF, BF, BF, BF, BF, BF, BF, BF, BF, BF, BF, BF, BF, BF, BF, BF, BF, BF, BF, BF, BF, BF, BF, BF, BF, BF, BF, BF, BF, BF, BF, BF, BF, BF, BF, BF, BF, BF, BF, BF, BF, BF, BF, BF, BF, BF, BF, BF, BF, BF, BT, BT, BT, BT, BT, BT, BT, BT, BT, BT, BT, BT, BT, BT, BT, BT, BT, BT, BT, BT, BT, BT, BT, BT, BT, BT, BT, BT, BT, BF, BF, BF, BF, BF] (fun m s3 => ∃ (k : Nat) (ms : List Nat) (q : List UInt8) (w' : V), m = 4 - k /\ k <= 4 /\ tv s3.e 11 = .v (.int .i64 k) /\ tv s3.e 0 = .v w' /\ s3.l = [] /\ OffAt H w' q /\ q.length <= 100000 /\ ms.length = k /\ RefAt s3.h P T M mb n (stoOf A B fz (cs ++ [(t, ms)])) /\ Keeps [] H s3.h /\ manyD markD 4 q1 = (manyD markD (4 - k) q).map fun y => (ms ++ y.1, y.2))
                          (fun y s3 => s3.l = [] /\ Keeps [] H s3.h /\ ((y = .exit 2 /\ ∃ (ms : List Nat) (q : List UInt8) (w' : V), tv s3.e 0 = .v w' /\ OffAt H w' q /\ q.length <= 100000 /\ RefAt s3.h P T M mb n (stoOf A B fz (cs ++ [(t, ms)])) /\ manyD markD 4 q1 = some (ms, q)) \/ (y = .ret /\ manyD markD 4 q1 = none /\ tv s3.e 2 = .v .nilp /\ tv s3.e 3 = .v (.bool false))))
                          (4 - 0) ⟨0, [], q1, _, rfl, by omega, rfl, rfl, rfl, hof2'.out, hq1l, rfl, by exact hput'.out, by exact hKG2'.out, by rw [Nat.sub_zero]; cases manyD markD 4 q1 <;> rfl⟩ ?_ ?_
                        · intro m ⟨e2, l2, G3⟩ hW2 ⟨k, ms, q, w', hm2, hk4, h11, h0', kl2, hoff2, hql, hml, hrf3, hk3, hMM⟩
                          dsimp only at hW2 h11 h0' kl2 hrf3 hk3
                          subst l2
                          rw [hW2.spread]
                          simp only [spread_t,spread_f,spread_n,Nat.zero_add,Nat.reduceAdd,h11,h0']
                          clear hW2 hput' hKG2' hMDn hMDs hof2'
                          by_cases hk : k < 4
                          · have hk' : (k : Int) < 4 := by omega
                            have gk : 0 <= (k : Int) /\ (k : Int) < ((4 : Nat) : Int) := by omega
                            have h4k : 4 - k = (4 - (k + 1)) + 1 := by omega
                            have hun : manyD markD (4 - k) q = (markD q).bind fun x => (manyD markD (4 - (k + 1)) x.2).map fun y => (x.1 :: y.1, y.2) := by rw [h4k, manyD]
                            rw [hun] at hMM
                            clear hun
                            obtain ⟨yN, eN, G4, hyN, kN⟩ := takeNum_at (hoff2.keep hk3.kc) (by omega)
                            subst hyN
                            have hKG4 : Keeps [] H G4 := hk3.trans ⟨kN.1, fun i hi hF => kN.2 i hi hF⟩
                            cases hnum : numD q with
                            | none =>
                              rw [tk_none hnum] at eN
                              have hnone : Hid (manyD markD 4 q1 = none) := ⟨by rw [hMM]; unfold markD; rw [hnum]; rfl⟩
                              have hkk4 := Hid.mk hKG4
                              obtain ⟨wa, wc, wz, rfl, _⟩ := hoff2
                              clear hMM hKG4 kN hk3 hrf3 hnum
                              (repeat' (first | (simp -implicitDefEqProofs (maxSteps := 1000000) (disch := first | assumption | omega | (simp only [ZDI]; omega)) only [*,lenV,Nat.zero_add,Nat.add_zero,Nat.mul_one,Nat.sub_zero,SA.add,optArr_s,optArr_n,Array.toList_append,G45,Za,Zb,Zc,Zd,Ze,Zf,Zg,Zh,Zi,Zj,Zk,Zl,Zm,Zn,Zo,Ja,Jb,Jc,J6,Jd,Je,J7,J8,Jf,Jg,Jh,Ji,Jj,Jk,J9,Jl,Jm,wr,Jn,JA,JB,Jo,Jp,Jq,Jr,Js,Jt,Ju,Jv,Jw,Jx,Jy,Jz,J0,J1,J2,J3,J4,J5,reduceCtorEq,JC,JD,JE,JF,JG,JH,JI,JJ]) | ((with_reducible (first | apply Ok.br | apply Ok.gd | apply Ok.ld)) <;> (intro g; (try simp only [ZGS] at g); try (exfalso; omega)))))
                              exact Turn.ret ⟨rfl, rfl, hkk4.out, .inr ⟨rfl, hnone.out, rfl, rfl⟩⟩
                            | some xn =>
                              obtain ⟨mN, q2⟩ := xn
                              obtain ⟨u1, u2, u3, u4⟩ := tk_some hnum
                              rw [u1] at eN
                              obtain ⟨kk, hkk⟩ : ∃ k, k = q.length - q2.length := ⟨_, rfl⟩
                              rw [<- hkk] at eN u2 u3
                              have hkk0 : ¬ ((kk : Nat) : Int) = 0 := by omega
                              by_cases hbig : 1099511627776 < mN
                              · have hbig' : (1099511627776 : Int) < (mN : Int) := by omega
                                have hnone : Hid (manyD markD 4 q1 = none) := ⟨by rw [hMM]; unfold markD; rw [hnum]; simp only [Option.bind_some]; rw [if_pos hbig]; rfl⟩
                                have hkk4 := Hid.mk hKG4
                                obtain ⟨wa, wc, wz, rfl, _⟩ := hoff2
                                clear hMM hKG4 kN hk3 hrf3 hnum u1 u3 hkk
                                (repeat' (first | (simp -implicitDefEqProofs (maxSteps := 1000000) (disch := first | assumption | omega | (simp only [ZDI]; omega)) only [*,lenV,Nat.zero_add,Nat.add_zero,Nat.mul_one,Nat.sub_zero,SA.add,optArr_s,optArr_n,Array.toList_append,G45,Za,Zb,Zc,Zd,Ze,Zf,Zg,Zh,Zi,Zj,Zk,Zl,Zm,Zn,Zo,Ja,Jb,Jc,J6,Jd,Je,J7,J8,Jf,Jg,Jh,Ji,Jj,Jk,J9,Jl,Jm,wr,Jn,JA,JB,Jo,Jp,Jq,Jr,Js,Jt,Ju,Jv,Jw,Jx,Jy,Jz,J0,J1,J2,J3,J4,J5,reduceCtorEq,JC,JD,JE,JF,JG,JH,JI,JJ]) | ((with_reducible (first | apply Ok.br | apply Ok.gd | apply Ok.ld)) <;> (intro g; (try simp only [ZGS] at g); try (exfalso; omega)))))
                                exact Turn.ret ⟨rfl, rfl, hkk4.out, .inr ⟨rfl, hnone.out, rfl, rfl⟩⟩
                              · have hbig' : ¬ (1099511627776 : Int) < (mN : Int) := by omega
                                have hMM2 : Hid (manyD markD 4 q1 = (manyD markD (4 - (k + 1)) q2).map fun y => ((ms ++ [mN]) ++ y.1, y.2)) := ⟨by
                                  rw [hMM]
                                  have : markD q = some (mN, q2) := by unfold markD; rw [hnum]; simp only [Option.bind_some]; rw [if_neg hbig]
                                  rw [this]
                                  simp only [Option.bind_some,Option.map_map,Function.comp_def,List.append_assoc,List.cons_append,List.nil_append]⟩
                                obtain ⟨wa, wc, wz, hw, hwc, hwb⟩ := hoff2
                                have hrl' : kk <= q.length := by omega
                                rcases hwb with hwb | ⟨b', o', rw', full', rfl, rfl, hwb1, hwb2, hwb3⟩
                                · exfalso; rw [hwb] at hkk; simp at hkk; omega
                                · subst hw
                                  have hrf4 := hrf3.keeps kN (by simp)
                                  obtain ⟨gT2, gM2, ts2, ms2, hp2, hT2, hTl2, hTs2, hM2, hMl2, hMs2⟩ := hrf4.tm
                                  obtain ⟨qm, hqm, hqml, _⟩ := hrf4.mks i hlt
                                  have hmi := hMs2 i hlt
                                  have hput := hrf4.put_mark hlt hqm hk (mN : Int)
                                  rw [<- hcl'.out, <- hml, stoOf_M] at hput
                                  rw [hcl'.out, hml] at hput
                                  obtain ⟨G5, hG5⟩ : ∃ G, G4.set (mb i) (.cells 0 true (qm.set k (.int .i64 (mN : Int)))) = G := ⟨_, rfl⟩
                                  rw [hG5] at hput
                                  have hmge : H.length <= mb i := hge.out _ (mem_refBlocks.2 (.inr (.inr (.inr ⟨i, hlt, rfl⟩))))
                                  have hKG5 : Keeps [] H G5 := by rw [<- hG5]; exact hKG4.set (.inr hmge) _
                                  have hof2 : OffAt H (if wc = kk then V.sl (.at b' 0 o') (q.length - kk) 0 0 else V.sl (.at b' 0 (o' + kk)) (q.length - kk) (wc - kk) 0) q2 := by
                                    by_cases hck : wc = kk
                                    · rw [if_pos hck, show q.length - kk = 0 by omega]
                                      have : q2 = [] := List.length_eq_zero_iff.1 (by omega)
                                      rw [this]; exact off_end
                                    · rw [if_neg hck, u3]; exact off_cut hwb1 hwb2 hwb3 hwc hrl' hck
                                  have hq2l : q2.length <= 100000 := by omega
                                  have hput2 := Hid.mk hput
                                  have hKG6 := Hid.mk hKG5
                                  have hml' := Hid.mk hml
                                  clear hMM hput hKG5 hKG4 kN hk3 hrf3 hrf4 hTs2 hT2 hTl2 hMs2 hwb1 hwb3 hnum u1 u3 u4 hmge hml hkk
                                  rcases (by omega : wc = kk \/ ¬ wc = kk) with rfl | hck
                                  case' inl => rw [if_pos rfl] at hof2
                                  case' inr => rw [if_neg hck] at hof2
                                  all_goals
                                    have hof3 := Hid.mk hof2
                                    clear hof2
                                    (repeat' (first | (simp -implicitDefEqProofs (maxSteps := 1000000) (disch := first | assumption | omega | (simp only [ZDI]; omega)) only [*,lenV,Nat.zero_add,Nat.add_zero,Nat.mul_one,Nat.sub_zero,SA.add,optArr_s,optArr_n,Array.toList_append,G45,Za,Zb,Zc,Zd,Ze,Zf,Zg,Zh,Zi,Zj,Zk,Zl,Zm,Zn,Zo,Ja,Jb,Jc,J6,Jd,Je,J7,J8,Jf,Jg,Jh,Ji,Jj,Jk,J9,Jl,Jm,wr,Jn,JA,JB,Jo,Jp,Jq,Jr,Js,Jt,Ju,Jv,Jw,Jx,Jy,Jz,J0,J1,J2,J3,J4,J5,reduceCtorEq,JC,JD,JE,JF,JG,JH,JI,JJ]) | ((with_reducible (first | apply Ok.br | apply Ok.gd | apply Ok.ld)) <;> (intro g; (try simp only [ZGS] at g); try (exfalso; omega)))))
                                    exact Turn.next (4 - (k + 1)) (by omega) ⟨rfl, k + 1, ms ++ [mN], q2, _, rfl, by omega, rfl, rfl, rfl, hof3.out, hq2l, by rw [List.length_append, hml'.out]; rfl, by exact hput2.out, by exact hKG6.out, hMM2.out⟩
                          · have hk' : ¬ (k : Int) < 4 := by omega
                            have hk0 : 4 - k = 0 := by omega
                            have hun : manyD markD (4 - k) q = some ([], q) := by rw [hk0, manyD]
                            rw [hun] at hMM
                            clear hun
                            have hMM2 : Hid (manyD markD 4 q1 = some (ms, q)) := ⟨by rw [hMM]; simp⟩
                            have hof3 := Hid.mk hoff2
                            have hrf5 := Hid.mk hrf3
                            have hk5 := Hid.mk hk3
                            obtain ⟨wa, wc, wz, rfl, _⟩ := hoff2
                            clear hMM hrf3 hk3 hml
                            (repeat' (first | (simp -implicitDefEqProofs (maxSteps := 1000000) (disch := first | assumption | omega | (simp only [ZDI]; omega)) only [*,lenV,Nat.zero_add,Nat.add_zero,Nat.mul_one,Nat.sub_zero,SA.add,optArr_s,optArr_n,Array.toList_append,G45,Za,Zb,Zc,Zd,Ze,Zf,Zg,Zh,Zi,Zj,Zk,Zl,Zm,Zn,Zo,Ja,Jb,Jc,J6,Jd,Je,J7,J8,Jf,Jg,Jh,Ji,Jj,Jk,J9,Jl,Jm,wr,Jn,JA,JB,Jo,Jp,Jq,Jr,Js,Jt,Ju,Jv,Jw,Jx,Jy,Jz,J0,J1,J2,J3,J4,J5,reduceCtorEq,JC,JD,JE,JF,JG,JH,JI,JJ]) | ((with_reducible (first | apply Ok.br | apply Ok.gd | apply Ok.ld)) <;> (intro g; (try simp only [ZGS] at g); try (exfalso; omega)))))
                            exact Turn.exit ⟨rfl, rfl, hk5.out, .inl ⟨rfl, ms, q, _, rfl, hof3.out, hql, hrf5.out, hMM2.out⟩⟩
                        · intro y ⟨e2, l2, G3⟩ hW2 ⟨kl2, hk3, hcase⟩
                          dsimp only at hW2 kl2 hk3 hcase
                          subst l2
                          rw [hW2.spread]
                          clear hW2
                          rcases hcase with ⟨rfl, ms, q, w', h0', hoff2, hql, hrf3, hMM⟩ | ⟨rfl, hMM, h2', h3'⟩
                          · simp only [spread_t,spread_f,spread_n,Nat.zero_add,Nat.reduceAdd,h0']
                            have hMs := Hid.mk (hMDs.out _ _ hMM)
                            have hof3 := Hid.mk hoff2
                            have hrf5 := Hid.mk hrf3
                            have hk5 := Hid.mk hk3
                            obtain ⟨wa, wc, wz, rfl, _⟩ := hoff2
                            clear hMM hrf3 hk3 hput' hKG2' hMDn hMDs hof2'
                            (repeat' (first | (simp -implicitDefEqProofs (maxSteps := 1000000) (disch := first | assumption | omega | (simp only [ZDI]; omega)) only [*,lenV,Nat.zero_add,Nat.add_zero,Nat.mul_one,Nat.sub_zero,SA.add,optArr_s,optArr_n,Array.toList_append,G45,Za,Zb,Zc,Zd,Ze,Zf,Zg,Zh,Zi,Zj,Zk,Zl,Zm,Zn,Zo,Ja,Jb,Jc,J6,Jd,Je,J7,J8,Jf,Jg,Jh,Ji,Jj,Jk,J9,Jl,Jm,wr,Jn,JA,JB,Jo,Jp,Jq,Jr,Js,Jt,Ju,Jv,Jw,Jx,Jy,Jz,J0,J1,J2,J3,J4,J5,reduceCtorEq,JC,JD,JE,JF,JG,JH,JI,JJ]) | ((with_reducible (first | apply Ok.br | apply Ok.gd | apply Ok.ld)) <;> (intro g; (try simp only [ZGS] at g); try (exfalso; omega)))))
                            exact Turn.next (n - (i + 1)) (by omega) ⟨rfl, i + 1, cs ++ [(t, ms)], q, _, rfl, by omega, rfl, rfl, rfl, hof3.out, hql, by rw [List.length_append, hcl'.out]; rfl, hrf5.out, hk5.out, hMs.out⟩
                          · simp only [spread_t,spread_f,spread_n,Nat.zero_add,Nat.reduceAdd,h2',h3']
                            have hMn := Hid.mk (hMDn.out hMM)
                            have hk5 := Hid.mk hk3
                            clear hMM hk3 hput' hKG2' hMDn hMDs hof2'
                            (repeat' (first | (simp -implicitDefEqProofs (maxSteps := 1000000) (disch := first | assumption | omega | (simp only [ZDI]; omega)) only [*,lenV,Nat.zero_add,Nat.add_zero,Nat.mul_one,Nat.sub_zero,SA.add,optArr_s,optArr_n,Array.toList_append,G45,Za,Zb,Zc,Zd,Ze,Zf,Zg,Zh,Zi,Zj,Zk,Zl,Zm,Zn,Zo,Ja,Jb,Jc,J6,Jd,Je,J7,J8,Jf,Jg,Jh,Ji,Jj,Jk,J9,Jl,Jm,wr,Jn,JA,JB,Jo,Jp,Jq,Jr,Js,Jt,Ju,Jv,Jw,Jx,Jy,Jz,J0,J1,J2,J3,J4,J5,reduceCtorEq,JC,JD,JE,JF,JG,JH,JI,JJ]) | ((with_reducible (first | apply Ok.br | apply Ok.gd | apply Ok.ld)) <;> (intro g; (try simp only [ZGS] at g); try (exfalso; omega)))))
                            exact Turn.ret ⟨rfl, rfl, hk5.out, .inr ⟨rfl, hMn.out, rfl, rfl⟩⟩
              · have hlt' : ¬ (i : Int) < (n : Int) := by omega
                have hin : n - i = 0 := by omega
                rw [hin, manyD] at hMD
                have hMD2 : Hid (manyD cellD n r3 = some (cs, r)) := ⟨by rw [hMD]; simp⟩
                have hof3 := Hid.mk hoff
                have hrf3 := Hid.mk hrfG
                have hk3 := Hid.mk hkG
                obtain ⟨wa, wc, wz, rfl, _⟩ := hoff
                clear hMD hrfG hkG
                (repeat' (first | (simp -implicitDefEqProofs (maxSteps := 1000000) (disch := first | assumption | omega | (simp only [ZDI]; omega)) only [*,lenV,Nat.zero_add,Nat.add_zero,Nat.mul_one,Nat.sub_zero,SA.add,optArr_s,optArr_n,Array.toList_append,G45,Za,Zb,Zc,Zd,Ze,Zf,Zg,Zh,Zi,Zj,Zk,Zl,Zm,Zn,Zo,Ja,Jb,Jc,J6,Jd,Je,J7,J8,Jf,Jg,Jh,Ji,Jj,Jk,J9,Jl,Jm,wr,Jn,JA,JB,Jo,Jp,Jq,Jr,Js,Jt,Ju,Jv,Jw,Jx,Jy,Jz,J0,J1,J2,J3,J4,J5,reduceCtorEq,JC,JD,JE,JF,JG,JH,JI,JJ]) | ((with_reducible (first | apply Ok.br | apply Ok.gd | apply Ok.ld)) <;> (intro g; (try simp only [ZGS] at g); try (exfalso; omega)))))
                exact Turn.exit ⟨rfl, rfl, hk3.out, .inl ⟨rfl, cs, r, _, rfl, hof3.out, hrf3.out, hMD2.out⟩⟩
            · intro y ⟨e', l', G⟩ hW ⟨kl, hkG, hcase⟩
              dsimp only at hW kl hkG hcase
              subst l'
              rw [hW.spread]
              clear hW
              rcases hcase with ⟨rfl, cs, r, w, h0, hoff, hrfG, hMD⟩ | ⟨rfl, hMD, h2, h3⟩
              · simp only [spread_t,spread_f,spread_n,Nat.zero_add,Nat.reduceAdd,h0]
                obtain ⟨wa, wc, wz, rfl, _⟩ := hoff
                have hq : Hid (Q (.tup [.ptr P 0 0, .bool (decide ((r.length : Int) = 0))], G)) := by
                  refine ⟨?_⟩
                  have hS' := hS.out
                  rw [hMD] at hS'
                  simp only [Option.bind_some] at hS'
                  cases r with
                  | nil =>
                    rw [if_pos rfl] at hS'
                    have hn' : (stoOf A B fz cs).n = n := by show (((B : Nat) : Int) - ((A : Nat) : Int)).toNat = n; have := hBA.out; omega
                    exact hQ'.out _ ⟨hkG, .inr ⟨_, P, T, M, mb, rfl, hS', by rw [hn']; exact hrfG, by rw [hn']; exact hge.out⟩⟩
                  | cons c' r' =>
                    rw [if_neg (by simp)] at hS'
                    have e : decide (((c' :: r').length : Int) = 0) = false := decide_eq_false (by rw [List.length_cons]; omega)
                    rw [e]
                    exact (hbad'.out _ G hS' hkG).out
                clear hS hbad' hQ' hkG hrfG hMD hof hof'
                (repeat' (first | (simp -implicitDefEqProofs (maxSteps := 1000000) (disch := first | assumption | omega | (simp only [ZDI]; omega)) only [*,lenV,Nat.zero_add,Nat.add_zero,Nat.mul_one,Nat.sub_zero,SA.add,optArr_s,optArr_n,Array.toList_append,G45,Za,Zb,Zc,Zd,Ze,Zf,Zg,Zh,Zi,Zj,Zk,Zl,Zm,Zn,Zo,Ja,Jb,Jc,J6,Jd,Je,J7,J8,Jf,Jg,Jh,Ji,Jj,Jk,J9,Jl,Jm,wr,Jn,JA,JB,Jo,Jp,Jq,Jr,Js,Jt,Ju,Jv,Jw,Jx,Jy,Jz,J0,J1,J2,J3,J4,J5,reduceCtorEq,JC,JD,JE,JF,JG,JH,JI,JJ]) | ((with_reducible (first | apply Ok.br | apply Ok.gd | apply Ok.ld)) <;> (intro g; (try simp only [ZGS] at g); try (exfalso; omega)))))
                exact hq.out
              · simp only [spread_t,spread_f,spread_n,Nat.zero_add,Nat.reduceAdd,h2,h3]
                have hq := hbad'.out .nilp G (by rw [hS.out, hMD]; rfl) hkG
                clear hS hbad' hQ' hkG hMD hof hof'
                (repeat' (first | (simp -implicitDefEqProofs (maxSteps := 1000000) (disch := first | assumption | omega | (simp only [ZDI]; omega)) only [*,lenV,Nat.zero_add,Nat.add_zero,Nat.mul_one,Nat.sub_zero,SA.add,optArr_s,optArr_n,Array.toList_append,G45,Za,Zb,Zc,Zd,Ze,Zf,Zg,Zh,Zi,Zj,Zk,Zl,Zm,Zn,Zo,Ja,Jb,Jc,J6,Jd,Je,J7,J8,Jf,Jg,Jh,Ji,Jj,Jk,J9,Jl,Jm,wr,Jn,JA,JB,Jo,Jp,Jq,Jr,Js,Jt,Ju,Jv,Jw,Jx,Jy,Jz,J0,J1,J2,J3,J4,J5,reduceCtorEq,JC,JD,JE,JF,JG,JH,JI,JJ]) | ((with_reducible (first | apply Ok.br | apply Ok.gd | apply Ok.ld)) <;> (intro g; (try simp only [ZGS] at g); try (exfalso; omega)))))
                exact hq.out
end Go.Ev
