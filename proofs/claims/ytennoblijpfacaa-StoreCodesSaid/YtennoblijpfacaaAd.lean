/-
Texts of this claim, one behind the other.
-/
import Derived.Test.YtennoblijpfacaaAc
set_option linter.unusedSimpArgs false
set_option linter.unusedVariables false
set_option maxRecDepth 100000
set_option maxRecDepth 100000
namespace Go.Ev
open Go.Ev renaming exPure -> Ja, ofValue -> Jb, cellsV -> Jc, load -> Jd, store -> Je, binOp -> Jf, intOp -> Jg, rdV -> Jh, vsame -> Ji, vsames -> Jj, makeSliceV -> Jk, resV -> Jl, isCell -> Jm, nilCheckV -> Jn, allV -> Jo, builtinV -> Jp, lenV -> Jq, indexAddrV -> Jr, unOp -> Js, minmaxV -> Jt, minmax -> Ju, sliceV -> Jv, asInt -> Jw, appendV -> Jx, forkB -> Jy, roY -> Jz, rwB -> J0, copyV -> J1, clearV -> J2, convV -> J3, sliceCells -> J4, shift -> J5
open Bool renaming true -> BT, false -> BF
open Nat renaming reduceEqDiff -> J6, reduceLT -> J7, reduceAdd -> J8, reduceBEq -> J9, reduceSub -> JA, reduceMul -> JB, reduceLeDiff -> JJ
open Int renaming reduceLT -> JC, reduceLE -> JD, reduceAdd -> JE, reduceSub -> JF, reduceNeg -> JG, reduceToNat -> JH, reduceEq -> JI
open Go.Proofs
def Bys (H : Heap) (bs : List UInt8) (y : V × Heap) : Prop := ∃ b g z, y.1 = .sl (.at b g 0) bs.length bs.length z /\ (z = 0 \/ z = 1) /\ hcells y.2 b g = some (true, bV bs) /\ H.length <= b /\ Keeps [] H y.2
theorem hc_new {H : Heap} {r : Bool} {c : List V} : hcells (H ++ [.cells 0 r c]) H.length 0 = some (r, c) := by
  rw [hcells_ge (Nat.le_refl _), Nat.sub_self]; exact grd_t rfl _
theorem hc_new2 {H : Heap} {x : Blk} {r : Bool} {c : List V} : hcells (H ++ [x, .cells 0 r c]) (H.length + 1) 0 = some (r, c) := by
  rw [hcells_ge (by omega), Nat.add_sub_cancel_left]; exact grd_t rfl _
theorem rem_at (m : Nat) : IntKind.u8.wrap ((m : Int).tmod 128) = ((UInt8.ofNat (m % 128)).toNat : Nat) := by
  have : (m : Int).tmod 128 = ((m % 128 : Nat) : Int) := by rw [Int.tmod_eq_emod_of_nonneg (by omega)]; omega
  rw [this, wrap8, UInt8.toNat_ofNat']
theorem rem2_at (m : Nat) : IntKind.u8.wrap (IntKind.u8.wrap ((m : Int).tmod 128) + 128) = ((UInt8.ofNat (m % 128 + 128)).toNat : Nat) := by
  rw [rem_at, UInt8.toNat_ofNat']
  have : ((m % 128 % 2 ^ 8 : Nat) : Int) + 128 = ((m % 128 + 128 : Nat) : Int) := by omega
  rw [this, wrap8, UInt8.toNat_ofNat']
theorem quo_at {m : Nat} (h : m < 18446744073709551616) : IntKind.u64.wrap ((m : Int).tdiv 128) = ((m / 128 : Nat) : Int) := by
  have : (m : Int).tdiv 128 = ((m / 128 : Nat) : Int) := by rw [Int.tdiv_eq_ediv_of_nonneg (by omega)]; omega
  rw [this, wrapU (by omega)]
set_option maxHeartbeats 4000000 in
theorem rNum_at {H : Heap} {n : Nat} (hn : n < 18446744073709551616) : Ev.Ok (D X (.fn 67 []) [.int .u64 (n : Nat)] H) (Bys H (numE n)) := by
  refine Ok.aim fun Q hQ => ?_
  have hQ' := Hid.mk hQ
  clear hQ
  have hr0 := rem_at n
  have hlen := numE_len hn
  (refine Ok.body body67 pin67 ?_; simp only [c67,Try.f67,Option.getD_some,nslot67,List.append_nil,List.map,List.replicate,List.length_cons,List.length_nil,Nat.reduceAdd,Nat.reduceSub,List.cons_append,List.nil_append])
  (repeat' (first | (simp -implicitDefEqProofs (maxSteps := 1000000) (disch := first | assumption | omega | (simp only [ZDI]; omega)) only [*,G67,Za,Zb,Zc,Zd,Ze,Zf,Zg,Zh,Zi,Zj,Zk,Zl,Zm,Zn,Zo,Ja,Jb,Jc,J6,Jd,Je,J7,J8,Jf,Jg,Jh,Ji,Jj,Jk,J9,Jl,Jm,wr,Jn,JA,JB,Jo,Jp,Jq,Jr,Js,Jt,Ju,Jv,Jw,Jx,Jy,Jz,J0,J1,J2,J3,J4,J5,reduceCtorEq,JC,JD,JE,JF,JG,JH,JI,JJ]) | ((with_reducible (first | apply Ok.br | apply Ok.gd | apply Ok.ld)) <;> (intro g; (try simp only [ZGS] at g); try (exfalso; omega)))))
  clear hr0
  refine Ok.loop [BT, BF, BF, BT, BF, BF, BF, BF, BT, BT, BT, BT, BT, BT, BT, BT, BT, BT, BT, BF] (fun k s2 => ∃ (m : Nat) (tl : List UInt8) (b g z : Nat), k = m /\ tv s2.e 0 = .v (.int .u64 (m : Nat)) /\ tv s2.e 3 = .v (.sl (.at b g 0) tl.length tl.length z) /\ (z = 0 \/ z = 1) /\ s2.l = [] /\ hcells s2.h b g = some (true, bV tl) /\ H.length <= b /\ Keeps [] H s2.h /\ numE n = hiE (m / 128) ++ tl /\ m <= n /\ 0 < tl.length)
    (fun y s2 => y = .exit 0 /\ ∃ (b g z : Nat), tv s2.e 3 = .v (.sl (.at b g 0) (numE n).length (numE n).length z) /\ (z = 0 \/ z = 1) /\ s2.l = [] /\ hcells s2.h b g = some (true, bV (numE n)) /\ H.length <= b /\ Keeps [] H s2.h)
    n ⟨n, [UInt8.ofNat (n % 128)], H.length, 0, 0, rfl, rfl, rfl, .inl rfl, rfl, hc_new, Nat.le_refl _, .app _ _ _, rfl, Nat.le_refl _, by simp⟩ ?_ ?_
  · intro k ⟨e', l', g⟩ hW ⟨m, tl, b, q, z, hm, h0, h3, hz, k2, hc, hb0, hk, hnum, hmn, htl⟩
    dsimp only at hW h0 h3 k2 hc hk
    subst l'
    rw [hW.spread]
    simp only [spread_t,spread_f,spread_n,Nat.zero_add,Nat.reduceAdd,h0,h3]
    clear hW hQ'
    have hb := hcells_lt hc
    have hlt : tl.length <= 10 := by rw [hnum, List.length_append] at hlen; omega
    have hnum' := Hid.mk hnum
    have hk' := Hid.mk hk
    clear hnum hk
    by_cases hge : 128 <= m
    · have hge' : (128 : Int) <= (m : Int) := by omega
      have hq := quo_at (m := m) (by omega)
      have hr := rem2_at (m / 128)
      have ht := bV_take tl
      have hle : tl.length <= (bV tl).length := by rw [bV_len]; exact Nat.le_refl _
      have hne : ¬ tl.length = 0 := by omega
      have hn1 : ¬ 1 + tl.length <= 1 := by omega
      have hL : (1 + tl.length) * 1 <= 35184372088832 /\ 1 + tl.length <= 35184372088832 := by omega
      (repeat' (first | (simp -implicitDefEqProofs (maxSteps := 1000000) (disch := first | assumption | omega | (simp only [ZDI]; omega)) only [*,lenV,List.drop_zero,Nat.zero_add,Nat.mul_one,G67,Za,Zb,Zc,Zd,Ze,Zf,Zg,Zh,Zi,Zj,Zk,Zl,Zm,Zn,Zo,Ja,Jb,Jc,J6,Jd,Je,J7,J8,Jf,Jg,Jh,Ji,Jj,Jk,J9,Jl,Jm,wr,Jn,JA,JB,Jo,Jp,Jq,Jr,Js,Jt,Ju,Jv,Jw,Jx,Jy,Jz,J0,J1,J2,J3,J4,J5,reduceCtorEq,JC,JD,JE,JF,JG,JH,JI,JJ]) | ((with_reducible (first | apply Ok.br | apply Ok.gd | apply Ok.ld)) <;> (intro g; (try simp only [ZGS] at g); try (exfalso; omega)))))
      exact Turn.next (m / 128) (by omega) ⟨rfl, m / 128, UInt8.ofNat (m / 128 % 128 + 128) :: tl, g.length + 1, 0, 1, rfl, rfl, by simp only [List.length_cons,Nat.add_comm tl.length 1]; rfl, .inr rfl, rfl, hc_new2, by have := hk'.out.1; omega, hk'.out.snoc _, by rw [hnum'.out, hiE, if_neg (by omega), List.append_assoc]; rfl, by omega, by simp⟩
    · have hge' : ¬ (128 : Int) <= (m : Int) := by omega
      have e : tl = numE n := by rw [hnum'.out, show m / 128 = 0 by omega, hiE]; simp
      subst e
      (repeat' (first | (simp -implicitDefEqProofs (maxSteps := 1000000) (disch := first | assumption | omega | (simp only [ZDI]; omega)) only [*,lenV,List.drop_zero,Nat.zero_add,Nat.mul_one,G67,Za,Zb,Zc,Zd,Ze,Zf,Zg,Zh,Zi,Zj,Zk,Zl,Zm,Zn,Zo,Ja,Jb,Jc,J6,Jd,Je,J7,J8,Jf,Jg,Jh,Ji,Jj,Jk,J9,Jl,Jm,wr,Jn,JA,JB,Jo,Jp,Jq,Jr,Js,Jt,Ju,Jv,Jw,Jx,Jy,Jz,J0,J1,J2,J3,J4,J5,reduceCtorEq,JC,JD,JE,JF,JG,JH,JI,JJ]) | ((with_reducible (first | apply Ok.br | apply Ok.gd | apply Ok.ld)) <;> (intro g; (try simp only [ZGS] at g); try (exfalso; omega)))))
      exact Turn.exit ⟨rfl, rfl, b, q, z, rfl, hz, rfl, hc, hb0, hk'.out⟩
  · intro y ⟨e', l', g⟩ hW ⟨hy, b, q, z, h3, hz, k2, hc, hb0, hk⟩
    dsimp only at hW h3 k2 hc hk
    subst l' hy
    rw [hW.spread]
    clear hW
    simp only [spread_t,spread_f,spread_n,Nat.zero_add,Nat.reduceAdd,h3]
    have hq := Hid.mk (hQ'.out (.sl (.at b q 0) (numE n).length (numE n).length z, g) ⟨b, q, z, rfl, hz, hc, hb0, hk⟩)
    clear hQ' hc hk
    (repeat' (first | (simp -implicitDefEqProofs (maxSteps := 1000000) (disch := first | assumption | omega | (simp only [ZDI]; omega)) only [*,G67,Za,Zb,Zc,Zd,Ze,Zf,Zg,Zh,Zi,Zj,Zk,Zl,Zm,Zn,Zo,Ja,Jb,Jc,J6,Jd,Je,J7,J8,Jf,Jg,Jh,Ji,Jj,Jk,J9,Jl,Jm,wr,Jn,JA,JB,Jo,Jp,Jq,Jr,Js,Jt,Ju,Jv,Jw,Jx,Jy,Jz,J0,J1,J2,J3,J4,J5,reduceCtorEq,JC,JD,JE,JF,JG,JH,JI,JJ]) | ((with_reducible (first | apply Ok.br | apply Ok.gd | apply Ok.ld)) <;> (intro g; (try simp only [ZGS] at g); try (exfalso; omega)))))
    exact hq.out
theorem numE_pos (n : Nat) : 0 < (numE n).length := by unfold numE; simp
set_option maxHeartbeats 4000000 in
theorem rText_at {H : Heap} {s : ByteArray} (hs : s.size < 1000000000) : Ev.Ok (D X (.fn 68 []) [.str s] H) (Bys H (textE s)) := by
  refine Ok.aim fun Q hQ => ?_
  have hQ' := Hid.mk hQ
  clear hQ
  have hu := wrapU (n := (s.size : Int)) (by omega)
  obtain ⟨⟨v1, H1⟩, e1, b, g, z, hv, hz, hc, hb, hk⟩ := rNum_at (H := H) (n := s.size) (by omega)
  dsimp only at hv hc hk
  subst hv
  have hp := numE_pos s.size
  have hl := numE_len (n := s.size) (by omega)
  have hbl := hcells_lt hc
  have hbs : bytesV s = bV s.data.toList := bytesV_eq s
  have hsl : s.data.toList.length = s.size := by rw [Array.length_toList]; rfl
  by_cases hz0 : s.size = 0
  · have hnil : s.data.toList = [] := List.length_eq_zero_iff.1 (by omega)
    have ht : textE s = numE s.size := by unfold textE; rw [hnil, List.append_nil]
    have hfin : ∀ B : Blk, Q (.sl (.at b g 0) (numE s.size).length (numE s.size).length z, H1 ++ [B]) := fun B => hQ'.out _ ⟨b, g, z, by rw [ht], hz, by rw [ht]; dsimp only; rw [hcells_app hbl]; exact hc, hb, hk.snoc _⟩
    have hfin' := Hid.mk hfin
    have hz2 : decide (s.size = 0) = true := decide_eq_true hz0
    have hz3 : (numE s.size).length + s.size <= (numE s.size).length := by omega
    clear hfin hQ' hk hz hz0 hnil ht hsl hbs
    (refine Ok.body body68 pin68 ?_; simp only [c68,Try.f68,Option.getD_some,nslot68,List.append_nil,List.map,List.replicate,List.length_cons,List.length_nil,Nat.reduceAdd,Nat.reduceSub,List.cons_append,List.nil_append])
    (repeat' (first | (simp -implicitDefEqProofs (maxSteps := 1000000) (disch := first | assumption | omega | (simp only [ZDI]; omega)) only [*,lenV,bV_take,bV_len,List.drop_zero,Nat.zero_add,Nat.mul_one,G68,Za,Zb,Zc,Zd,Ze,Zf,Zg,Zh,Zi,Zj,Zk,Zl,Zm,Zn,Zo,Ja,Jb,Jc,J6,Jd,Je,J7,J8,Jf,Jg,Jh,Ji,Jj,Jk,J9,Jl,Jm,wr,Jn,JA,JB,Jo,Jp,Jq,Jr,Js,Jt,Ju,Jv,Jw,Jx,Jy,Jz,J0,J1,J2,J3,J4,J5,reduceCtorEq,JC,JD,JE,JF,JG,JH,JI,JJ]) | ((with_reducible (first | apply Ok.br | apply Ok.gd | apply Ok.ld)) <;> (intro g; (try simp only [ZGS] at g); try (exfalso; omega)))))
    exact hfin'.out _
  · have hlt : (textE s).length = (numE s.size).length + s.size := by unfold textE; rw [List.length_append, hsl]
    have hbt : bV (textE s) = bV (numE s.size) ++ bV s.data.toList := by unfold textE; rw [bV_app]
    have htk : (bV s.data.toList).take s.size = bV s.data.toList := by rw [<- hsl]; exact bV_take _
    have hbl2 : (bV s.data.toList).length = s.size := by rw [bV_len, hsl]
    have hn1 : ¬ ((numE s.size).length + s.size <= (numE s.size).length) := by omega
    have hn2 : ¬ (numE s.size).length = 0 := by omega
    have hL : ((numE s.size).length + s.size) * 1 <= 35184372088832 /\ (numE s.size).length + s.size <= 35184372088832 := by omega
    rcases hz with rfl | rfl
    · have hfin : ∀ B : Blk, Q (.sl (.at (H1.length + 1) 0 0) ((numE s.size).length + s.size) ((numE s.size).length + s.size) 1, H1 ++ [B, .cells 0 true (bV (numE s.size) ++ bV s.data.toList)]) := fun B => hQ'.out _ ⟨H1.length + 1, 0, 1, by rw [hlt], .inr rfl, by rw [hbt]; exact hc_new2, by have := hk.1; omega, hk.snoc _⟩
      have hfin' := Hid.mk hfin
      clear hfin hQ' hk hlt hbt
      (refine Ok.body body68 pin68 ?_; simp only [c68,Try.f68,Option.getD_some,nslot68,List.append_nil,List.map,List.replicate,List.length_cons,List.length_nil,Nat.reduceAdd,Nat.reduceSub,List.cons_append,List.nil_append])
      (repeat' (first | (simp -implicitDefEqProofs (maxSteps := 1000000) (disch := first | assumption | omega | (simp only [ZDI]; omega)) only [*,lenV,bV_take,bV_len,List.drop_zero,Nat.zero_add,Nat.mul_one,G68,Za,Zb,Zc,Zd,Ze,Zf,Zg,Zh,Zi,Zj,Zk,Zl,Zm,Zn,Zo,Ja,Jb,Jc,J6,Jd,Je,J7,J8,Jf,Jg,Jh,Ji,Jj,Jk,J9,Jl,Jm,wr,Jn,JA,JB,Jo,Jp,Jq,Jr,Js,Jt,Ju,Jv,Jw,Jx,Jy,Jz,J0,J1,J2,J3,J4,J5,reduceCtorEq,JC,JD,JE,JF,JG,JH,JI,JJ]) | ((with_reducible (first | apply Ok.br | apply Ok.gd | apply Ok.ld)) <;> (intro g; (try simp only [ZGS] at g); try (exfalso; omega)))))
      exact hfin'.out _
    · have hfin : ∀ B : Blk, Q (.sl (.at b (g + 1) 0) ((numE s.size).length + s.size) ((numE s.size).length + s.size) 1, H1.set b (.cells (g + 1) true (bV (numE s.size) ++ bV s.data.toList)) ++ [B]) := fun B => hQ'.out _ ⟨b, g + 1, 1, by rw [hlt], .inr rfl, by
        rw [hbt]; dsimp only; rw [hcells_app (by simpa using hbl)]; exact hcells_set_eq hbl, hb, (hk.set (.inr hb) _).snoc _⟩
      have hfin' := Hid.mk hfin
      clear hfin hQ' hk hlt hbt
      (refine Ok.body body68 pin68 ?_; simp only [c68,Try.f68,Option.getD_some,nslot68,List.append_nil,List.map,List.replicate,List.length_cons,List.length_nil,Nat.reduceAdd,Nat.reduceSub,List.cons_append,List.nil_append])
      (repeat' (first | (simp -implicitDefEqProofs (maxSteps := 1000000) (disch := first | assumption | omega | (simp only [ZDI]; omega)) only [*,lenV,bV_take,bV_len,List.drop_zero,Nat.zero_add,Nat.mul_one,G68,Za,Zb,Zc,Zd,Ze,Zf,Zg,Zh,Zi,Zj,Zk,Zl,Zm,Zn,Zo,Ja,Jb,Jc,J6,Jd,Je,J7,J8,Jf,Jg,Jh,Ji,Jj,Jk,J9,Jl,Jm,wr,Jn,JA,JB,Jo,Jp,Jq,Jr,Js,Jt,Ju,Jv,Jw,Jx,Jy,Jz,J0,J1,J2,J3,J4,J5,reduceCtorEq,JC,JD,JE,JF,JG,JH,JI,JJ]) | ((with_reducible (first | apply Ok.br | apply Ok.gd | apply Ok.ld)) <;> (intro g; (try simp only [ZGS] at g); try (exfalso; omega)))))
      exact hfin'.out _
end Go.Ev
set_option maxRecDepth 100000
namespace Go.Ev
open Go.Ev renaming exPure -> Ja, ofValue -> Jb, cellsV -> Jc, load -> Jd, store -> Je, binOp -> Jf, intOp -> Jg, rdV -> Jh, vsame -> Ji, vsames -> Jj, makeSliceV -> Jk, resV -> Jl, isCell -> Jm, nilCheckV -> Jn, allV -> Jo, builtinV -> Jp, lenV -> Jq, indexAddrV -> Jr, unOp -> Js, minmaxV -> Jt, minmax -> Ju, sliceV -> Jv, asInt -> Jw, appendV -> Jx, forkB -> Jy, roY -> Jz, rwB -> J0, copyV -> J1, clearV -> J2, convV -> J3, sliceCells -> J4, shift -> J5
open Bool renaming true -> BT, false -> BF
open Nat renaming reduceEqDiff -> J6, reduceLT -> J7, reduceAdd -> J8, reduceBEq -> J9, reduceSub -> JA, reduceMul -> JB, reduceLeDiff -> JJ
open Int renaming reduceLT -> JC, reduceLE -> JD, reduceAdd -> JE, reduceSub -> JF, reduceNeg -> JG, reduceToNat -> JH, reduceEq -> JI
open Go.Proofs
theorem doc_step {fn : V} {args : List V} {e A : List UInt8} {H g : Heap} {b q : Nat} (hF : Ev.Ok (D X fn args g) (Bys g e)) (hk : Keeps [] H g) (hb : H.length <= b) (hc : hcells g b q = some (true, bV A)) :
    ∃ c r z g', D X fn args g = some (.sl (.at c r 0) e.length e.length z, g') /\ hcells g' c r = some (true, bV e) /\ hcells g' b q = some (true, bV A) /\ b < g'.length /\ c < g'.length /\ Keeps [] H g' /\
      ∀ A', A' = A ++ e -> bV A ++ bV e = bV A' /\ A.length + e.length = A'.length /\ hcells (g'.set b (.cells (q + 1) true (bV A'))) b (q + 1) = some (true, bV A') /\ Keeps [] H (g'.set b (.cells (q + 1) true (bV A'))) := by
  obtain ⟨⟨v, g'⟩, e1, c, r, z, hv, hz, h1, h2, h3⟩ := hF
  dsimp only at hv h1 h3
  subst hv
  have h4 := h3.cells hc (by simp)
  have h5 := hcells_lt h4
  have h6 := hk.trans ⟨h3.1, h3.2⟩
  refine ⟨c, r, z, g', e1, h1, h4, h5, hcells_lt h1, h6, fun A' e => ?_⟩
  subst e
  exact ⟨(bV_app _ _).symm, (List.length_append).symm, hcells_set_eq h5, h6.set (.inr hb) _⟩
end Go.Ev
set_option maxRecDepth 100000
namespace Go.Ev
open Go.Ev renaming exPure -> Ja, ofValue -> Jb, cellsV -> Jc, load -> Jd, store -> Je, binOp -> Jf, intOp -> Jg, rdV -> Jh, vsame -> Ji, vsames -> Jj, makeSliceV -> Jk, resV -> Jl, isCell -> Jm, nilCheckV -> Jn, allV -> Jo, builtinV -> Jp, lenV -> Jq, indexAddrV -> Jr, unOp -> Js, minmaxV -> Jt, minmax -> Ju, sliceV -> Jv, asInt -> Jw, appendV -> Jx, forkB -> Jy, roY -> Jz, rwB -> J0, copyV -> J1, clearV -> J2, convV -> J3, sliceCells -> J4, shift -> J5
open Bool renaming true -> BT, false -> BF
open Nat renaming reduceEqDiff -> J6, reduceLT -> J7, reduceAdd -> J8, reduceBEq -> J9, reduceSub -> JA, reduceMul -> JB, reduceLeDiff -> JJ
open Int renaming reduceLT -> JC, reduceLE -> JD, reduceAdd -> JE, reduceSub -> JF, reduceNeg -> JG, reduceToNat -> JH, reduceEq -> JI
open Go.Proofs
def textB (s : ByteArray) : Bool := decide ((s.size : Int) <= 4096) && (decide (s.size = 0) || match s.data.toList[s.size - 1]? with | some c => !decide ((c.toNat : Int) = 0) | none => false)
theorem textB_0 {s : ByteArray} (h : s.size = 0) : textB s = true := by
  unfold textB
  rw [h]
  rfl
theorem textB_1 {s : ByteArray} (h : s.size ≠ 0) {c : UInt8} (hc : s.data.toList[s.size - 1]? = some c) : textB s = (decide ((s.size : Int) <= 4096) && !decide ((c.toNat : Int) = 0)) := by
  unfold textB
  rw [hc, decide_eq_false h, Bool.false_or]
theorem strEq_nil (s : ByteArray) : strEq s ⟨#[]⟩ = decide (s.size = 0) := by
  unfold strEq
  apply decide_eq_decide.2
  have e : s.size = s.data.toList.length := rfl
  rw [e]
  exact ⟨fun h => by rw [h]; rfl, fun h => List.length_eq_zero_iff.1 h⟩
theorem byte_last {s : ByteArray} (h : s.size ≠ 0) : ∃ c, s.data.toList[s.size - 1]? = some c := by
  have : s.size - 1 < s.data.toList.length := by rw [Array.length_toList]; have : s.size = s.data.size := rfl; omega
  exact ⟨_, List.getElem?_eq_getElem this⟩
theorem isText_at (s : ByteArray) (h : Heap) : D X (.fn 51 []) [.str s] h = some (.bool (textB s), h) := by
  refine Ok.eq ?_
  by_cases h0 : s.size = 0
  · have ht := textB_0 h0
    (refine Ok.body body51 pin51 ?_; simp only [c51,Try.f51,Option.getD_some,nslot51,List.append_nil,List.map,List.replicate,List.length_cons,List.length_nil,Nat.reduceAdd,Nat.reduceSub,List.cons_append,List.nil_append])
    (repeat' (first | (simp -implicitDefEqProofs (maxSteps := 1000000) (disch := first | assumption | omega | (simp only [ZDI]; omega)) only [*,strEq_nil,G51,Za,Zb,Zc,Zd,Ze,Zf,Zg,Zh,Zi,Zj,Zk,Zl,Zm,Zn,Zo,Ja,Jb,Jc,J6,Jd,Je,J7,J8,Jf,Jg,Jh,Ji,Jj,Jk,J9,Jl,Jm,wr,Jn,JA,JB,Jo,Jp,Jq,Jr,Js,Jt,Ju,Jv,Jw,Jx,Jy,Jz,J0,J1,J2,J3,J4,J5,reduceCtorEq,JC,JD,JE,JF,JG,JH,JI,JJ]) | ((with_reducible (first | apply Ok.br | apply Ok.gd | apply Ok.ld)) <;> (intro g; (try simp only [ZGS] at g); try (exfalso; omega)))))
    all_goals omega
  · obtain ⟨c, hc⟩ := byte_last h0
    have ht := textB_1 h0 hc
    have h1 : ¬ (s.size : Int) = 0 := by omega
    have e1 : ((s.size : Int) - 1).toNat = s.size - 1 := by omega
    (refine Ok.body body51 pin51 ?_; simp only [c51,Try.f51,Option.getD_some,nslot51,List.append_nil,List.map,List.replicate,List.length_cons,List.length_nil,Nat.reduceAdd,Nat.reduceSub,List.cons_append,List.nil_append])
    (repeat' (first | (simp -implicitDefEqProofs (maxSteps := 1000000) (disch := first | assumption | omega | (simp only [ZDI]; omega)) only [*,strEq_nil,indexV,G51,Za,Zb,Zc,Zd,Ze,Zf,Zg,Zh,Zi,Zj,Zk,Zl,Zm,Zn,Zo,Ja,Jb,Jc,J6,Jd,Je,J7,J8,Jf,Jg,Jh,Ji,Jj,Jk,J9,Jl,Jm,wr,Jn,JA,JB,Jo,Jp,Jq,Jr,Js,Jt,Ju,Jv,Jw,Jx,Jy,Jz,J0,J1,J2,J3,J4,J5,reduceCtorEq,JC,JD,JE,JF,JG,JH,JI,JJ]) | ((with_reducible (first | apply Ok.br | apply Ok.gd | apply Ok.ld)) <;> (intro g; (try simp only [ZGS] at g); try (exfalso; omega)))))
theorem rIsText_at (s : ByteArray) (h : Heap) : D X (.fn 52 []) [.str s] h = some (.bool (textB s), h) := by
  refine Ok.eq ?_
  by_cases h0 : s.size = 0
  · have ht := textB_0 h0
    (refine Ok.body body52 pin52 ?_; simp only [c52,Try.f52,Option.getD_some,nslot52,List.append_nil,List.map,List.replicate,List.length_cons,List.length_nil,Nat.reduceAdd,Nat.reduceSub,List.cons_append,List.nil_append])
    (repeat' (first | (simp -implicitDefEqProofs (maxSteps := 1000000) (disch := first | assumption | omega | (simp only [ZDI]; omega)) only [*,Int.natCast_zero,G52,Za,Zb,Zc,Zd,Ze,Zf,Zg,Zh,Zi,Zj,Zk,Zl,Zm,Zn,Zo,Ja,Jb,Jc,J6,Jd,Je,J7,J8,Jf,Jg,Jh,Ji,Jj,Jk,J9,Jl,Jm,wr,Jn,JA,JB,Jo,Jp,Jq,Jr,Js,Jt,Ju,Jv,Jw,Jx,Jy,Jz,J0,J1,J2,J3,J4,J5,reduceCtorEq,JC,JD,JE,JF,JG,JH,JI,JJ]) | ((with_reducible (first | apply Ok.br | apply Ok.gd | apply Ok.ld)) <;> (intro g; (try simp only [ZGS] at g); try (exfalso; omega)))))
    all_goals omega
  · obtain ⟨c, hc⟩ := byte_last h0
    have ht := textB_1 h0 hc
    have h1 : ¬ (s.size : Int) = 0 := by omega
    have e1 : ((s.size : Int) - 1).toNat = s.size - 1 := by omega
    (refine Ok.body body52 pin52 ?_; simp only [c52,Try.f52,Option.getD_some,nslot52,List.append_nil,List.map,List.replicate,List.length_cons,List.length_nil,Nat.reduceAdd,Nat.reduceSub,List.cons_append,List.nil_append])
    (repeat' (first | (simp -implicitDefEqProofs (maxSteps := 1000000) (disch := first | assumption | omega | (simp only [ZDI]; omega)) only [*,indexV,G52,Za,Zb,Zc,Zd,Ze,Zf,Zg,Zh,Zi,Zj,Zk,Zl,Zm,Zn,Zo,Ja,Jb,Jc,J6,Jd,Je,J7,J8,Jf,Jg,Jh,Ji,Jj,Jk,J9,Jl,Jm,wr,Jn,JA,JB,Jo,Jp,Jq,Jr,Js,Jt,Ju,Jv,Jw,Jx,Jy,Jz,J0,J1,J2,J3,J4,J5,reduceCtorEq,JC,JD,JE,JF,JG,JH,JI,JJ]) | ((with_reducible (first | apply Ok.br | apply Ok.gd | apply Ok.ld)) <;> (intro g; (try simp only [ZGS] at g); try (exfalso; omega)))))
theorem notText_at (s : ByteArray) (h : Heap) : D X (.fn 50 []) [.str s] h = some (.bool (!textB s), h) := by
  refine Ok.eq ?_
  (refine Ok.body body50 pin50 ?_; simp only [c50,Try.f50,Option.getD_some,nslot50,List.append_nil,List.map,List.replicate,List.length_cons,List.length_nil,Nat.reduceAdd,Nat.reduceSub,List.cons_append,List.nil_append])
  (repeat' (first | (simp -implicitDefEqProofs (maxSteps := 1000000) (disch := first | assumption | omega | (simp only [ZDI]; omega)) only [*,isText_at,G50,Za,Zb,Zc,Zd,Ze,Zf,Zg,Zh,Zi,Zj,Zk,Zl,Zm,Zn,Zo,Ja,Jb,Jc,J6,Jd,Je,J7,J8,Jf,Jg,Jh,Ji,Jj,Jk,J9,Jl,Jm,wr,Jn,JA,JB,Jo,Jp,Jq,Jr,Js,Jt,Ju,Jv,Jw,Jx,Jy,Jz,J0,J1,J2,J3,J4,J5,reduceCtorEq,JC,JD,JE,JF,JG,JH,JI,JJ]) | ((with_reducible (first | apply Ok.br | apply Ok.gd | apply Ok.ld)) <;> (intro g; (try simp only [ZGS] at g); try (exfalso; omega)))))
theorem indexFunc_at {h : Heap} {a : SA} {cap z : Nat} {l : List ByteArray} (hl : l.length <= 9223372036854775807)
    (ha : l = [] \/ ∃ b g o rw full, a = .at b g o /\ hcells h b g = some (rw, full) /\ ∀ (i : Nat) (s : ByteArray), l[i]? = some s -> full[o + i]? = some (.str s))
    {f : FuncId} {cp : List V} (p : ByteArray -> Bool) (hp : ∀ s, D X (.fn f cp) [.str s] h = some (.bool (p s), h)) :
    Ok (D X (.fn 78 []) [.sl a l.length cap z, .fn f cp] h) fun r => ∃ n : Int, r = (.int .i64 n, h) /\ (0 <= n ↔ l.any p = true) := by
  refine Ok.aim fun Q hQ => ?_
  have hQ' := Hid.mk hQ
  clear hQ
  (refine Ok.body body78 pin78 ?_; simp only [c78,Try.f78,Option.getD_some,nslot78,List.append_nil,List.map,List.replicate,List.length_cons,List.length_nil,Nat.reduceAdd,Nat.reduceSub,List.cons_append,List.nil_append])
  simp -implicitDefEqProofs (maxSteps := 1000000) (disch := first | assumption | omega | (simp only [ZDI]; omega)) only [*,G78,Za,Zb,Zc,Zd,Ze,Zf,Zg,Zh,Zi,Zj,Zk,Zl,Zm,Zn,Zo,Ja,Jb,Jc,J6,Jd,Je,J7,J8,Jf,Jg,Jh,Ji,Jj,Jk,J9,Jl,Jm,wr,Jn,JA,JB,Jo,Jp,Jq,Jr,Js,Jt,Ju,Jv,Jw,Jx,Jy,Jz,J0,J1,J2,J3,J4,J5,reduceCtorEq,JC,JD,JE,JF,JG,JH,JI,JJ]
  refine Ok.loop [BF, BF, BF, BF, BT, BT, BF, BF, BT, BT, BT, BT, BT, BT, BT, BT, BT, BT, BT] (fun n s => ∃ i : Nat, n = l.length - i /\ i <= l.length /\ tv s.e 8 = .v (.int .i64 i) /\ s.l = [] /\ s.h = h /\ ∀ (j : Nat) (s : ByteArray), j < i -> l[j]? = some s -> p s = false)
    (fun x s => s.l = [] /\ s.h = h /\ ((x = .exit 0 /\ l.any p = false) \/ (x = .ret /\ l.any p = true /\ ∃ i : Nat, tv s.e 4 = .v (.int .i64 i)))) (l.length - 0) ⟨0, rfl, by omega, rfl, rfl, rfl, fun j s hj => by omega⟩ ?_ ?_
  · intro n ⟨e', l', h'⟩ hW ⟨i, hn, hi, h8, h1, h2, hno⟩
    dsimp only at hW h8 h1 h2
    subst l' h'
    rw [hW.spread]
    simp only [spread_t,spread_f,spread_n,Nat.zero_add,Nat.reduceAdd,h8]
    by_cases hlt : i < l.length
    · rcases ha with rfl | ⟨b, g, o, rw, full, rfl, hb, hfull⟩
      · simp at hlt
      · obtain ⟨s, hs⟩ : ∃ s, l[i]? = some s := ⟨_, List.getElem?_eq_getElem hlt⟩
        have hf := hfull i s hs
        have hfn := hp s
        cases hps : p s with
        | true =>
          rw [hps] at hfn
          simp -implicitDefEqProofs (maxSteps := 1000000) (disch := first | assumption | omega | (simp only [ZDI]; omega)) only [*,Int.ofNat_lt,Int.natCast_nonneg,G78,Za,Zb,Zc,Zd,Ze,Zf,Zg,Zh,Zi,Zj,Zk,Zl,Zm,Zn,Zo,Ja,Jb,Jc,J6,Jd,Je,J7,J8,Jf,Jg,Jh,Ji,Jj,Jk,J9,Jl,Jm,wr,Jn,JA,JB,Jo,Jp,Jq,Jr,Js,Jt,Ju,Jv,Jw,Jx,Jy,Jz,J0,J1,J2,J3,J4,J5,reduceCtorEq,JC,JD,JE,JF,JG,JH,JI,JJ]
          exact Turn.ret ⟨rfl, rfl, rfl, .inr ⟨rfl, List.any_eq_true.2 ⟨s, List.mem_of_getElem? hs, hps⟩, i, rfl⟩⟩
        | false =>
          rw [hps] at hfn
          simp -implicitDefEqProofs (maxSteps := 1000000) (disch := first | assumption | omega | (simp only [ZDI]; omega)) only [*,Int.ofNat_lt,Int.natCast_nonneg,G78,Za,Zb,Zc,Zd,Ze,Zf,Zg,Zh,Zi,Zj,Zk,Zl,Zm,Zn,Zo,Ja,Jb,Jc,J6,Jd,Je,J7,J8,Jf,Jg,Jh,Ji,Jj,Jk,J9,Jl,Jm,wr,Jn,JA,JB,Jo,Jp,Jq,Jr,Js,Jt,Ju,Jv,Jw,Jx,Jy,Jz,J0,J1,J2,J3,J4,J5,reduceCtorEq,JC,JD,JE,JF,JG,JH,JI,JJ]
          refine Turn.next (l.length - (i + 1)) (by omega) ⟨rfl, i + 1, rfl, by omega, rfl, rfl, rfl, fun j s' hj hs' => ?_⟩
          by_cases hji : j = i
          · subst hji
            rw [hs] at hs'
            cases hs'
            exact hps
          · exact hno j s' (by omega) hs'
    · simp -implicitDefEqProofs (maxSteps := 1000000) (disch := first | assumption | omega | (simp only [ZDI]; omega)) only [*,Int.ofNat_lt,G78,Za,Zb,Zc,Zd,Ze,Zf,Zg,Zh,Zi,Zj,Zk,Zl,Zm,Zn,Zo,Ja,Jb,Jc,J6,Jd,Je,J7,J8,Jf,Jg,Jh,Ji,Jj,Jk,J9,Jl,Jm,wr,Jn,JA,JB,Jo,Jp,Jq,Jr,Js,Jt,Ju,Jv,Jw,Jx,Jy,Jz,J0,J1,J2,J3,J4,J5,reduceCtorEq,JC,JD,JE,JF,JG,JH,JI,JJ]
      refine Turn.exit ⟨rfl, rfl, rfl, .inl ⟨rfl, ?_⟩⟩
      rw [List.any_eq_false]
      intro s hs
      obtain ⟨j, hj⟩ := List.getElem?_of_mem hs
      have := (List.getElem?_eq_some_iff.1 hj).1
      rw [hno j s (by omega) hj]
      simp
  · intro x ⟨e', l', h'⟩ hW ⟨h1, h2, hE⟩
    dsimp only at hW h1 h2 hE
    subst l' h'
    rw [hW.spread]
    rcases hE with ⟨rfl, hany⟩ | ⟨rfl, hany, i, h4⟩
    · simp only [spread_t,spread_f,spread_n,Nat.zero_add,Nat.reduceAdd]
      simp -implicitDefEqProofs (maxSteps := 1000000) (disch := first | assumption | omega | (simp only [ZDI]; omega)) only [*,Int.ofNat_lt,G78,Za,Zb,Zc,Zd,Ze,Zf,Zg,Zh,Zi,Zj,Zk,Zl,Zm,Zn,Zo,Ja,Jb,Jc,J6,Jd,Je,J7,J8,Jf,Jg,Jh,Ji,Jj,Jk,J9,Jl,Jm,wr,Jn,JA,JB,Jo,Jp,Jq,Jr,Js,Jt,Ju,Jv,Jw,Jx,Jy,Jz,J0,J1,J2,J3,J4,J5,reduceCtorEq,JC,JD,JE,JF,JG,JH,JI,JJ]
      exact hQ'.out _ ⟨-1, rfl, by rw [hany]; simp⟩
    · simp only [spread_t,spread_f,spread_n,Nat.zero_add,Nat.reduceAdd,h4]
      simp -implicitDefEqProofs (maxSteps := 1000000) (disch := first | assumption | omega | (simp only [ZDI]; omega)) only [*,Int.ofNat_lt,G78,Za,Zb,Zc,Zd,Ze,Zf,Zg,Zh,Zi,Zj,Zk,Zl,Zm,Zn,Zo,Ja,Jb,Jc,J6,Jd,Je,J7,J8,Jf,Jg,Jh,Ji,Jj,Jk,J9,Jl,Jm,wr,Jn,JA,JB,Jo,Jp,Jq,Jr,Js,Jt,Ju,Jv,Jw,Jx,Jy,Jz,J0,J1,J2,J3,J4,J5,reduceCtorEq,JC,JD,JE,JF,JG,JH,JI,JJ]
      exact hQ'.out _ ⟨i, rfl, by simp [hany]⟩
theorem containsFunc_at {h : Heap} {v : V} {l : List ByteArray} (hv : StrsAt h v l) {f : FuncId} {cp : List V} (p : ByteArray -> Bool) (hp : ∀ s, D X (.fn f cp) [.str s] h = some (.bool (p s), h)) :
    D X (.fn 49 []) [v, .fn f cp] h = some (.bool (l.any p), h) := by
  refine Ok.eq ?_
  obtain ⟨a, cap, z, rfl, hl, _, ha⟩ := hv
  obtain ⟨r, hr, n, rfl, hn⟩ := indexFunc_at (cap := cap) (z := z) hl ha p hp
  clear hp
  (refine Ok.body body49 pin49 ?_; simp only [c49,Try.f49,Option.getD_some,nslot49,List.append_nil,List.map,List.replicate,List.length_cons,List.length_nil,Nat.reduceAdd,Nat.reduceSub,List.cons_append,List.nil_append])
  simp -implicitDefEqProofs (maxSteps := 1000000) (disch := first | assumption | omega | (simp only [ZDI]; omega)) only [*,G49,Za,Zb,Zc,Zd,Ze,Zf,Zg,Zh,Zi,Zj,Zk,Zl,Zm,Zn,Zo,Ja,Jb,Jc,J6,Jd,Je,J7,J8,Jf,Jg,Jh,Ji,Jj,Jk,J9,Jl,Jm,wr,Jn,JA,JB,Jo,Jp,Jq,Jr,Js,Jt,Ju,Jv,Jw,Jx,Jy,Jz,J0,J1,J2,J3,J4,J5,reduceCtorEq,JC,JD,JE,JF,JG,JH,JI,JJ]
  have e : decide (0 <= n) = l.any p := by
    cases hb : l.any p
    · rw [hb] at hn; simpa using hn
    · rw [hb] at hn; simpa using hn
  simp only [Bool.decide_eq_true]
theorem isClients_at (o : Int) (h : Heap) : D X (.fn 48 []) [.int .i64 o] h = some (.bool (decide (1 <= o /\ o <= 4)), h) := by
  refine Ok.eq ?_
  (refine Ok.body body48 pin48 ?_; simp only [c48,Try.f48,Option.getD_some,nslot48,List.append_nil,List.map,List.replicate,List.length_cons,List.length_nil,Nat.reduceAdd,Nat.reduceSub,List.cons_append,List.nil_append])
  (repeat' (first | (simp -implicitDefEqProofs (maxSteps := 1000000) (disch := first | assumption | omega | (simp only [ZDI]; omega)) only [*,G48,Za,Zb,Zc,Zd,Ze,Zf,Zg,Zh,Zi,Zj,Zk,Zl,Zm,Zn,Zo,Ja,Jb,Jc,J6,Jd,Je,J7,J8,Jf,Jg,Jh,Ji,Jj,Jk,J9,Jl,Jm,wr,Jn,JA,JB,Jo,Jp,Jq,Jr,Js,Jt,Ju,Jv,Jw,Jx,Jy,Jz,J0,J1,J2,J3,J4,J5,reduceCtorEq,JC,JD,JE,JF,JG,JH,JI,JJ]) | ((with_reducible (first | apply Ok.br | apply Ok.gd | apply Ok.ld)) <;> (intro g; (try simp only [ZGS] at g); try (exfalso; omega)))))
  all_goals (first | rfl | (exfalso; omega) | exact leaf_t (by (try simp only [Bool.and_eq_true,Bool.or_eq_true,decide_eq_true_eq,Bool.not_eq_true',decide_eq_false_iff_not,Bool.false_eq_true,Bool.true_eq_false,Bool.not_false,Bool.not_true,eq_self,iff_true,iff_false,true_iff,false_iff,false_or,true_or,or_false,or_true,true_and,and_true,false_and,and_false,not_true_eq_false,not_false_eq_true]); (first | done | omega)) | exact leaf_f (by (try simp only [Bool.and_eq_true,Bool.or_eq_true,decide_eq_true_eq,Bool.not_eq_true',decide_eq_false_iff_not,Bool.false_eq_true,Bool.true_eq_false,Bool.not_false,Bool.not_true,eq_self,iff_true,iff_false,true_iff,false_iff,false_or,true_or,or_false,or_true,true_and,and_true,false_and,and_false,not_true_eq_false,not_false_eq_true]); (first | done | omega)) | exact leaf_b (by (try simp only [Bool.and_eq_true,Bool.or_eq_true,decide_eq_true_eq,Bool.not_eq_true',decide_eq_false_iff_not,Bool.false_eq_true,Bool.true_eq_false,Bool.not_false,Bool.not_true,eq_self,iff_true,iff_false,true_iff,false_iff,false_or,true_or,or_false,or_true,true_and,and_true,false_and,and_false,not_true_eq_false,not_false_eq_true]); (first | done | omega)))
theorem plain_at (o c q f t : Int) (a : SA) (n cap z : Nat) (h : Heap) : D X (.fn 47 []) [.agg [.int .i64 o, .int .i64 c, .int .i64 q, .int .i64 f, .int .i64 t, .sl a n cap z]] h = some (.bool (decide (c = 0 /\ q = 0 /\ f = 0 /\ t = 0 /\ (n : Int) = 0)), h) := by
  refine Ok.eq ?_
  (refine Ok.body body47 pin47 ?_; simp only [c47,Try.f47,Option.getD_some,nslot47,List.append_nil,List.map,List.replicate,List.length_cons,List.length_nil,Nat.reduceAdd,Nat.reduceSub,List.cons_append,List.nil_append])
  (repeat' (first | (simp -implicitDefEqProofs (maxSteps := 1000000) (disch := first | assumption | omega | (simp only [ZDI]; omega)) only [*,lenV,G47,Za,Zb,Zc,Zd,Ze,Zf,Zg,Zh,Zi,Zj,Zk,Zl,Zm,Zn,Zo,Ja,Jb,Jc,J6,Jd,Je,J7,J8,Jf,Jg,Jh,Ji,Jj,Jk,J9,Jl,Jm,wr,Jn,JA,JB,Jo,Jp,Jq,Jr,Js,Jt,Ju,Jv,Jw,Jx,Jy,Jz,J0,J1,J2,J3,J4,J5,reduceCtorEq,JC,JD,JE,JF,JG,JH,JI,JJ]) | ((with_reducible (first | apply Ok.br | apply Ok.gd | apply Ok.ld)) <;> (intro g; (try simp only [ZGS] at g); try (exfalso; omega)))))
  all_goals (first | rfl | (exfalso; omega) | exact leaf_t (by (try simp only [Bool.and_eq_true,Bool.or_eq_true,decide_eq_true_eq,Bool.not_eq_true',decide_eq_false_iff_not,Bool.false_eq_true,Bool.true_eq_false,Bool.not_false,Bool.not_true,eq_self,iff_true,iff_false,true_iff,false_iff,false_or,true_or,or_false,or_true,true_and,and_true,false_and,and_false,not_true_eq_false,not_false_eq_true]); (first | done | omega)) | exact leaf_f (by (try simp only [Bool.and_eq_true,Bool.or_eq_true,decide_eq_true_eq,Bool.not_eq_true',decide_eq_false_iff_not,Bool.false_eq_true,Bool.true_eq_false,Bool.not_false,Bool.not_true,eq_self,iff_true,iff_false,true_iff,false_iff,false_or,true_or,or_false,or_true,true_and,and_true,false_and,and_false,not_true_eq_false,not_false_eq_true]); (first | done | omega)) | exact leaf_b (by (try simp only [Bool.and_eq_true,Bool.or_eq_true,decide_eq_true_eq,Bool.not_eq_true',decide_eq_false_iff_not,Bool.false_eq_true,Bool.true_eq_false,Bool.not_false,Bool.not_true,eq_self,iff_true,iff_false,true_iff,false_iff,false_or,true_or,or_false,or_true,true_and,and_true,false_and,and_false,not_true_eq_false,not_false_eq_true]); (first | done | omega)))
def mayP (o c q f t : Int) (l : List ByteArray) : Prop :=
  ((o = 0 \/ o = 5) /\ c = 0 /\ q = 0 /\ f = 0 /\ t = 0 /\ (l.length : Int) = 0) \/
  ((1 <= o /\ o <= 4) /\ (0 <= c /\ c <= 3) /\ (1 <= q /\ q <= 1099511627776) /\ (0 <= f /\ f < t /\ t <= 256 /\ t - f <= 16) /\ ((o ≠ 2 /\ (l.length : Int) = 0) \/ (o = 2 /\ (l.length : Int) = t - f /\ (l.any fun s => !textB s) = false)))
instance (o c q f t : Int) (l : List ByteArray) : Decidable (mayP o c q f t l) := by unfold mayP; infer_instance
theorem may_at {o c q f t : Int} {v : V} {l : List ByteArray} {h : Heap} (hv : StrsAt h v l) : D X (.fn 18 []) [.agg [.int .i64 o, .int .i64 c, .int .i64 q, .int .i64 f, .int .i64 t, v]] h = some (.bool (decide (mayP o c q f t l)), h) := by
  refine Ok.eq ?_
  have hc := containsFunc_at hv _ (fun s => notText_at s h)
  obtain ⟨a, cap, z, rfl, hl, _, ha⟩ := hv
  clear ha
  generalize hb : (l.any fun s => !textB s) = b at hc
  (refine Ok.body body18 pin18 ?_; simp only [c18,Try.f18,Option.getD_some,nslot18,List.append_nil,List.map,List.replicate,List.length_cons,List.length_nil,Nat.reduceAdd,Nat.reduceSub,List.cons_append,List.nil_append])
  (repeat' (first | (simp -implicitDefEqProofs (maxSteps := 1000000) (disch := first | assumption | omega | (simp only [ZDI]; omega)) only [*,plain_at,isClients_at,lenV,G18,Za,Zb,Zc,Zd,Ze,Zf,Zg,Zh,Zi,Zj,Zk,Zl,Zm,Zn,Zo,Ja,Jb,Jc,J6,Jd,Je,J7,J8,Jf,Jg,Jh,Ji,Jj,Jk,J9,Jl,Jm,wr,Jn,JA,JB,Jo,Jp,Jq,Jr,Js,Jt,Ju,Jv,Jw,Jx,Jy,Jz,J0,J1,J2,J3,J4,J5,reduceCtorEq,JC,JD,JE,JF,JG,JH,JI,JJ]) | ((with_reducible (first | apply Ok.br | apply Ok.gd | apply Ok.ld)) <;> (intro g; (try simp only [ZGS] at g); try (exfalso; omega)))))
  all_goals (clear hc; cases b <;> (first | rfl | (exfalso; omega) | exact leaf_t (by (try unfold mayP); (try simp only [hb,Bool.and_eq_true,Bool.or_eq_true,decide_eq_true_eq,Bool.not_eq_true',decide_eq_false_iff_not,Bool.false_eq_true,Bool.true_eq_false,Bool.not_false,Bool.not_true,eq_self,iff_true,iff_false,true_iff,false_iff,false_or,true_or,or_false,or_true,true_and,and_true,false_and,and_false,not_true_eq_false,not_false_eq_true]); (first | done | omega)) | exact leaf_f (by (try unfold mayP); (try simp only [hb,Bool.and_eq_true,Bool.or_eq_true,decide_eq_true_eq,Bool.not_eq_true',decide_eq_false_iff_not,Bool.false_eq_true,Bool.true_eq_false,Bool.not_false,Bool.not_true,eq_self,iff_true,iff_false,true_iff,false_iff,false_or,true_or,or_false,or_true,true_and,and_true,false_and,and_false,not_true_eq_false,not_false_eq_true]); (first | done | omega)) | exact leaf_b (by (try unfold mayP); (try simp only [hb,Bool.and_eq_true,Bool.or_eq_true,decide_eq_true_eq,Bool.not_eq_true',decide_eq_false_iff_not,Bool.false_eq_true,Bool.true_eq_false,Bool.not_false,Bool.not_true,eq_self,iff_true,iff_false,true_iff,false_iff,false_or,true_or,or_false,or_true,true_and,and_true,false_and,and_false,not_true_eq_false,not_false_eq_true]); (first | done | omega))))
set_option maxHeartbeats 2000000 in
theorem rMay_at {o c q f t : Int} {v : V} {l : List ByteArray} {h : Heap} (hv : StrsAt h v l) : D X (.fn 19 []) [.agg [.int .i64 o, .int .i64 c, .int .i64 q, .int .i64 f, .int .i64 t, v]] h = some (.bool (decide (mayP o c q f t l)), h) := by
  refine Ok.eq ?_
  refine Ok.aim fun Q hQ => ?_
  have hQ' := Hid.mk hQ
  clear hQ
  obtain ⟨a, cap, z, rfl, hl, _, ha⟩ := hv
  have hh := Hid.mk ha
  clear ha
  (refine Ok.body body19 pin19 ?_; simp only [c19,Try.f19,Option.getD_some,nslot19,List.append_nil,List.map,List.replicate,List.length_cons,List.length_nil,Nat.reduceAdd,Nat.reduceSub,List.cons_append,List.nil_append])
  (repeat' (first | (simp -implicitDefEqProofs (maxSteps := 1000000) (disch := first | assumption | omega | (simp only [ZDI]; omega)) only [*,lenV,G19,Za,Zb,Zc,Zd,Ze,Zf,Zg,Zh,Zi,Zj,Zk,Zl,Zm,Zn,Zo,Ja,Jb,Jc,J6,Jd,Je,J7,J8,Jf,Jg,Jh,Ji,Jj,Jk,J9,Jl,Jm,wr,Jn,JA,JB,Jo,Jp,Jq,Jr,Js,Jt,Ju,Jv,Jw,Jx,Jy,Jz,J0,J1,J2,J3,J4,J5,reduceCtorEq,JC,JD,JE,JF,JG,JH,JI,JJ]) | ((with_reducible (first | apply Ok.br | apply Ok.gd | apply Ok.ld)) <;> (intro g; (try simp only [ZGS] at g); try (exfalso; omega)))))
  all_goals try (refine hQ'.out _ ?_; cases hb : (l.any fun s => !textB s) <;> (first | rfl | (exfalso; omega) | exact leaf_t (by (try unfold mayP); (try simp only [hb,Bool.and_eq_true,Bool.or_eq_true,decide_eq_true_eq,Bool.not_eq_true',decide_eq_false_iff_not,Bool.false_eq_true,Bool.true_eq_false,Bool.not_false,Bool.not_true,eq_self,iff_true,iff_false,true_iff,false_iff,false_or,true_or,or_false,or_true,true_and,and_true,false_and,and_false,not_true_eq_false,not_false_eq_true]); (first | done | omega)) | exact leaf_f (by (try unfold mayP); (try simp only [hb,Bool.and_eq_true,Bool.or_eq_true,decide_eq_true_eq,Bool.not_eq_true',decide_eq_false_iff_not,Bool.false_eq_true,Bool.true_eq_false,Bool.not_false,Bool.not_true,eq_self,iff_true,iff_false,true_iff,false_iff,false_or,true_or,or_false,or_true,true_and,and_true,false_and,and_false,not_true_eq_false,not_false_eq_true]); (first | done | omega)) | exact leaf_b (by (try unfold mayP); (try simp only [hb,Bool.and_eq_true,Bool.or_eq_true,decide_eq_true_eq,Bool.not_eq_true',decide_eq_false_iff_not,Bool.false_eq_true,Bool.true_eq_false,Bool.not_false,Bool.not_true,eq_self,iff_true,iff_false,true_iff,false_iff,false_or,true_or,or_false,or_true,true_and,and_true,false_and,and_false,not_true_eq_false,not_false_eq_true]); (first | done | omega))))
  refine Ok.loop [BF, BF, BT, BF, BT, BF, BF, BF, BF, BF, BF, BF, BF, BF, BF, BF, BF, BF, BF, BF, BF, BF, BF, BF, BF, BF, BF, BF, BF, BF, BF, BF, BF, BF, BF, BF, BF, BF, BF, BF, BF, BF, BF, BF, BF, BF, BF, BF, BF, BF, BF, BF, BF, BF, BF, BF, BF, BF, BF, BF, BF, BF, BF, BF, BF, BF, BF, BF, BF, BF, BF, BF, BF, BF, BF, BF, BF, BF, BF, BF, BF, BF, BF, BF, BF, BF, BF, BF, BF, BF, BF, BF, BF, BF, BF, BF, BF, BF, BF, BF, BT, BT, BT, BT, BT, BT, BT, BT, BF, BF, BF, BF, BF, BF, BF, BF, BF] (fun n s => ∃ i : Nat, n = l.length - i /\ i <= l.length /\ tv s.e 100 = .v (.int .i64 i) /\ s.l = [(1, [.int .i64 2, .int .i64 c, .int .i64 q, .int .i64 f, .int .i64 t, .sl a l.length cap z])] /\ s.h = h /\ ∀ (j : Nat) (s : ByteArray), j < i -> l[j]? = some s -> textB s = true)
    (fun x s => s.l = [(1, [.int .i64 2, .int .i64 c, .int .i64 q, .int .i64 f, .int .i64 t, .sl a l.length cap z])] /\ s.h = h /\ ((x = .exit 0 /\ (l.any fun s => !textB s) = false) \/ (x = .ret /\ (l.any fun s => !textB s) = true /\ tv s.e 2 = .v (.bool false)))) (l.length - 0) ⟨0, rfl, by omega, rfl, rfl, rfl, fun j s hj => by omega⟩ ?_ ?_
  · intro n ⟨e', l', h'⟩ hW ⟨i, hn, hi, h8, h1, h2, hno⟩
    dsimp only at hW h8 h1 h2
    subst l' h'
    rw [hW.spread]
    simp only [spread_t,spread_f,spread_n,Nat.zero_add,Nat.reduceAdd,h8]
    by_cases hlt : i < l.length
    · rcases hh.out with rfl | ⟨b, g, o, rw, full, rfl, hb, hfull⟩
      · simp at hlt
      · obtain ⟨s, hs⟩ : ∃ s, l[i]? = some s := ⟨_, List.getElem?_eq_getElem hlt⟩
        have hf := hfull i s hs
        have hfn := rIsText_at s h
        cases hps : textB s with
        | false =>
          rw [hps] at hfn
          simp -implicitDefEqProofs (maxSteps := 1000000) (disch := first | assumption | omega | (simp only [ZDI]; omega)) only [*,Int.ofNat_lt,Int.natCast_nonneg,G19,Za,Zb,Zc,Zd,Ze,Zf,Zg,Zh,Zi,Zj,Zk,Zl,Zm,Zn,Zo,Ja,Jb,Jc,J6,Jd,Je,J7,J8,Jf,Jg,Jh,Ji,Jj,Jk,J9,Jl,Jm,wr,Jn,JA,JB,Jo,Jp,Jq,Jr,Js,Jt,Ju,Jv,Jw,Jx,Jy,Jz,J0,J1,J2,J3,J4,J5,reduceCtorEq,JC,JD,JE,JF,JG,JH,JI,JJ]
          exact Turn.ret ⟨rfl, rfl, rfl, .inr ⟨rfl, List.any_eq_true.2 ⟨s, List.mem_of_getElem? hs, by rw [hps]; rfl⟩, rfl⟩⟩
        | true =>
          rw [hps] at hfn
          simp -implicitDefEqProofs (maxSteps := 1000000) (disch := first | assumption | omega | (simp only [ZDI]; omega)) only [*,Int.ofNat_lt,Int.natCast_nonneg,G19,Za,Zb,Zc,Zd,Ze,Zf,Zg,Zh,Zi,Zj,Zk,Zl,Zm,Zn,Zo,Ja,Jb,Jc,J6,Jd,Je,J7,J8,Jf,Jg,Jh,Ji,Jj,Jk,J9,Jl,Jm,wr,Jn,JA,JB,Jo,Jp,Jq,Jr,Js,Jt,Ju,Jv,Jw,Jx,Jy,Jz,J0,J1,J2,J3,J4,J5,reduceCtorEq,JC,JD,JE,JF,JG,JH,JI,JJ]
          refine Turn.next (l.length - (i + 1)) (by omega) ⟨rfl, i + 1, rfl, by omega, rfl, rfl, rfl, fun j s' hj hs' => ?_⟩
          by_cases hji : j = i
          · subst hji
            rw [hs] at hs'
            cases hs'
            exact hps
          · exact hno j s' (by omega) hs'
    · simp -implicitDefEqProofs (maxSteps := 1000000) (disch := first | assumption | omega | (simp only [ZDI]; omega)) only [*,Int.ofNat_lt,G19,Za,Zb,Zc,Zd,Ze,Zf,Zg,Zh,Zi,Zj,Zk,Zl,Zm,Zn,Zo,Ja,Jb,Jc,J6,Jd,Je,J7,J8,Jf,Jg,Jh,Ji,Jj,Jk,J9,Jl,Jm,wr,Jn,JA,JB,Jo,Jp,Jq,Jr,Js,Jt,Ju,Jv,Jw,Jx,Jy,Jz,J0,J1,J2,J3,J4,J5,reduceCtorEq,JC,JD,JE,JF,JG,JH,JI,JJ]
      refine Turn.exit ⟨rfl, rfl, rfl, .inl ⟨rfl, ?_⟩⟩
      rw [List.any_eq_false]
      intro s hs
      obtain ⟨j, hj⟩ := List.getElem?_of_mem hs
      have := (List.getElem?_eq_some_iff.1 hj).1
      rw [hno j s (by omega) hj]
      simp
  · intro x ⟨e', l', h'⟩ hW ⟨h1, h2, hE⟩
    dsimp only at hW h1 h2 hE
    subst l' h'
    rw [hW.spread]
    rcases hE with ⟨rfl, hany⟩ | ⟨rfl, hany, h4⟩
    · simp only [spread_t,spread_f,spread_n,Nat.zero_add,Nat.reduceAdd]
      simp -implicitDefEqProofs (maxSteps := 1000000) (disch := first | assumption | omega | (simp only [ZDI]; omega)) only [*,lenV,G19,Za,Zb,Zc,Zd,Ze,Zf,Zg,Zh,Zi,Zj,Zk,Zl,Zm,Zn,Zo,Ja,Jb,Jc,J6,Jd,Je,J7,J8,Jf,Jg,Jh,Ji,Jj,Jk,J9,Jl,Jm,wr,Jn,JA,JB,Jo,Jp,Jq,Jr,Js,Jt,Ju,Jv,Jw,Jx,Jy,Jz,J0,J1,J2,J3,J4,J5,reduceCtorEq,JC,JD,JE,JF,JG,JH,JI,JJ]
      refine hQ'.out _ ?_
      (first | rfl | (exfalso; omega) | exact leaf_t (by (try unfold mayP); (try simp only [hany,Bool.and_eq_true,Bool.or_eq_true,decide_eq_true_eq,Bool.not_eq_true',decide_eq_false_iff_not,Bool.false_eq_true,Bool.true_eq_false,Bool.not_false,Bool.not_true,eq_self,iff_true,iff_false,true_iff,false_iff,false_or,true_or,or_false,or_true,true_and,and_true,false_and,and_false,not_true_eq_false,not_false_eq_true]); (first | done | omega)) | exact leaf_f (by (try unfold mayP); (try simp only [hany,Bool.and_eq_true,Bool.or_eq_true,decide_eq_true_eq,Bool.not_eq_true',decide_eq_false_iff_not,Bool.false_eq_true,Bool.true_eq_false,Bool.not_false,Bool.not_true,eq_self,iff_true,iff_false,true_iff,false_iff,false_or,true_or,or_false,or_true,true_and,and_true,false_and,and_false,not_true_eq_false,not_false_eq_true]); (first | done | omega)) | exact leaf_b (by (try unfold mayP); (try simp only [hany,Bool.and_eq_true,Bool.or_eq_true,decide_eq_true_eq,Bool.not_eq_true',decide_eq_false_iff_not,Bool.false_eq_true,Bool.true_eq_false,Bool.not_false,Bool.not_true,eq_self,iff_true,iff_false,true_iff,false_iff,false_or,true_or,or_false,or_true,true_and,and_true,false_and,and_false,not_true_eq_false,not_false_eq_true]); (first | done | omega)))
    · simp only [spread_t,spread_f,spread_n,Nat.zero_add,Nat.reduceAdd,h4]
      simp -implicitDefEqProofs (maxSteps := 1000000) (disch := first | assumption | omega | (simp only [ZDI]; omega)) only [*,lenV,G19,Za,Zb,Zc,Zd,Ze,Zf,Zg,Zh,Zi,Zj,Zk,Zl,Zm,Zn,Zo,Ja,Jb,Jc,J6,Jd,Je,J7,J8,Jf,Jg,Jh,Ji,Jj,Jk,J9,Jl,Jm,wr,Jn,JA,JB,Jo,Jp,Jq,Jr,Js,Jt,Ju,Jv,Jw,Jx,Jy,Jz,J0,J1,J2,J3,J4,J5,reduceCtorEq,JC,JD,JE,JF,JG,JH,JI,JJ]
      refine hQ'.out _ ?_
      (first | rfl | (exfalso; omega) | exact leaf_t (by (try unfold mayP); (try simp only [hany,Bool.and_eq_true,Bool.or_eq_true,decide_eq_true_eq,Bool.not_eq_true',decide_eq_false_iff_not,Bool.false_eq_true,Bool.true_eq_false,Bool.not_false,Bool.not_true,eq_self,iff_true,iff_false,true_iff,false_iff,false_or,true_or,or_false,or_true,true_and,and_true,false_and,and_false,not_true_eq_false,not_false_eq_true]); (first | done | omega)) | exact leaf_f (by (try unfold mayP); (try simp only [hany,Bool.and_eq_true,Bool.or_eq_true,decide_eq_true_eq,Bool.not_eq_true',decide_eq_false_iff_not,Bool.false_eq_true,Bool.true_eq_false,Bool.not_false,Bool.not_true,eq_self,iff_true,iff_false,true_iff,false_iff,false_or,true_or,or_false,or_true,true_and,and_true,false_and,and_false,not_true_eq_false,not_false_eq_true]); (first | done | omega)) | exact leaf_b (by (try unfold mayP); (try simp only [hany,Bool.and_eq_true,Bool.or_eq_true,decide_eq_true_eq,Bool.not_eq_true',decide_eq_false_iff_not,Bool.false_eq_true,Bool.true_eq_false,Bool.not_false,Bool.not_true,eq_self,iff_true,iff_false,true_iff,false_iff,false_or,true_or,or_false,or_true,true_and,and_true,false_and,and_false,not_true_eq_false,not_false_eq_true]); (first | done | omega)))
end Go.Ev
set_option maxRecDepth 100000
namespace Go.Ev
open Go.Ev renaming exPure -> Ja, ofValue -> Jb, cellsV -> Jc, load -> Jd, store -> Je, binOp -> Jf, intOp -> Jg, rdV -> Jh, vsame -> Ji, vsames -> Jj, makeSliceV -> Jk, resV -> Jl, isCell -> Jm, nilCheckV -> Jn, allV -> Jo, builtinV -> Jp, lenV -> Jq, indexAddrV -> Jr, unOp -> Js, minmaxV -> Jt, minmax -> Ju, sliceV -> Jv, asInt -> Jw, appendV -> Jx, forkB -> Jy, roY -> Jz, rwB -> J0, copyV -> J1, clearV -> J2, convV -> J3, sliceCells -> J4, shift -> J5
open Bool renaming true -> BT, false -> BF
open Nat renaming reduceEqDiff -> J6, reduceLT -> J7, reduceAdd -> J8, reduceBEq -> J9, reduceSub -> JA, reduceMul -> JB, reduceLeDiff -> JJ
open Int renaming reduceLT -> JC, reduceLE -> JD, reduceAdd -> JE, reduceSub -> JF, reduceNeg -> JG, reduceToNat -> JH, reduceEq -> JI
open Go.Proofs
def lightB : Nat -> Nat -> List ByteArray -> Bool
  | _, _, [] => true
  | i, n, s :: r => cond (decide ((100 : Int) < i)) false (cond (decide ((10000 : Int) < s.size)) false (cond (decide ((100000 : Int) < n)) false (lightB (i + 1) (n + s.size) r)))
theorem lightB_drop {i n : Nat} {l : List ByteArray} {s : ByteArray} (h : l[i]? = some s) : lightB i n (l.drop i) = cond (decide ((100 : Int) < i)) false (cond (decide ((10000 : Int) < s.size)) false (cond (decide ((100000 : Int) < n)) false (lightB (i + 1) (n + s.size) (l.drop (i + 1))))) := by
  have hi := (List.getElem?_eq_some_iff.1 h).1
  rw [List.drop_eq_getElem_cons hi]
  have : l[i] = s := by rw [List.getElem?_eq_getElem hi] at h; exact Option.some.inj h
  rw [this, lightB]
theorem light_at {o c q f t : Int} {v : V} {l : List ByteArray} {h : Heap} (hv : StrsAt h v l) : D X (.fn 15 []) [.agg [.int .i64 o, .int .i64 c, .int .i64 q, .int .i64 f, .int .i64 t, v]] h = some (.bool (lightB 0 0 l), h) := by
  refine Ok.eq ?_
  refine Ok.aim fun Q hQ => ?_
  have hQ' := Hid.mk hQ
  clear hQ
  obtain ⟨a, cap, z, rfl, hl, _, ha⟩ := hv
  have hh := Hid.mk ha
  clear ha
  (refine Ok.body body15 pin15 ?_; simp only [c15,Try.f15,Option.getD_some,nslot15,List.append_nil,List.map,List.replicate,List.length_cons,List.length_nil,Nat.reduceAdd,Nat.reduceSub,List.cons_append,List.nil_append])
  simp -implicitDefEqProofs (maxSteps := 1000000) (disch := first | assumption | omega | (simp only [ZDI]; omega)) only [*,lenV,G15,Za,Zb,Zc,Zd,Ze,Zf,Zg,Zh,Zi,Zj,Zk,Zl,Zm,Zn,Zo,Ja,Jb,Jc,J6,Jd,Je,J7,J8,Jf,Jg,Jh,Ji,Jj,Jk,J9,Jl,Jm,wr,Jn,JA,JB,Jo,Jp,Jq,Jr,Js,Jt,Ju,Jv,Jw,Jx,Jy,Jz,J0,J1,J2,J3,J4,J5,reduceCtorEq,JC,JD,JE,JF,JG,JH,JI,JJ]
  refine Ok.loop [BF, BF, BT, BT, BT, BT, BF, BF, BF, BT, BT, BT, BT, BT, BT, BT, BT, BT, BT, BT, BT, BT, BT, BT, BT, BT, BT, BT, BT, BT] (fun n s => ∃ i m : Nat, n = l.length - i /\ i <= l.length /\ m <= 110000 /\ tv s.e 9 = .v (.int .i64 i) /\ tv s.e 3 = .v (.int .i64 m) /\ s.l = [(1, [.int .i64 o, .int .i64 c, .int .i64 q, .int .i64 f, .int .i64 t, .sl a l.length cap z])] /\ s.h = h /\ lightB 0 0 l = lightB i m (l.drop i))
    (fun x s => s.l = [(1, [.int .i64 o, .int .i64 c, .int .i64 q, .int .i64 f, .int .i64 t, .sl a l.length cap z])] /\ s.h = h /\ ((x = .exit 0 /\ lightB 0 0 l = true) \/ (x = .ret /\ lightB 0 0 l = false /\ tv s.e 2 = .v (.bool false)))) (l.length - 0) ⟨0, 0, rfl, by omega, by omega, rfl, rfl, rfl, rfl, rfl⟩ ?_ ?_
  · intro n ⟨e', l', h'⟩ hW ⟨i, m, hn, hi, hm, h9, h3, h1, h2, hno⟩
    dsimp only at hW h9 h3 h1 h2
    subst l' h'
    rw [hW.spread]
    simp only [spread_t,spread_f,spread_n,Nat.zero_add,Nat.reduceAdd,h9,h3]
    by_cases hlt : i < l.length
    · rcases hh.out with rfl | ⟨b, g, oo, rw, full, rfl, hb, hfull⟩
      · simp at hlt
      · obtain ⟨s, hs⟩ : ∃ s, l[i]? = some s := ⟨_, List.getElem?_eq_getElem hlt⟩
        have hf := hfull i s hs
        have hno' := hno
        rw [lightB_drop hs] at hno'
        have hno2 := Hid.mk hno'
        clear hno hno' hfull
        (repeat' (first | (simp -implicitDefEqProofs (maxSteps := 1000000) (disch := first | assumption | omega | (simp only [ZDI]; omega)) only [*,Int.ofNat_lt,Int.natCast_nonneg,lenV,Int.natCast_zero,G15,Za,Zb,Zc,Zd,Ze,Zf,Zg,Zh,Zi,Zj,Zk,Zl,Zm,Zn,Zo,Ja,Jb,Jc,J6,Jd,Je,J7,J8,Jf,Jg,Jh,Ji,Jj,Jk,J9,Jl,Jm,wr,Jn,JA,JB,Jo,Jp,Jq,Jr,Js,Jt,Ju,Jv,Jw,Jx,Jy,Jz,J0,J1,J2,J3,J4,J5,reduceCtorEq,JC,JD,JE,JF,JG,JH,JI,JJ]) | ((with_reducible (first | apply Ok.br | apply Ok.gd | apply Ok.ld)) <;> (intro g; (try simp only [ZGS] at g); try (exfalso; omega)))))
        all_goals first
          | (refine Turn.ret ⟨rfl, rfl, rfl, .inr ⟨rfl, ?_, rfl⟩⟩; rw [hno2.out]; simp only [*,decide_true,decide_false,cond_true,cond_false]; done)
          | (refine Turn.next (l.length - (i + 1)) (by omega) ⟨rfl, i + 1, m + s.size, rfl, by omega, by omega, rfl, rfl, rfl, rfl, ?_⟩; rw [hno2.out]; simp only [*,decide_false,cond_false])
    · simp -implicitDefEqProofs (maxSteps := 1000000) (disch := first | assumption | omega | (simp only [ZDI]; omega)) only [*,Int.ofNat_lt,G15,Za,Zb,Zc,Zd,Ze,Zf,Zg,Zh,Zi,Zj,Zk,Zl,Zm,Zn,Zo,Ja,Jb,Jc,J6,Jd,Je,J7,J8,Jf,Jg,Jh,Ji,Jj,Jk,J9,Jl,Jm,wr,Jn,JA,JB,Jo,Jp,Jq,Jr,Js,Jt,Ju,Jv,Jw,Jx,Jy,Jz,J0,J1,J2,J3,J4,J5,reduceCtorEq,JC,JD,JE,JF,JG,JH,JI,JJ]
      refine Turn.exit ⟨rfl, rfl, rfl, .inl ⟨rfl, ?_⟩⟩
      rw [List.drop_of_length_le (by omega), lightB]
  · intro x ⟨e', l', h'⟩ hW ⟨h1, h2, hE⟩
    dsimp only at hW h1 h2 hE
    subst l' h'
    rw [hW.spread]
    rcases hE with ⟨rfl, hany⟩ | ⟨rfl, hany, h4⟩
    · simp only [spread_t,spread_f,spread_n,Nat.zero_add,Nat.reduceAdd]
      simp -implicitDefEqProofs (maxSteps := 1000000) (disch := first | assumption | omega | (simp only [ZDI]; omega)) only [*,lenV,G15,Za,Zb,Zc,Zd,Ze,Zf,Zg,Zh,Zi,Zj,Zk,Zl,Zm,Zn,Zo,Ja,Jb,Jc,J6,Jd,Je,J7,J8,Jf,Jg,Jh,Ji,Jj,Jk,J9,Jl,Jm,wr,Jn,JA,JB,Jo,Jp,Jq,Jr,Js,Jt,Ju,Jv,Jw,Jx,Jy,Jz,J0,J1,J2,J3,J4,J5,reduceCtorEq,JC,JD,JE,JF,JG,JH,JI,JJ]
      exact hQ'.out _ (by rw [hany])
    · simp only [spread_t,spread_f,spread_n,Nat.zero_add,Nat.reduceAdd,h4]
      simp -implicitDefEqProofs (maxSteps := 1000000) (disch := first | assumption | omega | (simp only [ZDI]; omega)) only [*,lenV,G15,Za,Zb,Zc,Zd,Ze,Zf,Zg,Zh,Zi,Zj,Zk,Zl,Zm,Zn,Zo,Ja,Jb,Jc,J6,Jd,Je,J7,J8,Jf,Jg,Jh,Ji,Jj,Jk,J9,Jl,Jm,wr,Jn,JA,JB,Jo,Jp,Jq,Jr,Js,Jt,Ju,Jv,Jw,Jx,Jy,Jz,J0,J1,J2,J3,J4,J5,reduceCtorEq,JC,JD,JE,JF,JG,JH,JI,JJ]
      exact hQ'.out _ (by rw [hany])
theorem new_right {a b : Int} (g1 : 0 <= a) (g2 : a < b) (g3 : b <= 256) (H : Heap) : D X (.fn 17 []) [.agg [.int .i64 a, .int .i64 b]] H =
    some (.tup [.ptr (H.length + 1) 0 0, .int .i64 0],
      H ++ [.cells 0 true (reps (b - a).toNat [.str ⟨#[]⟩, .int .i64 0, .int .i64 0, .int .i64 0, .int .i64 0]), .cells 0 true [.int .i64 a, .int .i64 b, .bool false, .sl (.at H.length 0 0) (b - a).toNat (b - a).toNat 0]]) := by
  refine Ok.eq ?_
  have h1 : ¬ a < 0 := by omega
  have h2 : ¬ b <= a := by omega
  have h3 : ¬ 256 < b := by omega
  (refine Ok.body body17 pin17 ?_; simp only [c17,Try.f17,Option.getD_some,nslot17,List.append_nil,List.map,List.replicate,List.length_cons,List.length_nil,Nat.reduceAdd,Nat.reduceSub,List.cons_append,List.nil_append])
  simp -implicitDefEqProofs (maxSteps := 1000000) (disch := first | assumption | omega | (simp only [ZDI]; omega)) only [*,G17,Za,Zb,Zc,Zd,Ze,Zf,Zg,Zh,Zi,Zj,Zk,Zl,Zm,Zn,Zo,Ja,Jb,Jc,J6,Jd,Je,J7,J8,Jf,Jg,Jh,Ji,Jj,Jk,J9,Jl,Jm,wr,Jn,JA,JB,Jo,Jp,Jq,Jr,Js,Jt,Ju,Jv,Jw,Jx,Jy,Jz,J0,J1,J2,J3,J4,J5,reduceCtorEq,JC,JD,JE,JF,JG,JH,JI,JJ]
theorem span_at {h : Heap} {p : Nat} {a b : Int} {r : List V} {rw : Bool} (hp : hcells h p 0 = some (rw, .int .i64 a :: .int .i64 b :: r)) (hr : r.length = 2) : D X (.fn 20 []) [.ptr p 0 0] h = some (.agg [.int .i64 a, .int .i64 b], h) := by
  refine Ok.eq ?_
  match r, hr with
  | [r0, r1], _ =>
    (refine Ok.body body20 pin20 ?_; simp only [c20,Try.f20,Option.getD_some,nslot20,List.append_nil,List.map,List.replicate,List.length_cons,List.length_nil,Nat.reduceAdd,Nat.reduceSub,List.cons_append,List.nil_append])
    (repeat' (first | (simp -implicitDefEqProofs (maxSteps := 1000000) (disch := first | assumption | omega | (simp only [ZDI]; omega)) only [*,G20,Za,Zb,Zc,Zd,Ze,Zf,Zg,Zh,Zi,Zj,Zk,Zl,Zm,Zn,Zo,Ja,Jb,Jc,J6,Jd,Je,J7,J8,Jf,Jg,Jh,Ji,Jj,Jk,J9,Jl,Jm,wr,Jn,JA,JB,Jo,Jp,Jq,Jr,Js,Jt,Ju,Jv,Jw,Jx,Jy,Jz,J0,J1,J2,J3,J4,J5,reduceCtorEq,JC,JD,JE,JF,JG,JH,JI,JJ]) | ((with_reducible (first | apply Ok.br | apply Ok.gd | apply Ok.ld)) <;> (intro g; (try simp only [ZGS] at g); try (exfalso; omega)))))
theorem hcells_old {h : Heap} {l : List Blk} {b g : Nat} (hb : b < h.length) : hcells (h ++ l) b g = hcells h b g := by
  unfold hcells; rw [List.getElem?_append_left hb]
theorem StrsAt.old {h : Heap} {v : V} {l : List ByteArray} (hv : StrsAt h v l) (x : List Blk) : StrsAt (h ++ x) v l := by
  obtain ⟨a, cap, z, rfl, h1, h2, h3⟩ := hv
  refine ⟨a, cap, z, rfl, h1, h2, h3.imp id ?_⟩
  rintro ⟨b, g, o, rw, full, rfl, hb, hf⟩
  refine ⟨b, g, o, rw, full, rfl, ?_, hf⟩
  rw [hcells_old]
  · exact hb
  · unfold hcells at hb
    cases hx : h[b]? with
    | none => rw [hx] at hb; cases hb
    | some y => exact (List.getElem?_eq_some_iff.1 hx).1
end Go.Ev
set_option maxRecDepth 100000
namespace Go.Ev
open Go.Ev renaming exPure -> Ja, ofValue -> Jb, cellsV -> Jc, load -> Jd, store -> Je, binOp -> Jf, intOp -> Jg, rdV -> Jh, vsame -> Ji, vsames -> Jj, makeSliceV -> Jk, resV -> Jl, isCell -> Jm, nilCheckV -> Jn, allV -> Jo, builtinV -> Jp, lenV -> Jq, indexAddrV -> Jr, unOp -> Js, minmaxV -> Jt, minmax -> Ju, sliceV -> Jv, asInt -> Jw, appendV -> Jx, forkB -> Jy, roY -> Jz, rwB -> J0, copyV -> J1, clearV -> J2, convV -> J3, sliceCells -> J4, shift -> J5
open Bool renaming true -> BT, false -> BF
open Nat renaming reduceEqDiff -> J6, reduceLT -> J7, reduceAdd -> J8, reduceBEq -> J9, reduceSub -> JA, reduceMul -> JB, reduceLeDiff -> JJ
open Int renaming reduceLT -> JC, reduceLE -> JD, reduceAdd -> JE, reduceSub -> JF, reduceNeg -> JG, reduceToNat -> JH, reduceEq -> JI
open Go.Proofs
structure Sto where
  a : Int
  b : Int
  fz : Bool
  txt : Nat -> ByteArray
  mrk : Nat -> Nat -> Int
def Sto.n (s : Sto) : Nat := (s.b - s.a).toNat
def Cells (full : List V) (n : Nat) (txt : Nat -> ByteArray) (mrk : Nat -> Nat -> Int) : Prop :=
  full.length = n * 5 /\ ∀ i, i < n -> full[i * 5]? = some (.str (txt i)) /\ ∀ k, k < 4 -> full[i * 5 + 1 + k]? = some (.int .i64 (mrk i k))
structure Sto.Ok (s : Sto) : Prop where
  h0 : 0 <= s.a
  h1 : s.a < s.b
  h2 : s.b <= 256
structure Sto.Fit (s : Sto) (cap z : Nat) : Prop extends s.Ok where
  hc : s.n <= cap
  hz : z = 0 \/ z = 5
def StoreAt (h : Heap) (p c g : Nat) (s : Sto) : Prop :=
  ∃ cap z full, hcells h p 0 = some (true, [.int .i64 s.a, .int .i64 s.b, .bool s.fz, .sl (.at c g 0) s.n cap z]) /\ hcells h c g = some (true, full) /\ Cells full s.n s.txt s.mrk /\ p ≠ c /\ s.Fit cap z
theorem StoreAt.keeps {F : List Nat} {h h' : Heap} {p c g : Nat} {s : Sto} (k : Keeps F h h') (hs : StoreAt h p c g s) (hp : p ∉ F) (hc : c ∉ F) : StoreAt h' p c g s := by
  obtain ⟨cap, z, full, h1, h2, h3, h4, h5⟩ := hs
  exact ⟨cap, z, full, k.cells h1 hp, k.cells h2 hc, h3, h4, h5⟩
theorem StoreAt.lt {h : Heap} {p c g : Nat} {s : Sto} (hs : StoreAt h p c g s) : p < h.length /\ c < h.length := by
  obtain ⟨cap, z, full, h1, h2, _⟩ := hs
  exact ⟨hcells_lt h1, hcells_lt h2⟩
theorem cell_in {h : Heap} {p c g : Nat} {s : Sto} (hs : StoreAt h p c g s) {k : Int} (h1 : s.a <= k) (h2 : k < s.b) :
    D X (.fn 55 []) [.ptr p 0 0, .int .i64 k] h = some (.tup [.ptr c g ((k - s.a).toNat * 5), .int .i64 0], h) := by
  obtain ⟨cap, z, full, hp, hc, _, _, ho⟩ := hs
  have g0 := ho.h0
  have g1 := ho.h1
  have g2 := ho.h2
  have e1 : ¬ k < s.a := by omega
  have e2 : ¬ s.b <= k := by omega
  have e3 : 0 <= k - s.a /\ k - s.a < s.n := by unfold Sto.n; omega
  refine Ok.eq ?_
  (refine Ok.body body55 pin55 ?_; simp only [c55,Try.f55,Option.getD_some,nslot55,List.append_nil,List.map,List.replicate,List.length_cons,List.length_nil,Nat.reduceAdd,Nat.reduceSub,List.cons_append,List.nil_append])
  (repeat' (first | (simp -implicitDefEqProofs (maxSteps := 1000000) (disch := first | assumption | omega | (simp only [ZDI]; omega)) only [*,G55,Za,Zb,Zc,Zd,Ze,Zf,Zg,Zh,Zi,Zj,Zk,Zl,Zm,Zn,Zo,Ja,Jb,Jc,J6,Jd,Je,J7,J8,Jf,Jg,Jh,Ji,Jj,Jk,J9,Jl,Jm,wr,Jn,JA,JB,Jo,Jp,Jq,Jr,Js,Jt,Ju,Jv,Jw,Jx,Jy,Jz,J0,J1,J2,J3,J4,J5,reduceCtorEq,JC,JD,JE,JF,JG,JH,JI,JJ]) | ((with_reducible (first | apply Ok.br | apply Ok.gd | apply Ok.ld)) <;> (intro g; (try simp only [ZGS] at g); try (exfalso; omega)))))
theorem block_in {h : Heap} {p c g : Nat} {s : Sto} (hs : StoreAt h p c g s) {k : Int} (h1 : s.a <= k) (h2 : k < s.b) :
    D X (.fn 23 []) [.ptr p 0 0, .int .i64 k] h = some (.tup [.str (s.txt (k - s.a).toNat), .int .i64 0], h) := by
  have hcell := cell_in hs h1 h2
  obtain ⟨cap, z, full, hp, hc, hcl, _, ho⟩ := hs
  have e3 : (k - s.a).toNat < s.n := by unfold Sto.n; omega
  have e4 := (hcl.2 _ e3).1
  refine Ok.eq ?_
  (refine Ok.body body23 pin23 ?_; simp only [c23,Try.f23,Option.getD_some,nslot23,List.append_nil,List.map,List.replicate,List.length_cons,List.length_nil,Nat.reduceAdd,Nat.reduceSub,List.cons_append,List.nil_append])
  (repeat' (first | (simp -implicitDefEqProofs (maxSteps := 1000000) (disch := first | assumption | omega | (simp only [ZDI]; omega)) only [*,G23,Za,Zb,Zc,Zd,Ze,Zf,Zg,Zh,Zi,Zj,Zk,Zl,Zm,Zn,Zo,Ja,Jb,Jc,J6,Jd,Je,J7,J8,Jf,Jg,Jh,Ji,Jj,Jk,J9,Jl,Jm,wr,Jn,JA,JB,Jo,Jp,Jq,Jr,Js,Jt,Ju,Jv,Jw,Jx,Jy,Jz,J0,J1,J2,J3,J4,J5,reduceCtorEq,JC,JD,JE,JF,JG,JH,JI,JJ]) | ((with_reducible (first | apply Ok.br | apply Ok.gd | apply Ok.ld)) <;> (intro g; (try simp only [ZGS] at g); try (exfalso; omega)))))
theorem mark_in {h : Heap} {p c g : Nat} {s : Sto} (hs : StoreAt h p c g s) {k : Int} (h1 : s.a <= k) (h2 : k < s.b) {q : Int} (hq : 0 <= q /\ q < 4) :
    D X (.fn 24 []) [.ptr p 0 0, .int .i64 k, .int .i64 q] h = some (.tup [.int .i64 (s.mrk (k - s.a).toNat q.toNat), .int .i64 0], h) := by
  have hcell := cell_in hs h1 h2
  obtain ⟨cap, z, full, hp, hc, hcl, _, ho⟩ := hs
  have e3 : (k - s.a).toNat < s.n := by unfold Sto.n; omega
  have e4 := (hcl.2 _ e3).2 q.toNat (by omega)
  have e5 : ¬ q < 0 := by omega
  have e6 : ¬ 4 <= q := by omega
  have e7 : 0 <= q /\ q < ((4 : Nat) : Int) := by omega
  refine Ok.eq ?_
  (refine Ok.body body24 pin24 ?_; simp only [c24,Try.f24,Option.getD_some,nslot24,List.append_nil,List.map,List.replicate,List.length_cons,List.length_nil,Nat.reduceAdd,Nat.reduceSub,List.cons_append,List.nil_append])
  (repeat' (first | (simp -implicitDefEqProofs (maxSteps := 1000000) (disch := first | assumption | omega | (simp only [ZDI]; omega)) only [*,G24,Za,Zb,Zc,Zd,Ze,Zf,Zg,Zh,Zi,Zj,Zk,Zl,Zm,Zn,Zo,Ja,Jb,Jc,J6,Jd,Je,J7,J8,Jf,Jg,Jh,Ji,Jj,Jk,J9,Jl,Jm,wr,Jn,JA,JB,Jo,Jp,Jq,Jr,Js,Jt,Ju,Jv,Jw,Jx,Jy,Jz,J0,J1,J2,J3,J4,J5,reduceCtorEq,JC,JD,JE,JF,JG,JH,JI,JJ]) | ((with_reducible (first | apply Ok.br | apply Ok.gd | apply Ok.ld)) <;> (intro g; (try simp only [ZGS] at g); try (exfalso; omega)))))
theorem spanOf_at {h : Heap} {p c g : Nat} {s : Sto} (hs : StoreAt h p c g s) : D X (.fn 20 []) [.ptr p 0 0] h = some (.agg [.int .i64 s.a, .int .i64 s.b], h) := by
  obtain ⟨cap, z, full, hp, _⟩ := hs
  exact span_at hp rfl
theorem frozen_at {h : Heap} {p c g : Nat} {s : Sto} (hs : StoreAt h p c g s) : D X (.fn 30 []) [.ptr p 0 0] h = some (.bool s.fz, h) := by
  obtain ⟨cap, z, full, hp, _⟩ := hs
  refine Ok.eq ?_
  (refine Ok.body body30 pin30 ?_; simp only [c30,Try.f30,Option.getD_some,nslot30,List.append_nil,List.map,List.replicate,List.length_cons,List.length_nil,Nat.reduceAdd,Nat.reduceSub,List.cons_append,List.nil_append])
  (repeat' (first | (simp -implicitDefEqProofs (maxSteps := 1000000) (disch := first | assumption | omega | (simp only [ZDI]; omega)) only [*,G30,Za,Zb,Zc,Zd,Ze,Zf,Zg,Zh,Zi,Zj,Zk,Zl,Zm,Zn,Zo,Ja,Jb,Jc,J6,Jd,Je,J7,J8,Jf,Jg,Jh,Ji,Jj,Jk,J9,Jl,Jm,wr,Jn,JA,JB,Jo,Jp,Jq,Jr,Js,Jt,Ju,Jv,Jw,Jx,Jy,Jz,J0,J1,J2,J3,J4,J5,reduceCtorEq,JC,JD,JE,JF,JG,JH,JI,JJ]) | ((with_reducible (first | apply Ok.br | apply Ok.gd | apply Ok.ld)) <;> (intro g; (try simp only [ZGS] at g); try (exfalso; omega)))))
def emptySto (a b : Int) : Sto := ⟨a, b, false, fun _ => ⟨#[]⟩, fun _ _ => 0⟩
theorem repsAt {z : List V} : ∀ (n i j : Nat), i < n -> j < z.length -> (reps n z)[i * z.length + j]? = z[j]?
  | 0, i, j, hi, hj => by omega
  | n + 1, 0, j, hi, hj => by
    unfold reps
    rw [List.replicate_succ, List.flatten_cons, Nat.zero_mul, Nat.zero_add, List.getElem?_append_left hj]
  | n + 1, i + 1, j, hi, hj => by
    have ih := repsAt (z := z) n i j (by omega) hj
    unfold reps at ih ⊢
    rw [List.replicate_succ, List.flatten_cons, List.getElem?_append_right (by rw [Nat.add_mul]; omega), <- ih]
    congr 1
    rw [Nat.add_mul]; omega
theorem repsLen {z : List V} (n : Nat) : (reps n z).length = n * z.length := by
  unfold reps; simp
theorem new_store {a b : Int} (g1 : 0 <= a) (g2 : a < b) (g3 : b <= 256) (H : Heap) :
    Ev.Ok (D X (.fn 17 []) [.agg [.int .i64 a, .int .i64 b]] H) fun r => ∃ h', r = (.tup [.ptr (H.length + 1) 0 0, .int .i64 0], h') /\ Keeps [] H h' /\ h'.length = H.length + 2 /\ StoreAt h' (H.length + 1) H.length 0 (emptySto a b) := by
  refine Ok.of (new_right g1 g2 g3 H) ⟨_, rfl, .app _ _ _, by simp, (b - a).toNat, 0, reps (b - a).toNat [.str ⟨#[]⟩, .int .i64 0, .int .i64 0, .int .i64 0, .int .i64 0], ?_, ?_, ?_, by omega, ⟨⟨g1, g2, g3⟩, Nat.le_refl _, .inl rfl⟩⟩
  · rw [hcells_ge (by omega), Nat.add_sub_cancel_left]
    exact grd_t rfl _
  · rw [hcells_ge (by omega), Nat.sub_self]
    exact grd_t rfl _
  · refine ⟨by rw [repsLen]; rfl, fun i hi => ⟨?_, fun k hk => ?_⟩⟩
    · exact repsAt (z := [.str ⟨#[]⟩, .int .i64 0, .int .i64 0, .int .i64 0, .int .i64 0]) (b - a).toNat i 0 hi (by simp)
    · have := repsAt (z := [.str ⟨#[]⟩, .int .i64 0, .int .i64 0, .int .i64 0, .int .i64 0]) (b - a).toNat i (k + 1) hi (by simp; omega)
      rw [show i * 5 + 1 + k = i * 5 + (k + 1) by omega]
      refine Eq.trans this ?_
      match k, hk with
      | 0, _ => rfl
      | 1, _ => rfl
      | 2, _ => rfl
      | 3, _ => rfl
end Go.Ev
namespace Go.Ev
open Go.Ev renaming exPure -> Ja, ofValue -> Jb, cellsV -> Jc, load -> Jd, store -> Je, binOp -> Jf, intOp -> Jg, rdV -> Jh, vsame -> Ji, vsames -> Jj, makeSliceV -> Jk, resV -> Jl, isCell -> Jm, nilCheckV -> Jn, allV -> Jo, builtinV -> Jp, lenV -> Jq, indexAddrV -> Jr, unOp -> Js, minmaxV -> Jt, minmax -> Ju, sliceV -> Jv, asInt -> Jw, appendV -> Jx, forkB -> Jy, roY -> Jz, rwB -> J0, copyV -> J1, clearV -> J2, convV -> J3, sliceCells -> J4, shift -> J5
open Bool renaming true -> BT, false -> BF
open Nat renaming reduceEqDiff -> J6, reduceLT -> J7, reduceAdd -> J8, reduceBEq -> J9, reduceSub -> JA, reduceMul -> JB, reduceLeDiff -> JJ
open Int renaming reduceLT -> JC, reduceLE -> JD, reduceAdd -> JE, reduceSub -> JF, reduceNeg -> JG, reduceToNat -> JH, reduceEq -> JI
open Go.Proofs
theorem empty_at (a b : Int) (h : Heap) : D X (.fn 81 []) [.agg [.int .i64 a, .int .i64 b]] h = some (.bool (decide (b <= a)), h) := by
  refine Ok.eq ?_
  (refine Ok.body body81 pin81 ?_; simp only [c81,Try.f81,Option.getD_some,nslot81,List.append_nil,List.map,List.replicate,List.length_cons,List.length_nil,Nat.reduceAdd,Nat.reduceSub,List.cons_append,List.nil_append])
  (repeat' (first | (simp -implicitDefEqProofs (maxSteps := 1000000) (disch := first | assumption | omega | (simp only [ZDI]; omega)) only [*,G81,Za,Zb,Zc,Zd,Ze,Zf,Zg,Zh,Zi,Zj,Zk,Zl,Zm,Zn,Zo,Ja,Jb,Jc,J6,Jd,Je,J7,J8,Jf,Jg,Jh,Ji,Jj,Jk,J9,Jl,Jm,wr,Jn,JA,JB,Jo,Jp,Jq,Jr,Js,Jt,Ju,Jv,Jw,Jx,Jy,Jz,J0,J1,J2,J3,J4,J5,reduceCtorEq,JC,JD,JE,JF,JG,JH,JI,JJ]) | ((with_reducible (first | apply Ok.br | apply Ok.gd | apply Ok.ld)) <;> (intro g; (try simp only [ZGS] at g); try (exfalso; omega)))))
theorem looks_at (a : Int) (h : Heap) : D X (.fn 54 []) [.int .i64 a] h = some (.bool (decide (a = 1 \/ a = 4)), h) := by
  refine Ok.eq ?_
  (refine Ok.body body54 pin54 ?_; simp only [c54,Try.f54,Option.getD_some,nslot54,List.append_nil,List.map,List.replicate,List.length_cons,List.length_nil,Nat.reduceAdd,Nat.reduceSub,List.cons_append,List.nil_append])
  (repeat' (first | (simp -implicitDefEqProofs (maxSteps := 1000000) (disch := first | assumption | omega | (simp only [ZDI]; omega)) only [*,G54,Za,Zb,Zc,Zd,Ze,Zf,Zg,Zh,Zi,Zj,Zk,Zl,Zm,Zn,Zo,Ja,Jb,Jc,J6,Jd,Je,J7,J8,Jf,Jg,Jh,Ji,Jj,Jk,J9,Jl,Jm,wr,Jn,JA,JB,Jo,Jp,Jq,Jr,Js,Jt,Ju,Jv,Jw,Jx,Jy,Jz,J0,J1,J2,J3,J4,J5,reduceCtorEq,JC,JD,JE,JF,JG,JH,JI,JJ]) | ((with_reducible (first | apply Ok.br | apply Ok.gd | apply Ok.ld)) <;> (intro g; (try simp only [ZGS] at g); try (exfalso; omega)))))
  all_goals try (first | rfl | (exfalso; omega) | exact leaf_t (by (try simp only [Bool.and_eq_true,Bool.or_eq_true,decide_eq_true_eq,Bool.not_eq_true',decide_eq_false_iff_not,Bool.false_eq_true,Bool.true_eq_false,Bool.not_false,Bool.not_true,eq_self,iff_true,iff_false,true_iff,false_iff,false_or,true_or,or_false,or_true,true_and,and_true,false_and,and_false,not_true_eq_false,not_false_eq_true]); (first | done | omega)) | exact leaf_f (by (try simp only [Bool.and_eq_true,Bool.or_eq_true,decide_eq_true_eq,Bool.not_eq_true',decide_eq_false_iff_not,Bool.false_eq_true,Bool.true_eq_false,Bool.not_false,Bool.not_true,eq_self,iff_true,iff_false,true_iff,false_iff,false_or,true_or,or_false,or_true,true_and,and_true,false_and,and_false,not_true_eq_false,not_false_eq_true]); (first | done | omega)) | exact leaf_b (by (try simp only [Bool.and_eq_true,Bool.or_eq_true,decide_eq_true_eq,Bool.not_eq_true',decide_eq_false_iff_not,Bool.false_eq_true,Bool.true_eq_false,Bool.not_false,Bool.not_true,eq_self,iff_true,iff_false,true_iff,false_iff,false_or,true_or,or_false,or_true,true_and,and_true,false_and,and_false,not_true_eq_false,not_false_eq_true]); (first | done | omega)))
end Go.Ev
set_option maxRecDepth 100000
namespace Go.Ev
open Go.Ev renaming exPure -> Ja, ofValue -> Jb, cellsV -> Jc, load -> Jd, store -> Je, binOp -> Jf, intOp -> Jg, rdV -> Jh, vsame -> Ji, vsames -> Jj, makeSliceV -> Jk, resV -> Jl, isCell -> Jm, nilCheckV -> Jn, allV -> Jo, builtinV -> Jp, lenV -> Jq, indexAddrV -> Jr, unOp -> Js, minmaxV -> Jt, minmax -> Ju, sliceV -> Jv, asInt -> Jw, appendV -> Jx, forkB -> Jy, roY -> Jz, rwB -> J0, copyV -> J1, clearV -> J2, convV -> J3, sliceCells -> J4, shift -> J5
open Bool renaming true -> BT, false -> BF
open Nat renaming reduceEqDiff -> J6, reduceLT -> J7, reduceAdd -> J8, reduceBEq -> J9, reduceSub -> JA, reduceMul -> JB, reduceLeDiff -> JJ
open Int renaming reduceLT -> JC, reduceLE -> JD, reduceAdd -> JE, reduceSub -> JF, reduceNeg -> JG, reduceToNat -> JH, reduceEq -> JI
open Go.Proofs
theorem len_0 (h : Heap) : D X (.fn 91 []) [.int .u64 0] h = some (.int .i64 0, h) := D_closed 8 (by kernel_rfl)
theorem len_1 (h : Heap) : D X (.fn 91 []) [.int .u64 1] h = some (.int .i64 1, h) := D_closed 8 (by kernel_rfl)
theorem insort_0 (v : V) (fv : V) (h : Heap) : D X (.fn 92 []) [v, .int .i64 0, .int .i64 0, fv] h = some (.tup [], h) := by
  refine Ok.eq ?_
  (refine Ok.body body92 pin92 ?_; simp only [c92,Try.f92,Option.getD_some,nslot92,List.append_nil,List.map,List.replicate,List.length_cons,List.length_nil,Nat.reduceAdd,Nat.reduceSub,List.cons_append,List.nil_append])
  (repeat' (first | (simp -implicitDefEqProofs (maxSteps := 1000000) (disch := first | assumption | omega | (simp only [ZDI]; omega)) only [*,G92,Za,Zb,Zc,Zd,Ze,Zf,Zg,Zh,Zi,Zj,Zk,Zl,Zm,Zn,Zo,Ja,Jb,Jc,J6,Jd,Je,J7,J8,Jf,Jg,Jh,Ji,Jj,Jk,J9,Jl,Jm,wr,Jn,JA,JB,Jo,Jp,Jq,Jr,Js,Jt,Ju,Jv,Jw,Jx,Jy,Jz,J0,J1,J2,J3,J4,J5,reduceCtorEq,JC,JD,JE,JF,JG,JH,JI,JJ]) | ((with_reducible (first | apply Ok.br | apply Ok.gd | apply Ok.ld)) <;> (intro g; (try simp only [ZGS] at g); try (exfalso; omega)))))
  (refine Ok.unroll ?_; (repeat' (first | (simp -implicitDefEqProofs (maxSteps := 1000000) (disch := first | assumption | omega | (simp only [ZDI]; omega)) only [*,G92,Za,Zb,Zc,Zd,Ze,Zf,Zg,Zh,Zi,Zj,Zk,Zl,Zm,Zn,Zo,Ja,Jb,Jc,J6,Jd,Je,J7,J8,Jf,Jg,Jh,Ji,Jj,Jk,J9,Jl,Jm,wr,Jn,JA,JB,Jo,Jp,Jq,Jr,Js,Jt,Ju,Jv,Jw,Jx,Jy,Jz,J0,J1,J2,J3,J4,J5,reduceCtorEq,JC,JD,JE,JF,JG,JH,JI,JJ]) | ((with_reducible (first | apply Ok.br | apply Ok.gd | apply Ok.ld)) <;> (intro g; (try simp only [ZGS] at g); try (exfalso; omega))))))
theorem insort_1 (v : V) (fv : V) (h : Heap) : D X (.fn 92 []) [v, .int .i64 0, .int .i64 1, fv] h = some (.tup [], h) := by
  refine Ok.eq ?_
  (refine Ok.body body92 pin92 ?_; simp only [c92,Try.f92,Option.getD_some,nslot92,List.append_nil,List.map,List.replicate,List.length_cons,List.length_nil,Nat.reduceAdd,Nat.reduceSub,List.cons_append,List.nil_append])
  (repeat' (first | (simp -implicitDefEqProofs (maxSteps := 1000000) (disch := first | assumption | omega | (simp only [ZDI]; omega)) only [*,G92,Za,Zb,Zc,Zd,Ze,Zf,Zg,Zh,Zi,Zj,Zk,Zl,Zm,Zn,Zo,Ja,Jb,Jc,J6,Jd,Je,J7,J8,Jf,Jg,Jh,Ji,Jj,Jk,J9,Jl,Jm,wr,Jn,JA,JB,Jo,Jp,Jq,Jr,Js,Jt,Ju,Jv,Jw,Jx,Jy,Jz,J0,J1,J2,J3,J4,J5,reduceCtorEq,JC,JD,JE,JF,JG,JH,JI,JJ]) | ((with_reducible (first | apply Ok.br | apply Ok.gd | apply Ok.ld)) <;> (intro g; (try simp only [ZGS] at g); try (exfalso; omega)))))
  (refine Ok.unroll ?_; (repeat' (first | (simp -implicitDefEqProofs (maxSteps := 1000000) (disch := first | assumption | omega | (simp only [ZDI]; omega)) only [*,G92,Za,Zb,Zc,Zd,Ze,Zf,Zg,Zh,Zi,Zj,Zk,Zl,Zm,Zn,Zo,Ja,Jb,Jc,J6,Jd,Je,J7,J8,Jf,Jg,Jh,Ji,Jj,Jk,J9,Jl,Jm,wr,Jn,JA,JB,Jo,Jp,Jq,Jr,Js,Jt,Ju,Jv,Jw,Jx,Jy,Jz,J0,J1,J2,J3,J4,J5,reduceCtorEq,JC,JD,JE,JF,JG,JH,JI,JJ]) | ((with_reducible (first | apply Ok.br | apply Ok.gd | apply Ok.ld)) <;> (intro g; (try simp only [ZGS] at g); try (exfalso; omega))))))
theorem pdq_0 (v : V) (k : Int) (fv : V) (h : Heap) : D X (.fn 90 []) [v, .int .i64 0, .int .i64 0, .int .i64 k, fv] h = some (.tup [], h) := by
  refine Ok.eq ?_
  (refine Ok.body body90 pin90 ?_; simp only [c90,Try.f90,Option.getD_some,nslot90,List.append_nil,List.map,List.replicate,List.length_cons,List.length_nil,Nat.reduceAdd,Nat.reduceSub,List.cons_append,List.nil_append])
  (repeat' (first | (simp -implicitDefEqProofs (maxSteps := 1000000) (disch := first | assumption | omega | (simp only [ZDI]; omega)) only [*,G90,Za,Zb,Zc,Zd,Ze,Zf,Zg,Zh,Zi,Zj,Zk,Zl,Zm,Zn,Zo,Ja,Jb,Jc,J6,Jd,Je,J7,J8,Jf,Jg,Jh,Ji,Jj,Jk,J9,Jl,Jm,wr,Jn,JA,JB,Jo,Jp,Jq,Jr,Js,Jt,Ju,Jv,Jw,Jx,Jy,Jz,J0,J1,J2,J3,J4,J5,reduceCtorEq,JC,JD,JE,JF,JG,JH,JI,JJ]) | ((with_reducible (first | apply Ok.br | apply Ok.gd | apply Ok.ld)) <;> (intro g; (try simp only [ZGS] at g); try (exfalso; omega)))))
  (refine Ok.unroll ?_; (repeat' (first | (simp -implicitDefEqProofs (maxSteps := 1000000) (disch := first | assumption | omega | (simp only [ZDI]; omega)) only [*,insort_0,G90,Za,Zb,Zc,Zd,Ze,Zf,Zg,Zh,Zi,Zj,Zk,Zl,Zm,Zn,Zo,Ja,Jb,Jc,J6,Jd,Je,J7,J8,Jf,Jg,Jh,Ji,Jj,Jk,J9,Jl,Jm,wr,Jn,JA,JB,Jo,Jp,Jq,Jr,Js,Jt,Ju,Jv,Jw,Jx,Jy,Jz,J0,J1,J2,J3,J4,J5,reduceCtorEq,JC,JD,JE,JF,JG,JH,JI,JJ]) | ((with_reducible (first | apply Ok.br | apply Ok.gd | apply Ok.ld)) <;> (intro g; (try simp only [ZGS] at g); try (exfalso; omega))))))
theorem pdq_1 (v : V) (k : Int) (fv : V) (h : Heap) : D X (.fn 90 []) [v, .int .i64 0, .int .i64 1, .int .i64 k, fv] h = some (.tup [], h) := by
  refine Ok.eq ?_
  (refine Ok.body body90 pin90 ?_; simp only [c90,Try.f90,Option.getD_some,nslot90,List.append_nil,List.map,List.replicate,List.length_cons,List.length_nil,Nat.reduceAdd,Nat.reduceSub,List.cons_append,List.nil_append])
  (repeat' (first | (simp -implicitDefEqProofs (maxSteps := 1000000) (disch := first | assumption | omega | (simp only [ZDI]; omega)) only [*,G90,Za,Zb,Zc,Zd,Ze,Zf,Zg,Zh,Zi,Zj,Zk,Zl,Zm,Zn,Zo,Ja,Jb,Jc,J6,Jd,Je,J7,J8,Jf,Jg,Jh,Ji,Jj,Jk,J9,Jl,Jm,wr,Jn,JA,JB,Jo,Jp,Jq,Jr,Js,Jt,Ju,Jv,Jw,Jx,Jy,Jz,J0,J1,J2,J3,J4,J5,reduceCtorEq,JC,JD,JE,JF,JG,JH,JI,JJ]) | ((with_reducible (first | apply Ok.br | apply Ok.gd | apply Ok.ld)) <;> (intro g; (try simp only [ZGS] at g); try (exfalso; omega)))))
  (refine Ok.unroll ?_; (repeat' (first | (simp -implicitDefEqProofs (maxSteps := 1000000) (disch := first | assumption | omega | (simp only [ZDI]; omega)) only [*,insort_1,G90,Za,Zb,Zc,Zd,Ze,Zf,Zg,Zh,Zi,Zj,Zk,Zl,Zm,Zn,Zo,Ja,Jb,Jc,J6,Jd,Je,J7,J8,Jf,Jg,Jh,Ji,Jj,Jk,J9,Jl,Jm,wr,Jn,JA,JB,Jo,Jp,Jq,Jr,Js,Jt,Ju,Jv,Jw,Jx,Jy,Jz,J0,J1,J2,J3,J4,J5,reduceCtorEq,JC,JD,JE,JF,JG,JH,JI,JJ]) | ((with_reducible (first | apply Ok.br | apply Ok.gd | apply Ok.ld)) <;> (intro g; (try simp only [ZGS] at g); try (exfalso; omega))))))
theorem sort_0 (a : SA) (cap z : Nat) (fv : V) (h : Heap) : D X (.fn 87 []) [.sl a 0 cap z, fv] h = some (.tup [], h) := by
  refine Ok.eq ?_
  (refine Ok.body body87 pin87 ?_; simp only [c87,Try.f87,Option.getD_some,nslot87,List.append_nil,List.map,List.replicate,List.length_cons,List.length_nil,Nat.reduceAdd,Nat.reduceSub,List.cons_append,List.nil_append])
  (repeat' (first | (simp -implicitDefEqProofs (maxSteps := 1000000) (disch := first | assumption | omega | (simp only [ZDI]; omega)) only [*,pdq_0,len_0,lenV,wrap_u64_0,G87,Za,Zb,Zc,Zd,Ze,Zf,Zg,Zh,Zi,Zj,Zk,Zl,Zm,Zn,Zo,Ja,Jb,Jc,J6,Jd,Je,J7,J8,Jf,Jg,Jh,Ji,Jj,Jk,J9,Jl,Jm,wr,Jn,JA,JB,Jo,Jp,Jq,Jr,Js,Jt,Ju,Jv,Jw,Jx,Jy,Jz,J0,J1,J2,J3,J4,J5,reduceCtorEq,JC,JD,JE,JF,JG,JH,JI,JJ]) | ((with_reducible (first | apply Ok.br | apply Ok.gd | apply Ok.ld)) <;> (intro g; (try simp only [ZGS] at g); try (exfalso; omega)))))
theorem sort_1 (a : SA) (cap z : Nat) (fv : V) (h : Heap) : D X (.fn 87 []) [.sl a 1 cap z, fv] h = some (.tup [], h) := by
  refine Ok.eq ?_
  (refine Ok.body body87 pin87 ?_; simp only [c87,Try.f87,Option.getD_some,nslot87,List.append_nil,List.map,List.replicate,List.length_cons,List.length_nil,Nat.reduceAdd,Nat.reduceSub,List.cons_append,List.nil_append])
  (repeat' (first | (simp -implicitDefEqProofs (maxSteps := 1000000) (disch := first | assumption | omega | (simp only [ZDI]; omega)) only [*,pdq_1,len_1,lenV,wrap_u64_1,G87,Za,Zb,Zc,Zd,Ze,Zf,Zg,Zh,Zi,Zj,Zk,Zl,Zm,Zn,Zo,Ja,Jb,Jc,J6,Jd,Je,J7,J8,Jf,Jg,Jh,Ji,Jj,Jk,J9,Jl,Jm,wr,Jn,JA,JB,Jo,Jp,Jq,Jr,Js,Jt,Ju,Jv,Jw,Jx,Jy,Jz,J0,J1,J2,J3,J4,J5,reduceCtorEq,JC,JD,JE,JF,JG,JH,JI,JJ]) | ((with_reducible (first | apply Ok.br | apply Ok.gd | apply Ok.ld)) <;> (intro g; (try simp only [ZGS] at g); try (exfalso; omega)))))
theorem cloneSpan_at {b g o cap z : Nat} {f t : Int} {h : Heap} {k : Bool} {full : List V} (hb : hcells h b g = some (k, full)) (h0 : (full.drop o).take 2 = [.int .i64 f, .int .i64 t]) (hl : o + 2 <= full.length) :
    D X (.fn 86 []) [.sl (.at b g o) 1 cap z] h = some (.sl (.at (h.length + 1) 0 0) 1 1 2, h ++ [.cells 0 true [], .cells 0 true [.int .i64 f, .int .i64 t]]) := by
  refine Ok.eq ?_
  have hb' := hcells_lt hb
  (refine Ok.body body86 pin86 ?_; simp only [c86,Try.f86,Option.getD_some,nslot86,List.append_nil,List.map,List.replicate,List.length_cons,List.length_nil,Nat.reduceAdd,Nat.reduceSub,List.cons_append,List.nil_append])
  (repeat' (first | (simp -implicitDefEqProofs (maxSteps := 1000000) (disch := first | assumption | omega | (simp only [ZDI]; omega)) only [*,Nat.one_mul,reps,List.flatten,List.append_assoc,G86,Za,Zb,Zc,Zd,Ze,Zf,Zg,Zh,Zi,Zj,Zk,Zl,Zm,Zn,Zo,Ja,Jb,Jc,J6,Jd,Je,J7,J8,Jf,Jg,Jh,Ji,Jj,Jk,J9,Jl,Jm,wr,Jn,JA,JB,Jo,Jp,Jq,Jr,Js,Jt,Ju,Jv,Jw,Jx,Jy,Jz,J0,J1,J2,J3,J4,J5,reduceCtorEq,JC,JD,JE,JF,JG,JH,JI,JJ]) | ((with_reducible (first | apply Ok.br | apply Ok.gd | apply Ok.ld)) <;> (intro g; (try simp only [ZGS] at g); try (exfalso; omega)))))
theorem index_1 {b g cap z : Nat} {f t : Int} {h : Heap} {k : Bool} (hb : hcells h b g = some (k, [.int .i64 f, .int .i64 t])) :
    D X (.fn 89 []) [.sl (.at b g 0) 1 cap z, .fn 81 []] h = some (.int .i64 (if t <= f then 0 else -1), h) := by
  refine Ok.eq ?_
  by_cases hft : t <= f
  · (refine Ok.body body89 pin89 ?_; simp only [c89,Try.f89,Option.getD_some,nslot89,List.append_nil,List.map,List.replicate,List.length_cons,List.length_nil,Nat.reduceAdd,Nat.reduceSub,List.cons_append,List.nil_append])
    (repeat' (first | (simp -implicitDefEqProofs (maxSteps := 1000000) (disch := first | assumption | omega | (simp only [ZDI]; omega)) only [*,lenV,G89,Za,Zb,Zc,Zd,Ze,Zf,Zg,Zh,Zi,Zj,Zk,Zl,Zm,Zn,Zo,Ja,Jb,Jc,J6,Jd,Je,J7,J8,Jf,Jg,Jh,Ji,Jj,Jk,J9,Jl,Jm,wr,Jn,JA,JB,Jo,Jp,Jq,Jr,Js,Jt,Ju,Jv,Jw,Jx,Jy,Jz,J0,J1,J2,J3,J4,J5,reduceCtorEq,JC,JD,JE,JF,JG,JH,JI,JJ]) | ((with_reducible (first | apply Ok.br | apply Ok.gd | apply Ok.ld)) <;> (intro g; (try simp only [ZGS] at g); try (exfalso; omega)))))
    (refine Ok.unroll ?_; (repeat' (first | (simp -implicitDefEqProofs (maxSteps := 1000000) (disch := first | assumption | omega | (simp only [ZDI]; omega)) only [*,empty_at,G89,Za,Zb,Zc,Zd,Ze,Zf,Zg,Zh,Zi,Zj,Zk,Zl,Zm,Zn,Zo,Ja,Jb,Jc,J6,Jd,Je,J7,J8,Jf,Jg,Jh,Ji,Jj,Jk,J9,Jl,Jm,wr,Jn,JA,JB,Jo,Jp,Jq,Jr,Js,Jt,Ju,Jv,Jw,Jx,Jy,Jz,J0,J1,J2,J3,J4,J5,reduceCtorEq,JC,JD,JE,JF,JG,JH,JI,JJ]) | ((with_reducible (first | apply Ok.br | apply Ok.gd | apply Ok.ld)) <;> (intro g; (try simp only [ZGS] at g); try (exfalso; omega))))))
  · (refine Ok.body body89 pin89 ?_; simp only [c89,Try.f89,Option.getD_some,nslot89,List.append_nil,List.map,List.replicate,List.length_cons,List.length_nil,Nat.reduceAdd,Nat.reduceSub,List.cons_append,List.nil_append])
    (repeat' (first | (simp -implicitDefEqProofs (maxSteps := 1000000) (disch := first | assumption | omega | (simp only [ZDI]; omega)) only [*,lenV,G89,Za,Zb,Zc,Zd,Ze,Zf,Zg,Zh,Zi,Zj,Zk,Zl,Zm,Zn,Zo,Ja,Jb,Jc,J6,Jd,Je,J7,J8,Jf,Jg,Jh,Ji,Jj,Jk,J9,Jl,Jm,wr,Jn,JA,JB,Jo,Jp,Jq,Jr,Js,Jt,Ju,Jv,Jw,Jx,Jy,Jz,J0,J1,J2,J3,J4,J5,reduceCtorEq,JC,JD,JE,JF,JG,JH,JI,JJ]) | ((with_reducible (first | apply Ok.br | apply Ok.gd | apply Ok.ld)) <;> (intro g; (try simp only [ZGS] at g); try (exfalso; omega)))))
    (refine Ok.unroll ?_; (repeat' (first | (simp -implicitDefEqProofs (maxSteps := 1000000) (disch := first | assumption | omega | (simp only [ZDI]; omega)) only [*,empty_at,G89,Za,Zb,Zc,Zd,Ze,Zf,Zg,Zh,Zi,Zj,Zk,Zl,Zm,Zn,Zo,Ja,Jb,Jc,J6,Jd,Je,J7,J8,Jf,Jg,Jh,Ji,Jj,Jk,J9,Jl,Jm,wr,Jn,JA,JB,Jo,Jp,Jq,Jr,Js,Jt,Ju,Jv,Jw,Jx,Jy,Jz,J0,J1,J2,J3,J4,J5,reduceCtorEq,JC,JD,JE,JF,JG,JH,JI,JJ]) | ((with_reducible (first | apply Ok.br | apply Ok.gd | apply Ok.ld)) <;> (intro g; (try simp only [ZGS] at g); try (exfalso; omega))))))
    (refine Ok.unroll ?_; (repeat' (first | (simp -implicitDefEqProofs (maxSteps := 1000000) (disch := first | assumption | omega | (simp only [ZDI]; omega)) only [*,empty_at,G89,Za,Zb,Zc,Zd,Ze,Zf,Zg,Zh,Zi,Zj,Zk,Zl,Zm,Zn,Zo,Ja,Jb,Jc,J6,Jd,Je,J7,J8,Jf,Jg,Jh,Ji,Jj,Jk,J9,Jl,Jm,wr,Jn,JA,JB,Jo,Jp,Jq,Jr,Js,Jt,Ju,Jv,Jw,Jx,Jy,Jz,J0,J1,J2,J3,J4,J5,reduceCtorEq,JC,JD,JE,JF,JG,JH,JI,JJ]) | ((with_reducible (first | apply Ok.br | apply Ok.gd | apply Ok.ld)) <;> (intro g; (try simp only [ZGS] at g); try (exfalso; omega))))))
theorem delete_1 {b cap : Nat} {f t : Int} {h : Heap} (hb : hcells h b 0 = some (true, [.int .i64 f, .int .i64 t])) :
    D X (.fn 85 []) [.sl (.at b 0 0) 1 1 2, .fn 81 []] h = if t <= f then some (.sl (.at b 0 0) 0 1 2, h.set b (.cells 0 true [.int .i64 0, .int .i64 0])) else some (.sl (.at b 0 0) 1 1 2, h) := by
  have hi := index_1 (cap := 1) (z := 2) hb
  have hb' := hcells_lt hb
  by_cases hft : t <= f
  · rw [if_pos hft] at hi ⊢
    refine Ok.eq ?_
    (refine Ok.body body85 pin85 ?_; simp only [c85,Try.f85,Option.getD_some,nslot85,List.append_nil,List.map,List.replicate,List.length_cons,List.length_nil,Nat.reduceAdd,Nat.reduceSub,List.cons_append,List.nil_append])
    (repeat' (first | (simp -implicitDefEqProofs (maxSteps := 1000000) (disch := first | assumption | omega | (simp only [ZDI]; omega)) only [*,lenV,G85,Za,Zb,Zc,Zd,Ze,Zf,Zg,Zh,Zi,Zj,Zk,Zl,Zm,Zn,Zo,Ja,Jb,Jc,J6,Jd,Je,J7,J8,Jf,Jg,Jh,Ji,Jj,Jk,J9,Jl,Jm,wr,Jn,JA,JB,Jo,Jp,Jq,Jr,Js,Jt,Ju,Jv,Jw,Jx,Jy,Jz,J0,J1,J2,J3,J4,J5,reduceCtorEq,JC,JD,JE,JF,JG,JH,JI,JJ]) | ((with_reducible (first | apply Ok.br | apply Ok.gd | apply Ok.ld)) <;> (intro g; (try simp only [ZGS] at g); try (exfalso; omega)))))
    (refine Ok.unroll ?_; (repeat' (first | (simp -implicitDefEqProofs (maxSteps := 1000000) (disch := first | assumption | omega | (simp only [ZDI]; omega)) only [*,lenV,G85,Za,Zb,Zc,Zd,Ze,Zf,Zg,Zh,Zi,Zj,Zk,Zl,Zm,Zn,Zo,Ja,Jb,Jc,J6,Jd,Je,J7,J8,Jf,Jg,Jh,Ji,Jj,Jk,J9,Jl,Jm,wr,Jn,JA,JB,Jo,Jp,Jq,Jr,Js,Jt,Ju,Jv,Jw,Jx,Jy,Jz,J0,J1,J2,J3,J4,J5,reduceCtorEq,JC,JD,JE,JF,JG,JH,JI,JJ]) | ((with_reducible (first | apply Ok.br | apply Ok.gd | apply Ok.ld)) <;> (intro g; (try simp only [ZGS] at g); try (exfalso; omega))))))
  · rw [if_neg hft] at hi ⊢
    refine Ok.eq ?_
    (refine Ok.body body85 pin85 ?_; simp only [c85,Try.f85,Option.getD_some,nslot85,List.append_nil,List.map,List.replicate,List.length_cons,List.length_nil,Nat.reduceAdd,Nat.reduceSub,List.cons_append,List.nil_append])
    (repeat' (first | (simp -implicitDefEqProofs (maxSteps := 1000000) (disch := first | assumption | omega | (simp only [ZDI]; omega)) only [*,lenV,G85,Za,Zb,Zc,Zd,Ze,Zf,Zg,Zh,Zi,Zj,Zk,Zl,Zm,Zn,Zo,Ja,Jb,Jc,J6,Jd,Je,J7,J8,Jf,Jg,Jh,Ji,Jj,Jk,J9,Jl,Jm,wr,Jn,JA,JB,Jo,Jp,Jq,Jr,Js,Jt,Ju,Jv,Jw,Jx,Jy,Jz,J0,J1,J2,J3,J4,J5,reduceCtorEq,JC,JD,JE,JF,JG,JH,JI,JJ]) | ((with_reducible (first | apply Ok.br | apply Ok.gd | apply Ok.ld)) <;> (intro g; (try simp only [ZGS] at g); try (exfalso; omega)))))
theorem norm_1 {b g o cap z : Nat} {f t : Int} {h : Heap} {k : Bool} {full : List V} (hb : hcells h b g = some (k, full)) (h0 : (full.drop o).take 2 = [.int .i64 f, .int .i64 t]) (hl : o + 2 <= full.length) (hft : f < t) :
    D X (.fn 79 []) [.sl (.at b g o) 1 cap z] h = some (.sl (.at (h.length + 2) 0 0) 1 1 2, h ++ [.cells 0 true [], .cells 0 true [.int .i64 f, .int .i64 t], .cells 0 true [.int .i64 f, .int .i64 t]]) := by
  refine Ok.eq ?_
  have h1 := cloneSpan_at (cap := cap) (z := z) hb h0 hl
  have hn : ¬ t <= f := by omega
  have h2 : hcells (h ++ [.cells 0 true [], .cells 0 true [.int .i64 f, .int .i64 t]]) (h.length + 1) 0 = some (true, [.int .i64 f, .int .i64 t]) := by
    rw [show h ++ [Blk.cells 0 true [], .cells 0 true [.int .i64 f, .int .i64 t]] = (h ++ [Blk.cells 0 true []]) ++ [.cells 0 true [.int .i64 f, .int .i64 t]] by simp, hcells_at (by simp)]
    exact grd_t rfl _
  have h3 := delete_1 (cap := 1) h2
  rw [if_neg hn] at h3
  have hb' := hcells_lt hb
  (refine Ok.body body79 pin79 ?_; simp only [c79,Try.f79,Option.getD_some,nslot79,List.append_nil,List.map,List.replicate,List.length_cons,List.length_nil,Nat.reduceAdd,Nat.reduceSub,List.cons_append,List.nil_append])
  (repeat' (first | (simp -implicitDefEqProofs (maxSteps := 1000000) (disch := first | assumption | omega | (simp only [ZDI]; omega)) only [*,lenV,sort_1,G79,Za,Zb,Zc,Zd,Ze,Zf,Zg,Zh,Zi,Zj,Zk,Zl,Zm,Zn,Zo,Ja,Jb,Jc,J6,Jd,Je,J7,J8,Jf,Jg,Jh,Ji,Jj,Jk,J9,Jl,Jm,wr,Jn,JA,JB,Jo,Jp,Jq,Jr,Js,Jt,Ju,Jv,Jw,Jx,Jy,Jz,J0,J1,J2,J3,J4,J5,reduceCtorEq,JC,JD,JE,JF,JG,JH,JI,JJ]) | ((with_reducible (first | apply Ok.br | apply Ok.gd | apply Ok.ld)) <;> (intro g; (try simp only [ZGS] at g); try (exfalso; omega)))))
  (refine Ok.unroll ?_; (repeat' (first | (simp -implicitDefEqProofs (maxSteps := 1000000) (disch := first | assumption | omega | (simp only [ZDI]; omega)) only [*,lenV,List.append_assoc,Nat.one_mul,G79,Za,Zb,Zc,Zd,Ze,Zf,Zg,Zh,Zi,Zj,Zk,Zl,Zm,Zn,Zo,Ja,Jb,Jc,J6,Jd,Je,J7,J8,Jf,Jg,Jh,Ji,Jj,Jk,J9,Jl,Jm,wr,Jn,JA,JB,Jo,Jp,Jq,Jr,Js,Jt,Ju,Jv,Jw,Jx,Jy,Jz,J0,J1,J2,J3,J4,J5,reduceCtorEq,JC,JD,JE,JF,JG,JH,JI,JJ]) | ((with_reducible (first | apply Ok.br | apply Ok.gd | apply Ok.ld)) <;> (intro g; (try simp only [ZGS] at g); try (exfalso; omega))))))
  (refine Ok.unroll ?_; (repeat' (first | (simp -implicitDefEqProofs (maxSteps := 1000000) (disch := first | assumption | omega | (simp only [ZDI]; omega)) only [*,lenV,List.append_assoc,Nat.one_mul,G79,Za,Zb,Zc,Zd,Ze,Zf,Zg,Zh,Zi,Zj,Zk,Zl,Zm,Zn,Zo,Ja,Jb,Jc,J6,Jd,Je,J7,J8,Jf,Jg,Jh,Ji,Jj,Jk,J9,Jl,Jm,wr,Jn,JA,JB,Jo,Jp,Jq,Jr,Js,Jt,Ju,Jv,Jw,Jx,Jy,Jz,J0,J1,J2,J3,J4,J5,reduceCtorEq,JC,JD,JE,JF,JG,JH,JI,JJ]) | ((with_reducible (first | apply Ok.br | apply Ok.gd | apply Ok.ld)) <;> (intro g; (try simp only [ZGS] at g); try (exfalso; omega))))))
theorem norm_0 {b g o cap z : Nat} {f t : Int} {h : Heap} {k : Bool} {full : List V} (hb : hcells h b g = some (k, full)) (h0 : (full.drop o).take 2 = [.int .i64 f, .int .i64 t]) (hl : o + 2 <= full.length) (hft : t <= f) :
    D X (.fn 79 []) [.sl (.at b g o) 1 cap z] h = some (.sl .nil 0 0 0, h ++ [.cells 0 true [], .cells 0 true [.int .i64 0, .int .i64 0]]) := by
  refine Ok.eq ?_
  have h1 := cloneSpan_at (cap := cap) (z := z) hb h0 hl
  have h2 : hcells (h ++ [.cells 0 true [], .cells 0 true [.int .i64 f, .int .i64 t]]) (h.length + 1) 0 = some (true, [.int .i64 f, .int .i64 t]) := by
    rw [show h ++ [Blk.cells 0 true [], .cells 0 true [.int .i64 f, .int .i64 t]] = (h ++ [Blk.cells 0 true []]) ++ [.cells 0 true [.int .i64 f, .int .i64 t]] by simp, hcells_at (by simp)]
    exact grd_t rfl _
  have h3 := delete_1 (cap := 1) h2
  rw [if_pos hft] at h3
  have e3 : (h ++ [Blk.cells 0 true [], .cells 0 true [.int .i64 f, .int .i64 t]]).set (h.length + 1) (.cells 0 true [.int .i64 0, .int .i64 0]) = h ++ [.cells 0 true [], .cells 0 true [.int .i64 0, .int .i64 0]] := by
    rw [List.set_append_right _ _ (by omega), show h.length + 1 - h.length = 1 by omega]; rfl
  rw [e3] at h3
  have hb' := hcells_lt hb
  (refine Ok.body body79 pin79 ?_; simp only [c79,Try.f79,Option.getD_some,nslot79,List.append_nil,List.map,List.replicate,List.length_cons,List.length_nil,Nat.reduceAdd,Nat.reduceSub,List.cons_append,List.nil_append])
  (repeat' (first | (simp -implicitDefEqProofs (maxSteps := 1000000) (disch := first | assumption | omega | (simp only [ZDI]; omega)) only [*,lenV,sort_0,G79,Za,Zb,Zc,Zd,Ze,Zf,Zg,Zh,Zi,Zj,Zk,Zl,Zm,Zn,Zo,Ja,Jb,Jc,J6,Jd,Je,J7,J8,Jf,Jg,Jh,Ji,Jj,Jk,J9,Jl,Jm,wr,Jn,JA,JB,Jo,Jp,Jq,Jr,Js,Jt,Ju,Jv,Jw,Jx,Jy,Jz,J0,J1,J2,J3,J4,J5,reduceCtorEq,JC,JD,JE,JF,JG,JH,JI,JJ]) | ((with_reducible (first | apply Ok.br | apply Ok.gd | apply Ok.ld)) <;> (intro g; (try simp only [ZGS] at g); try (exfalso; omega)))))
  (refine Ok.unroll ?_; (repeat' (first | (simp -implicitDefEqProofs (maxSteps := 1000000) (disch := first | assumption | omega | (simp only [ZDI]; omega)) only [*,lenV,G79,Za,Zb,Zc,Zd,Ze,Zf,Zg,Zh,Zi,Zj,Zk,Zl,Zm,Zn,Zo,Ja,Jb,Jc,J6,Jd,Je,J7,J8,Jf,Jg,Jh,Ji,Jj,Jk,J9,Jl,Jm,wr,Jn,JA,JB,Jo,Jp,Jq,Jr,Js,Jt,Ju,Jv,Jw,Jx,Jy,Jz,J0,J1,J2,J3,J4,J5,reduceCtorEq,JC,JD,JE,JF,JG,JH,JI,JJ]) | ((with_reducible (first | apply Ok.br | apply Ok.gd | apply Ok.ld)) <;> (intro g; (try simp only [ZGS] at g); try (exfalso; omega))))))
theorem blocks_1 {b g o cap z : Nat} {f t : Int} {h : Heap} {k : Bool} {full : List V} (hb : hcells h b g = some (k, full)) (h0 : (full.drop o).take 2 = [.int .i64 f, .int .i64 t]) (hl : o + 2 <= full.length) (hft : f < t) :
    D X (.fn 53 []) [.sl (.at b g o) 1 cap z] h = some (.fn 80 [.ptr (h.length + 3) 0 0], h ++ [.cells 0 true [], .cells 0 true [.int .i64 f, .int .i64 t], .cells 0 true [.int .i64 f, .int .i64 t], .cells 0 true [.sl (.at (h.length + 2) 0 0) 1 1 2]]) := by
  refine Ok.eq ?_
  have h1 := norm_1 (cap := cap) (z := z) hb h0 hl hft
  (refine Ok.body body53 pin53 ?_; simp only [c53,Try.f53,Option.getD_some,nslot53,List.append_nil,List.map,List.replicate,List.length_cons,List.length_nil,Nat.reduceAdd,Nat.reduceSub,List.cons_append,List.nil_append])
  (repeat' (first | (simp -implicitDefEqProofs (maxSteps := 1000000) (disch := first | assumption | omega | (simp only [ZDI]; omega)) only [*,List.append_assoc,G53,Za,Zb,Zc,Zd,Ze,Zf,Zg,Zh,Zi,Zj,Zk,Zl,Zm,Zn,Zo,Ja,Jb,Jc,J6,Jd,Je,J7,J8,Jf,Jg,Jh,Ji,Jj,Jk,J9,Jl,Jm,wr,Jn,JA,JB,Jo,Jp,Jq,Jr,Js,Jt,Ju,Jv,Jw,Jx,Jy,Jz,J0,J1,J2,J3,J4,J5,reduceCtorEq,JC,JD,JE,JF,JG,JH,JI,JJ]) | ((with_reducible (first | apply Ok.br | apply Ok.gd | apply Ok.ld)) <;> (intro g; (try simp only [ZGS] at g); try (exfalso; omega)))))
theorem blocks_0 {b g o cap z : Nat} {f t : Int} {h : Heap} {k : Bool} {full : List V} (hb : hcells h b g = some (k, full)) (h0 : (full.drop o).take 2 = [.int .i64 f, .int .i64 t]) (hl : o + 2 <= full.length) (hft : t <= f) :
    D X (.fn 53 []) [.sl (.at b g o) 1 cap z] h = some (.fn 80 [.ptr (h.length + 2) 0 0], h ++ [.cells 0 true [], .cells 0 true [.int .i64 0, .int .i64 0], .cells 0 true [.sl .nil 0 0 0]]) := by
  refine Ok.eq ?_
  have h1 := norm_0 (cap := cap) (z := z) hb h0 hl hft
  (refine Ok.body body53 pin53 ?_; simp only [c53,Try.f53,Option.getD_some,nslot53,List.append_nil,List.map,List.replicate,List.length_cons,List.length_nil,Nat.reduceAdd,Nat.reduceSub,List.cons_append,List.nil_append])
  (repeat' (first | (simp -implicitDefEqProofs (maxSteps := 1000000) (disch := first | assumption | omega | (simp only [ZDI]; omega)) only [*,List.append_assoc,G53,Za,Zb,Zc,Zd,Ze,Zf,Zg,Zh,Zi,Zj,Zk,Zl,Zm,Zn,Zo,Ja,Jb,Jc,J6,Jd,Je,J7,J8,Jf,Jg,Jh,Ji,Jj,Jk,J9,Jl,Jm,wr,Jn,JA,JB,Jo,Jp,Jq,Jr,Js,Jt,Ju,Jv,Jw,Jx,Jy,Jz,J0,J1,J2,J3,J4,J5,reduceCtorEq,JC,JD,JE,JF,JG,JH,JI,JJ]) | ((with_reducible (first | apply Ok.br | apply Ok.gd | apply Ok.ld)) <;> (intro g; (try simp only [ZGS] at g); try (exfalso; omega)))))
theorem iter_1 {pb sb L : Nat} {f t : Int} (Inv : Int -> Heap -> Prop) (hft : f < t) (h1 : -9223372036854775808 <= f) (h2 : t <= 9223372036854775807)
    (hI : ∀ i H, Inv i H -> hcells H pb 0 = some (true, [.sl (.at sb 0 0) 1 1 2]) /\ hcells H sb 0 = some (true, [.int .i64 f, .int .i64 t]))
    (hy : ∀ i H, f <= i -> i < t -> Inv i H -> Ok (D X (.yld L) [.int .i64 i] H) fun r => ∃ H', r = (.bool true, H') /\ Inv (i + 1) H') {H0 : Heap} (h0 : Inv f H0) :
    Ok (D X (.fn 80 [.ptr pb 0 0]) [.yld L] H0) fun r => ∃ H', r = (.tup [], H') /\ Inv t H' := by
  refine Ok.aim fun Q hQ => ?_
  have hQ' := Hid.mk hQ
  clear hQ
  have hI' := Hid.mk hI
  have hy' := Hid.mk hy
  clear hy
  obtain ⟨e1, e2⟩ := hI _ _ h0
  clear hI
  have h0' := Hid.mk h0
  clear h0
  (refine Ok.body body80 pin80 ?_; simp only [c80,Try.f80,Option.getD_some,nslot80,List.append_nil,List.map,List.replicate,List.length_cons,List.length_nil,Nat.reduceAdd,Nat.reduceSub,List.cons_append,List.nil_append])
  (repeat' (first | (simp -implicitDefEqProofs (maxSteps := 1000000) (disch := first | assumption | omega | (simp only [ZDI]; omega)) only [*,lenV,G80,Za,Zb,Zc,Zd,Ze,Zf,Zg,Zh,Zi,Zj,Zk,Zl,Zm,Zn,Zo,Ja,Jb,Jc,J6,Jd,Je,J7,J8,Jf,Jg,Jh,Ji,Jj,Jk,J9,Jl,Jm,wr,Jn,JA,JB,Jo,Jp,Jq,Jr,Js,Jt,Ju,Jv,Jw,Jx,Jy,Jz,J0,J1,J2,J3,J4,J5,reduceCtorEq,JC,JD,JE,JF,JG,JH,JI,JJ]) | ((with_reducible (first | apply Ok.br | apply Ok.gd | apply Ok.ld)) <;> (intro g; (try simp only [ZGS] at g); try (exfalso; omega)))))
  (refine Ok.unroll ?_; (repeat' (first | (simp -implicitDefEqProofs (maxSteps := 1000000) (disch := first | assumption | omega | (simp only [ZDI]; omega)) only [*,lenV,G80,Za,Zb,Zc,Zd,Ze,Zf,Zg,Zh,Zi,Zj,Zk,Zl,Zm,Zn,Zo,Ja,Jb,Jc,J6,Jd,Je,J7,J8,Jf,Jg,Jh,Ji,Jj,Jk,J9,Jl,Jm,wr,Jn,JA,JB,Jo,Jp,Jq,Jr,Js,Jt,Ju,Jv,Jw,Jx,Jy,Jz,J0,J1,J2,J3,J4,J5,reduceCtorEq,JC,JD,JE,JF,JG,JH,JI,JJ]) | ((with_reducible (first | apply Ok.br | apply Ok.gd | apply Ok.ld)) <;> (intro g; (try simp only [ZGS] at g); try (exfalso; omega))))))
  clear e1 e2
  refine Ok.loop [BF, BF, BF, BF, BF, BT, BF, BF, BF, BF, BF, BF, BF, BF, BT, BT, BT, BT, BT, BT, BT, BT, BT, BT, BF] (fun n s => ∃ i : Int, n = (t - i).toNat /\ f <= i /\ i <= t /\ tv s.e 5 = .v (.int .i64 i) /\ s.l = [(1, [.int .i64 f, .int .i64 t])] /\ Inv i s.h)
    (fun x s => x = .exit 2 /\ s.l = [(1, [.int .i64 f, .int .i64 t])] /\ Inv t s.h) (t - f).toNat ⟨f, rfl, by omega, by omega, rfl, rfl, h0'.out⟩ ?_ ?_
  · intro n ⟨e', l', h'⟩ hW ⟨i, hn, hi, hi2, h5, hl, hinv⟩
    dsimp only at hW h5 hl hinv
    subst l'
    rw [hW.spread]
    simp only [spread_t,spread_f,spread_n,Nat.zero_add,Nat.reduceAdd,h5]
    by_cases hlt : i < t
    · obtain ⟨⟨v, H'⟩, e1, H2, e2, hinv2⟩ := hy'.out i h' hi hlt hinv
      cases e2
      clear hinv
      have hinv3 := Hid.mk hinv2
      clear hinv2
      (repeat' (first | (simp -implicitDefEqProofs (maxSteps := 1000000) (disch := first | assumption | omega | (simp only [ZDI]; omega)) only [*,lenV,G80,Za,Zb,Zc,Zd,Ze,Zf,Zg,Zh,Zi,Zj,Zk,Zl,Zm,Zn,Zo,Ja,Jb,Jc,J6,Jd,Je,J7,J8,Jf,Jg,Jh,Ji,Jj,Jk,J9,Jl,Jm,wr,Jn,JA,JB,Jo,Jp,Jq,Jr,Js,Jt,Ju,Jv,Jw,Jx,Jy,Jz,J0,J1,J2,J3,J4,J5,reduceCtorEq,JC,JD,JE,JF,JG,JH,JI,JJ]) | ((with_reducible (first | apply Ok.br | apply Ok.gd | apply Ok.ld)) <;> (intro g; (try simp only [ZGS] at g); try (exfalso; omega)))))
      refine Turn.next (t - (i + 1)).toNat (by omega) ⟨rfl, i + 1, rfl, by omega, by omega, rfl, rfl, hinv3.out⟩
    · obtain rfl : i = t := by omega
      have hinv3 := Hid.mk hinv
      clear hinv
      (repeat' (first | (simp -implicitDefEqProofs (maxSteps := 1000000) (disch := first | assumption | omega | (simp only [ZDI]; omega)) only [*,lenV,Int.lt_irrefl,G80,Za,Zb,Zc,Zd,Ze,Zf,Zg,Zh,Zi,Zj,Zk,Zl,Zm,Zn,Zo,Ja,Jb,Jc,J6,Jd,Je,J7,J8,Jf,Jg,Jh,Ji,Jj,Jk,J9,Jl,Jm,wr,Jn,JA,JB,Jo,Jp,Jq,Jr,Js,Jt,Ju,Jv,Jw,Jx,Jy,Jz,J0,J1,J2,J3,J4,J5,reduceCtorEq,JC,JD,JE,JF,JG,JH,JI,JJ]) | ((with_reducible (first | apply Ok.br | apply Ok.gd | apply Ok.ld)) <;> (intro g; (try simp only [ZGS] at g); try (exfalso; omega)))))
      exact Turn.exit ⟨rfl, rfl, rfl, hinv3.out⟩
  · intro x ⟨e', l', h'⟩ hW ⟨hx, hl, hinv⟩
    dsimp only at hW hl hinv
    subst l' hx
    rw [hW.spread]
    simp only [spread_t,spread_f,spread_n,Nat.zero_add,Nat.reduceAdd]
    have hinv3 := Hid.mk hinv
    clear hinv
    (repeat' (first | (simp -implicitDefEqProofs (maxSteps := 1000000) (disch := first | assumption | omega | (simp only [ZDI]; omega)) only [*,lenV,G80,Za,Zb,Zc,Zd,Ze,Zf,Zg,Zh,Zi,Zj,Zk,Zl,Zm,Zn,Zo,Ja,Jb,Jc,J6,Jd,Je,J7,J8,Jf,Jg,Jh,Ji,Jj,Jk,J9,Jl,Jm,wr,Jn,JA,JB,Jo,Jp,Jq,Jr,Js,Jt,Ju,Jv,Jw,Jx,Jy,Jz,J0,J1,J2,J3,J4,J5,reduceCtorEq,JC,JD,JE,JF,JG,JH,JI,JJ]) | ((with_reducible (first | apply Ok.br | apply Ok.gd | apply Ok.ld)) <;> (intro g; (try simp only [ZGS] at g); try (exfalso; omega)))))
    (refine Ok.unroll ?_; (repeat' (first | (simp -implicitDefEqProofs (maxSteps := 1000000) (disch := first | assumption | omega | (simp only [ZDI]; omega)) only [*,lenV,G80,Za,Zb,Zc,Zd,Ze,Zf,Zg,Zh,Zi,Zj,Zk,Zl,Zm,Zn,Zo,Ja,Jb,Jc,J6,Jd,Je,J7,J8,Jf,Jg,Jh,Ji,Jj,Jk,J9,Jl,Jm,wr,Jn,JA,JB,Jo,Jp,Jq,Jr,Js,Jt,Ju,Jv,Jw,Jx,Jy,Jz,J0,J1,J2,J3,J4,J5,reduceCtorEq,JC,JD,JE,JF,JG,JH,JI,JJ]) | ((with_reducible (first | apply Ok.br | apply Ok.gd | apply Ok.ld)) <;> (intro g; (try simp only [ZGS] at g); try (exfalso; omega))))))
    exact hQ'.out _ ⟨_, rfl, hinv3.out⟩
theorem iter_0 {pb L : Nat} {H : Heap} (h0 : hcells H pb 0 = some (true, [.sl .nil 0 0 0])) : D X (.fn 80 [.ptr pb 0 0]) [.yld L] H = some (.tup [], H) := by
  refine Ok.eq ?_
  (refine Ok.body body80 pin80 ?_; simp only [c80,Try.f80,Option.getD_some,nslot80,List.append_nil,List.map,List.replicate,List.length_cons,List.length_nil,Nat.reduceAdd,Nat.reduceSub,List.cons_append,List.nil_append])
  (repeat' (first | (simp -implicitDefEqProofs (maxSteps := 1000000) (disch := first | assumption | omega | (simp only [ZDI]; omega)) only [*,lenV,G80,Za,Zb,Zc,Zd,Ze,Zf,Zg,Zh,Zi,Zj,Zk,Zl,Zm,Zn,Zo,Ja,Jb,Jc,J6,Jd,Je,J7,J8,Jf,Jg,Jh,Ji,Jj,Jk,J9,Jl,Jm,wr,Jn,JA,JB,Jo,Jp,Jq,Jr,Js,Jt,Ju,Jv,Jw,Jx,Jy,Jz,J0,J1,J2,J3,J4,J5,reduceCtorEq,JC,JD,JE,JF,JG,JH,JI,JJ]) | ((with_reducible (first | apply Ok.br | apply Ok.gd | apply Ok.ld)) <;> (intro g; (try simp only [ZGS] at g); try (exfalso; omega)))))
  (refine Ok.unroll ?_; (repeat' (first | (simp -implicitDefEqProofs (maxSteps := 1000000) (disch := first | assumption | omega | (simp only [ZDI]; omega)) only [*,lenV,G80,Za,Zb,Zc,Zd,Ze,Zf,Zg,Zh,Zi,Zj,Zk,Zl,Zm,Zn,Zo,Ja,Jb,Jc,J6,Jd,Je,J7,J8,Jf,Jg,Jh,Ji,Jj,Jk,J9,Jl,Jm,wr,Jn,JA,JB,Jo,Jp,Jq,Jr,Js,Jt,Ju,Jv,Jw,Jx,Jy,Jz,J0,J1,J2,J3,J4,J5,reduceCtorEq,JC,JD,JE,JF,JG,JH,JI,JJ]) | ((with_reducible (first | apply Ok.br | apply Ok.gd | apply Ok.ld)) <;> (intro g; (try simp only [ZGS] at g); try (exfalso; omega))))))
end Go.Ev
set_option maxRecDepth 100000
namespace Go.Ev
open Go.Ev renaming exPure -> Ja, ofValue -> Jb, cellsV -> Jc, load -> Jd, store -> Je, binOp -> Jf, intOp -> Jg, rdV -> Jh, vsame -> Ji, vsames -> Jj, makeSliceV -> Jk, resV -> Jl, isCell -> Jm, nilCheckV -> Jn, allV -> Jo, builtinV -> Jp, lenV -> Jq, indexAddrV -> Jr, unOp -> Js, minmaxV -> Jt, minmax -> Ju, sliceV -> Jv, asInt -> Jw, appendV -> Jx, forkB -> Jy, roY -> Jz, rwB -> J0, copyV -> J1, clearV -> J2, convV -> J3, sliceCells -> J4, shift -> J5
open Bool renaming true -> BT, false -> BF
open Nat renaming reduceEqDiff -> J6, reduceLT -> J7, reduceAdd -> J8, reduceBEq -> J9, reduceSub -> JA, reduceMul -> JB, reduceLeDiff -> JJ
open Int renaming reduceLT -> JC, reduceLE -> JD, reduceAdd -> JE, reduceSub -> JF, reduceNeg -> JG, reduceToNat -> JH, reduceEq -> JI
open Go.Proofs
structure ApplyRec (r : LoopR) : Prop where
  state : r.state = 0
  pending : r.pending = none
  fn : r.fn = 22
  params : r.params = [68]
  code : (rangesOf c22)[0]? = some (r.assign, r.body)
  lent : r.lent = false
  len : r.e.length = 149
  t2 : tv r.e 2 = .lp 0 1 0
  t3 : tv r.e 3 = .lp 1 1 0
  t6 : tv r.e 6 = .lp 3 1 0
def cmdV (o c q f t : Int) (v : V) : List V := [.int .i64 o, .int .i64 c, .int .i64 q, .int .i64 f, .int .i64 t, v]
def Sto.upd (s : Sto) (j k : Nat) (x : ByteArray) (q : Int) : Sto := { s with txt := fun i => if i = j then x else s.txt i, mrk := fun i k' => if i = j /\ k' = k then q else s.mrk i k' }
theorem Cells.upd {full : List V} {n : Nat} {txt : Nat -> ByteArray} {mrk : Nat -> Nat -> Int} (h : Cells full n txt mrk) {j k : Nat} (hj : j < n) (hk : k < 4) (x : ByteArray) (q : Int) :
    Cells ((full.set (j * 5) (.str x)).set (j * 5 + 1 + k) (.int .i64 q)) n (fun i => if i = j then x else txt i) (fun i k' => if i = j /\ k' = k then q else mrk i k') := by
  obtain ⟨h1, h2⟩ := h
  refine ⟨by simpa using h1, fun i hi => ⟨?_, fun k' hk' => ?_⟩⟩
  · dsimp only
    rw [List.getElem?_set_ne (by omega)]
    by_cases e : i = j
    · subst e
      rw [List.getElem?_set_self (by omega), if_pos rfl]
    · rw [List.getElem?_set_ne (by omega), if_neg e]
      exact (h2 i hi).1
  · dsimp only
    by_cases e : i = j /\ k' = k
    · obtain ⟨rfl, rfl⟩ := e
      rw [List.getElem?_set_self (by rw [List.length_set]; omega), if_pos ⟨rfl, rfl⟩]
    · rw [List.getElem?_set_ne (by omega), List.getElem?_set_ne (by omega), if_neg e]
      exact (h2 i hi).2 k' hk'
theorem loop_set_self {H : Heap} {L : Nat} {r : LoopR} (h : loopAt H L = some r) : H.set L (.loop r) = H := by
  apply List.ext_getElem?
  intro i
  by_cases e : L = i
  · subst e
    rw [List.getElem?_set_self (loopAt_lt h), loopAt_get h]
  · rw [List.getElem?_set_ne e]
theorem wrote {H : Heap} {p cb g L : Nat} {x : Blk} {r : LoopR} {full' : List V} {q : Bool × List V} (hL : loopAt H L = some r) (hp1 : hcells H p 0 = some q) (hcll : cb < H.length) (hp : p ≠ L) (hc : cb ≠ L) (hpc : p ≠ cb) :
    hcells (((H.set L x).set cb (.cells g true full')).set L (.loop r)) p 0 = some q /\ hcells (((H.set L x).set cb (.cells g true full')).set L (.loop r)) cb g = some (true, full') /\
    loopAt (((H.set L x).set cb (.cells g true full')).set L (.loop r)) L = some r /\ Keeps [cb] H (((H.set L x).set cb (.cells g true full')).set L (.loop r)) := by
  have hLl := loopAt_lt hL
  refine ⟨?_, ?_, loopAt_set_eq (by simpa using hLl), by simp, fun b hb hF => ?_⟩
  · rw [hcells_set_ne hp, hcells_set_ne hpc, hcells_set_ne hp]; exact hp1
  · rw [hcells_set_ne hc, hcells_set_eq (by simpa using hcll)]
  · have hbc : cb ≠ b := by simpa [eq_comm] using hF
    by_cases e : L = b
    · subst e
      rw [List.getElem?_set_self (by simpa using hLl), loopAt_get hL]
    · rw [List.getElem?_set_ne e, List.getElem?_set_ne hbc, List.getElem?_set_ne e]
theorem flush_round {H : Heap} {p cb g L : Nat} {s : Sto} {r : LoopR} (hs : StoreAt H p cb g s) (hL : loopAt H L = some r) (hr : ApplyRec r) {c q f t : Int} {v dv : V} {x2 x4 : Nat × List V}
    (hl : r.l = [(1, [.ptr p 0 0]), (1, cmdV 4 c q f t v), x2, (1, [.bool true, dv]), x4]) (hp : p ≠ L) (hc : cb ≠ L) {i : Int} (h1 : s.a <= i) (h2 : i < s.b) :
    D X (.yld L) [.int .i64 i] H = some (.bool true, H) := by
  refine Ok.eq ?_
  refine Ok.aim fun Q hQ => ?_
  have hQ' := Hid.mk hQ
  clear hQ
  obtain ⟨cap, z, full, hp1, hc1, hcl, hpc, ho⟩ := hs
  have g0 := ho.h0
  have g1 := ho.h1
  have g2 := ho.h2
  have e3 : 0 <= i - s.a /\ i - s.a < s.n := by unfold Sto.n; omega
  have hLl := loopAt_lt hL
  have hcll := hcells_lt hc1
  obtain ⟨st, pe, fn, e, l, ps, asg, bd, le⟩ := r
  obtain ⟨k1, k2, k3, k4, k5, k6, k7, k8, k9, k10⟩ := hr
  dsimp only at k1 k2 k3 k4 k5 k6 k7 k8 k9 k10 hl
  subst k1 k2 k3 k4 k6 hl
  simp only [c22,Try.f22,Option.getD_some,rangesOf,List.nil_append,List.append_nil,List.cons_append,List.getElem?_cons_zero,List.getElem?_cons_succ,Option.some.injEq,Prod.mk.injEq] at k5
  obtain ⟨rfl, rfl⟩ := k5
  have he := congrArg (fun e => setArgs e [68] [.int .i64 i]) (expand' k7)
  simp only [List.replicate,spread_t,spread_f,spread_n,Nat.zero_add,Nat.reduceAdd,setArgs,List.set_cons_zero,List.set_cons_succ,k8,k9,k10] at he
  refine Ok.round hL rfl rfl ?_
  simp only [setArgs]
  rw [he]
  clear he
  simp only [cmdV]
  simp -implicitDefEqProofs (maxSteps := 1000000) (disch := first | assumption | omega | (simp only [ZDI]; omega)) only [*,looks_at,G22,Za,Zb,Zc,Zd,Ze,Zf,Zg,Zh,Zi,Zj,Zk,Zl,Zm,Zn,Zo,Ja,Jb,Jc,J6,Jd,Je,J7,J8,Jf,Jg,Jh,Ji,Jj,Jk,J9,Jl,Jm,wr,Jn,JA,JB,Jo,Jp,Jq,Jr,Js,Jt,Ju,Jv,Jw,Jx,Jy,Jz,J0,J1,J2,J3,J4,J5,reduceCtorEq,JC,JD,JE,JF,JG,JH,JI,JJ]
  refine hQ'.out _ ?_
  rw [loop_set_self (by simpa only [cmdV] using hL)]
theorem old_round {H : Heap} {p cb g L : Nat} {s : Sto} {r : LoopR} (hs : StoreAt H p cb g s) (hL : loopAt H L = some r) (hr : ApplyRec r) {o c q f t : Int} {v dv : V} {x2 x4 : Nat × List V} (hoo : o = 2 \/ o = 3)
    (hl : r.l = [(1, [.ptr p 0 0]), (1, cmdV o c q f t v), x2, (1, [.bool true, dv]), x4]) (hp : p ≠ L) (hc : cb ≠ L) {i : Int} (h1 : s.a <= i) (h2 : i < s.b) (hcl4 : 0 <= c /\ c < 4) (hm : q <= s.mrk (i - s.a).toNat c.toNat) :
    D X (.yld L) [.int .i64 i] H = some (.bool true, H) := by
  have ho1 : ¬ o = 1 := by omega
  have ho2 : ¬ o = 4 := by omega
  clear hoo
  refine Ok.eq ?_
  refine Ok.aim fun Q hQ => ?_
  have hQ' := Hid.mk hQ
  clear hQ
  obtain ⟨cap, z, full, hp1, hc1, hcl, hpc, ho⟩ := hs
  have g0 := ho.h0
  have g1 := ho.h1
  have g2 := ho.h2
  have e3 : 0 <= i - s.a /\ i - s.a < s.n := by unfold Sto.n; omega
  have hLl := loopAt_lt hL
  have hcll := hcells_lt hc1
  obtain ⟨st, pe, fn, e, l, ps, asg, bd, le⟩ := r
  obtain ⟨k1, k2, k3, k4, k5, k6, k7, k8, k9, k10⟩ := hr
  dsimp only at k1 k2 k3 k4 k5 k6 k7 k8 k9 k10 hl
  subst k1 k2 k3 k4 k6 hl
  simp only [c22,Try.f22,Option.getD_some,rangesOf,List.nil_append,List.append_nil,List.cons_append,List.getElem?_cons_zero,List.getElem?_cons_succ,Option.some.injEq,Prod.mk.injEq] at k5
  obtain ⟨rfl, rfl⟩ := k5
  have he := congrArg (fun e => setArgs e [68] [.int .i64 i]) (expand' k7)
  simp only [List.replicate,spread_t,spread_f,spread_n,Nat.zero_add,Nat.reduceAdd,setArgs,List.set_cons_zero,List.set_cons_succ,k8,k9,k10] at he
  refine Ok.round hL rfl rfl ?_
  simp only [setArgs]
  rw [he]
  clear he
  simp only [cmdV]
  have hmk := (hcl.2 (i - s.a).toNat (by omega)).2 c.toNat (by omega)
  have e7 : 0 <= c /\ c < ((4 : Nat) : Int) := by omega
  simp -implicitDefEqProofs (maxSteps := 1000000) (disch := first | assumption | omega | (simp only [ZDI]; omega)) only [*,looks_at,G22,Za,Zb,Zc,Zd,Ze,Zf,Zg,Zh,Zi,Zj,Zk,Zl,Zm,Zn,Zo,Ja,Jb,Jc,J6,Jd,Je,J7,J8,Jf,Jg,Jh,Ji,Jj,Jk,J9,Jl,Jm,wr,Jn,JA,JB,Jo,Jp,Jq,Jr,Js,Jt,Ju,Jv,Jw,Jx,Jy,Jz,J0,J1,J2,J3,J4,J5,reduceCtorEq,JC,JD,JE,JF,JG,JH,JI,JJ]
  refine hQ'.out _ ?_
  rw [loop_set_self (by simpa only [cmdV] using hL)]
theorem trim_round {H : Heap} {p cb g L : Nat} {s : Sto} {r : LoopR} (hs : StoreAt H p cb g s) (hL : loopAt H L = some r) (hr : ApplyRec r) {c q f t : Int} {v dv : V} {x2 x4 : Nat × List V}
    (hl : r.l = [(1, [.ptr p 0 0]), (1, cmdV 3 c q f t v), x2, (1, [.bool true, dv]), x4]) (hp : p ≠ L) (hc : cb ≠ L) {i : Int} (h1 : s.a <= i) (h2 : i < s.b) (hcl4 : 0 <= c /\ c < 4) (hm : s.mrk (i - s.a).toNat c.toNat < q) :
    Ev.Ok (D X (.yld L) [.int .i64 i] H) fun y => ∃ H', y = (.bool true, H') /\ StoreAt H' p cb g (s.upd (i - s.a).toNat c.toNat ⟨#[]⟩ q) /\ loopAt H' L = some r /\ Keeps [cb] H H' := by
  refine Ok.aim fun Q hQ => ?_
  have hQ' := Hid.mk hQ
  clear hQ
  obtain ⟨cap, z, full, hp1, hc1, hcl, hpc, ho⟩ := hs
  have g0 := ho.h0
  have g1 := ho.h1
  have g2 := ho.h2
  have e3 : 0 <= i - s.a /\ i - s.a < s.n := by unfold Sto.n; omega
  have hLl := loopAt_lt hL
  have hcll := hcells_lt hc1
  obtain ⟨st, pe, fn, e, l, ps, asg, bd, le⟩ := r
  obtain ⟨k1, k2, k3, k4, k5, k6, k7, k8, k9, k10⟩ := hr
  dsimp only at k1 k2 k3 k4 k5 k6 k7 k8 k9 k10 hl
  subst k1 k2 k3 k4 k6 hl
  simp only [c22,Try.f22,Option.getD_some,rangesOf,List.nil_append,List.append_nil,List.cons_append,List.getElem?_cons_zero,List.getElem?_cons_succ,Option.some.injEq,Prod.mk.injEq] at k5
  obtain ⟨rfl, rfl⟩ := k5
  have he := congrArg (fun e => setArgs e [68] [.int .i64 i]) (expand' k7)
  simp only [List.replicate,spread_t,spread_f,spread_n,Nat.zero_add,Nat.reduceAdd,setArgs,List.set_cons_zero,List.set_cons_succ,k8,k9,k10] at he
  refine Ok.round hL rfl rfl ?_
  simp only [setArgs]
  rw [he]
  clear he
  simp only [cmdV]
  have hmk := (hcl.2 (i - s.a).toNat (by omega)).2 c.toNat (by omega)
  have e7 : 0 <= c /\ c < ((4 : Nat) : Int) := by omega
  have e8 : ¬ q <= s.mrk (i - s.a).toNat c.toNat := by omega
  have e9 : (i - s.a).toNat * 5 + 1 + c.toNat < full.length := by rw [hcl.1]; omega
  simp -implicitDefEqProofs (maxSteps := 1000000) (disch := first | assumption | omega | (simp only [ZDI]; omega)) only [*,looks_at,G22,Za,Zb,Zc,Zd,Ze,Zf,Zg,Zh,Zi,Zj,Zk,Zl,Zm,Zn,Zo,Ja,Jb,Jc,J6,Jd,Je,J7,J8,Jf,Jg,Jh,Ji,Jj,Jk,J9,Jl,Jm,wr,Jn,JA,JB,Jo,Jp,Jq,Jr,Js,Jt,Ju,Jv,Jw,Jx,Jy,Jz,J0,J1,J2,J3,J4,J5,reduceCtorEq,JC,JD,JE,JF,JG,JH,JI,JJ]
  simp only [cmdV] at hL
  obtain ⟨w1, w2, w3, w4⟩ := wrote (x := ?_) (full' := ?_) (g := g) hL hp1 hcll hp hc hpc
  exact hQ'.out _ ⟨_, rfl, ⟨cap, z, _, w1, w2, hcl.upd (by omega) (by omega) _ _, hpc, ⟨⟨ho.h0, ho.h1, ho.h2⟩, ho.hc, ho.hz⟩⟩, by simpa only [cmdV] using w3, w4⟩
theorem write_round {H : Heap} {p cb g L : Nat} {s : Sto} {r : LoopR} (hs : StoreAt H p cb g s) (hL : loopAt H L = some r) (hr : ApplyRec r) {c q f t : Int} {a : SA} {n vc vz : Nat} {dv : V} {x2 x4 : Nat × List V}
    (hl : r.l = [(1, [.ptr p 0 0]), (1, cmdV 2 c q f t (.sl a n vc vz)), x2, (1, [.bool true, dv]), x4]) (hp : p ≠ L) (hc : cb ≠ L) {i : Int} (h1 : s.a <= i) (h2 : i < s.b) (hcl4 : 0 <= c /\ c < 4) (hm : s.mrk (i - s.a).toNat c.toNat < q)
    {b' g' o' : Nat} {rw' : Bool} {full' : List V} {x : ByteArray} (ha : a = .at b' g' o') (hb : hcells H b' g' = some (rw', full')) (hbL : b' ≠ L) (hbc : b' ≠ cb) (hi : 0 <= i - f /\ i - f < n) (hf0 : 0 <= f) (hx : full'[o' + (i - f).toNat]? = some (.str x)) :
    Ev.Ok (D X (.yld L) [.int .i64 i] H) fun y => ∃ H', y = (.bool true, H') /\ StoreAt H' p cb g (s.upd (i - s.a).toNat c.toNat x q) /\ loopAt H' L = some r /\ Keeps [cb] H H' := by
  subst ha
  refine Ok.aim fun Q hQ => ?_
  have hQ' := Hid.mk hQ
  clear hQ
  obtain ⟨cap, z, full, hp1, hc1, hcl, hpc, ho⟩ := hs
  have g0 := ho.h0
  have g1 := ho.h1
  have g2 := ho.h2
  have e3 : 0 <= i - s.a /\ i - s.a < s.n := by unfold Sto.n; omega
  have hLl := loopAt_lt hL
  have hcll := hcells_lt hc1
  obtain ⟨st, pe, fn, e, l, ps, asg, bd, le⟩ := r
  obtain ⟨k1, k2, k3, k4, k5, k6, k7, k8, k9, k10⟩ := hr
  dsimp only at k1 k2 k3 k4 k5 k6 k7 k8 k9 k10 hl
  subst k1 k2 k3 k4 k6 hl
  simp only [c22,Try.f22,Option.getD_some,rangesOf,List.nil_append,List.append_nil,List.cons_append,List.getElem?_cons_zero,List.getElem?_cons_succ,Option.some.injEq,Prod.mk.injEq] at k5
  obtain ⟨rfl, rfl⟩ := k5
  have he := congrArg (fun e => setArgs e [68] [.int .i64 i]) (expand' k7)
  simp only [List.replicate,spread_t,spread_f,spread_n,Nat.zero_add,Nat.reduceAdd,setArgs,List.set_cons_zero,List.set_cons_succ,k8,k9,k10] at he
  refine Ok.round hL rfl rfl ?_
  simp only [setArgs]
  rw [he]
  clear he
  simp only [cmdV]
  have hmk := (hcl.2 (i - s.a).toNat (by omega)).2 c.toNat (by omega)
  have e7 : 0 <= c /\ c < ((4 : Nat) : Int) := by omega
  have e8 : ¬ q <= s.mrk (i - s.a).toNat c.toNat := by omega
  have e9 : (i - s.a).toNat * 5 + 1 + c.toNat < full.length := by rw [hcl.1]; omega
  simp -implicitDefEqProofs (maxSteps := 1000000) (disch := first | assumption | omega | (simp only [ZDI]; omega)) only [*,looks_at,G22,Za,Zb,Zc,Zd,Ze,Zf,Zg,Zh,Zi,Zj,Zk,Zl,Zm,Zn,Zo,Ja,Jb,Jc,J6,Jd,Je,J7,J8,Jf,Jg,Jh,Ji,Jj,Jk,J9,Jl,Jm,wr,Jn,JA,JB,Jo,Jp,Jq,Jr,Js,Jt,Ju,Jv,Jw,Jx,Jy,Jz,J0,J1,J2,J3,J4,J5,reduceCtorEq,JC,JD,JE,JF,JG,JH,JI,JJ]
  simp only [cmdV] at hL
  obtain ⟨w1, w2, w3, w4⟩ := wrote (x := ?_) (full' := ?_) (g := g) hL hp1 hcll hp hc hpc
  exact hQ'.out _ ⟨_, rfl, ⟨cap, z, _, w1, w2, hcl.upd (by omega) (by omega) _ _, hpc, ⟨⟨ho.h0, ho.h1, ho.h2⟩, ho.hc, ho.hz⟩⟩, by simpa only [cmdV] using w3, w4⟩
theorem read_nil {H : Heap} {p cb g L : Nat} {s : Sto} {r : LoopR} (hs : StoreAt H p cb g s) (hL : loopAt H L = some r) (hr : ApplyRec r) {c q f t : Int} {v : V} {x2 : Nat × List V} {k4 : Nat} {y4 : List V}
    (hl : r.l = [(1, [.ptr p 0 0]), (1, cmdV 1 c q f t v), x2, (1, [.bool true, .sl .nil 0 0 0]), (k4, y4)]) (hp : p ≠ L) (hc : cb ≠ L) {i : Int} (h1 : s.a <= i) (h2 : i < s.b) :
    D X (.yld L) [.int .i64 i] H = some (.bool true, H.set L (.loop { r with l := [(1, [.ptr p 0 0]), (1, cmdV 1 c q f t v), x2, (1, [.bool true, .sl (.at H.length 0 0) 1 1 1]), (k4 + 1, [.str (s.txt (i - s.a).toNat)])] }) ++ [.cells 0 true [.str (s.txt (i - s.a).toNat)]]) := by
  refine Ok.eq ?_
  refine Ok.aim fun Q hQ => ?_
  have hQ' := Hid.mk hQ
  clear hQ
  obtain ⟨cap, z, full, hp1, hc1, hcl, hpc, ho⟩ := hs
  have g0 := ho.h0
  have g1 := ho.h1
  have g2 := ho.h2
  have e3 : 0 <= i - s.a /\ i - s.a < s.n := by unfold Sto.n; omega
  have hLl := loopAt_lt hL
  have hcll := hcells_lt hc1
  obtain ⟨st, pe, fn, e, l, ps, asg, bd, le⟩ := r
  obtain ⟨k1, k2, k3, k4, k5, k6, k7, k8, k9, k10⟩ := hr
  dsimp only at k1 k2 k3 k4 k5 k6 k7 k8 k9 k10 hl
  subst k1 k2 k3 k4 k6 hl
  simp only [c22,Try.f22,Option.getD_some,rangesOf,List.nil_append,List.append_nil,List.cons_append,List.getElem?_cons_zero,List.getElem?_cons_succ,Option.some.injEq,Prod.mk.injEq] at k5
  obtain ⟨rfl, rfl⟩ := k5
  have he := congrArg (fun e => setArgs e [68] [.int .i64 i]) (expand' k7)
  simp only [List.replicate,spread_t,spread_f,spread_n,Nat.zero_add,Nat.reduceAdd,setArgs,List.set_cons_zero,List.set_cons_succ,k8,k9,k10] at he
  refine Ok.round hL rfl rfl ?_
  simp only [setArgs]
  rw [he]
  clear he
  simp only [cmdV]
  have hmk := (hcl.2 (i - s.a).toNat (by omega)).1
  simp -implicitDefEqProofs (maxSteps := 1000000) (disch := first | assumption | omega | (simp only [ZDI]; omega)) only [*,looks_at,G22,Za,Zb,Zc,Zd,Ze,Zf,Zg,Zh,Zi,Zj,Zk,Zl,Zm,Zn,Zo,Ja,Jb,Jc,J6,Jd,Je,J7,J8,Jf,Jg,Jh,Ji,Jj,Jk,J9,Jl,Jm,wr,Jn,JA,JB,Jo,Jp,Jq,Jr,Js,Jt,Ju,Jv,Jw,Jx,Jy,Jz,J0,J1,J2,J3,J4,J5,reduceCtorEq,JC,JD,JE,JF,JG,JH,JI,JJ]
  exact hQ'.out _ (by simp only [cmdV])
theorem read_more {H : Heap} {p cb g L : Nat} {s : Sto} {r : LoopR} (hs : StoreAt H p cb g s) (hL : loopAt H L = some r) (hr : ApplyRec r) {c q f t : Int} {v : V} {x2 : Nat × List V} {k4 : Nat} {y4 : List V} {db dg n : Nat} {dd : List V}
    (hl : r.l = [(1, [.ptr p 0 0]), (1, cmdV 1 c q f t v), x2, (1, [.bool true, .sl (.at db dg 0) n n 1]), (k4, y4)]) (hp : p ≠ L) (hc : cb ≠ L) {i : Int} (h1 : s.a <= i) (h2 : i < s.b)
    (hd : hcells H db dg = some (true, dd)) (hn : dd.length = n) (hn1 : n <= 300) (hdL : db ≠ L) :
    D X (.yld L) [.int .i64 i] H = some (.bool true, ((H.set L (.loop { r with state := 1, lent := true })).set db (.cells (dg + 1) true (dd ++ [.str (s.txt (i - s.a).toNat)]))).set L (.loop { r with l := [(1, [.ptr p 0 0]), (1, cmdV 1 c q f t v), x2, (1, [.bool true, .sl (.at db (dg + 1) 0) (n + 1) (n + 1) 1]), (k4 + 1, [.str (s.txt (i - s.a).toNat)])] })) := by
  refine Ok.eq ?_
  refine Ok.aim fun Q hQ => ?_
  have hQ' := Hid.mk hQ
  clear hQ
  obtain ⟨cap, z, full, hp1, hc1, hcl, hpc, ho⟩ := hs
  have g0 := ho.h0
  have g1 := ho.h1
  have g2 := ho.h2
  have e3 : 0 <= i - s.a /\ i - s.a < s.n := by unfold Sto.n; omega
  have hLl := loopAt_lt hL
  have hcll := hcells_lt hc1
  obtain ⟨st, pe, fn, e, l, ps, asg, bd, le⟩ := r
  obtain ⟨k1, k2, k3, k4, k5, k6, k7, k8, k9, k10⟩ := hr
  dsimp only at k1 k2 k3 k4 k5 k6 k7 k8 k9 k10 hl
  subst k1 k2 k3 k4 k6 hl
  simp only [c22,Try.f22,Option.getD_some,rangesOf,List.nil_append,List.append_nil,List.cons_append,List.getElem?_cons_zero,List.getElem?_cons_succ,Option.some.injEq,Prod.mk.injEq] at k5
  obtain ⟨rfl, rfl⟩ := k5
  have he := congrArg (fun e => setArgs e [68] [.int .i64 i]) (expand' k7)
  simp only [List.replicate,spread_t,spread_f,spread_n,Nat.zero_add,Nat.reduceAdd,setArgs,List.set_cons_zero,List.set_cons_succ,k8,k9,k10] at he
  refine Ok.round hL rfl rfl ?_
  simp only [setArgs]
  rw [he]
  clear he
  simp only [cmdV]
  have hmk := (hcl.2 (i - s.a).toNat (by omega)).1
  have e5 : ¬ n + 1 <= n := by omega
  have e6 : dd.take n = dd := List.take_of_length_le (by omega)
  simp -implicitDefEqProofs (maxSteps := 1000000) (disch := first | assumption | omega | (simp only [ZDI]; omega)) only [*,looks_at,G22,Za,Zb,Zc,Zd,Ze,Zf,Zg,Zh,Zi,Zj,Zk,Zl,Zm,Zn,Zo,Ja,Jb,Jc,J6,Jd,Je,J7,J8,Jf,Jg,Jh,Ji,Jj,Jk,J9,Jl,Jm,wr,Jn,JA,JB,Jo,Jp,Jq,Jr,Js,Jt,Ju,Jv,Jw,Jx,Jy,Jz,J0,J1,J2,J3,J4,J5,reduceCtorEq,JC,JD,JE,JF,JG,JH,JI,JJ]
  exact hQ'.out _ (by simp only [cmdV])
end Go.Ev
set_option maxRecDepth 100000
namespace Go.Ev
open Go.Proofs
def Sto.to (s : Sto) (o c q f m : Int) (l : List ByteArray) : Sto :=
  { s with
    txt := fun j => if (o = 2 \/ o = 3) /\ f <= s.a + j /\ s.a + j < m /\ s.mrk j c.toNat < q then (if o = 2 then l.getD (s.a + j - f).toNat ⟨#[]⟩ else ⟨#[]⟩) else s.txt j
    mrk := fun j k => if (o = 2 \/ o = 3) /\ f <= s.a + j /\ s.a + j < m /\ s.mrk j c.toNat < q /\ k = c.toNat then q else s.mrk j k }
theorem Sto.ext' {s s' : Sto} (h1 : s.a = s'.a) (h2 : s.b = s'.b) (h3 : s.fz = s'.fz) (h4 : ∀ j, s.txt j = s'.txt j) (h5 : ∀ j k, s.mrk j k = s'.mrk j k) : s = s' := by
  obtain ⟨a, b, fz, t, m⟩ := s
  obtain ⟨a', b', fz', t', m'⟩ := s'
  simp only at h1 h2 h3 h4 h5
  subst h1 h2 h3
  congr
  · funext j; exact h4 j
  · funext j k; exact h5 j k
theorem Sto.to_start (s : Sto) (o c q f : Int) (l : List ByteArray) : s.to o c q f f l = s := by
  refine Sto.ext' rfl rfl rfl (fun j => ?_) (fun j k => ?_)
  · exact if_neg (by omega)
  · exact if_neg (by omega)
theorem Sto.to_look (s : Sto) {o : Int} (ho : ¬ (o = 2 \/ o = 3)) (c q f m m' : Int) (l : List ByteArray) : s.to o c q f m l = s.to o c q f m' l := by
  refine Sto.ext' rfl rfl rfl (fun j => ?_) (fun j k => ?_)
  · show ite _ _ _ = ite _ _ _
    rw [if_neg (by omega), if_neg (by omega)]
  · show ite _ _ _ = ite _ _ _
    rw [if_neg (by omega), if_neg (by omega)]
theorem ite_iff {α : Type} {P Q : Prop} [Decidable P] [Decidable Q] {a b c d : α} (h : P ↔ Q) (h1 : a = c) (h2 : b = d) : ite P a b = ite Q c d := by subst h1 h2; by_cases hp : P <;> simp [hp, h.symm]
theorem Sto.to_old (s : Sto) {o c q f m : Int} (l : List ByteArray) (ha : s.a <= m) (hm : q <= s.mrk (m - s.a).toNat c.toNat) : s.to o c q f (m + 1) l = s.to o c q f m l := by
  have key : ∀ j : Nat, (s.a + j < m + 1 /\ s.mrk j c.toNat < q) ↔ (s.a + j < m /\ s.mrk j c.toNat < q) := by
    intro j
    constructor
    · intro ⟨h1, h2⟩
      refine ⟨?_, h2⟩
      by_cases e : s.a + j = m
      · have : (m - s.a).toNat = j := by omega
        rw [this] at hm; omega
      · omega
    · intro ⟨h1, h2⟩; exact ⟨by omega, h2⟩
  refine Sto.ext' rfl rfl rfl (fun j => ?_) (fun j k => ?_)
  · exact ite_iff (by have := key j; omega) rfl rfl
  · exact ite_iff (by have := key j; omega) rfl rfl
theorem Sto.to_new (s : Sto) {o c q f m : Int} (l : List ByteArray) (ho : o = 2 \/ o = 3) (hf : f <= m) (ha : s.a <= m) (hm : s.mrk (m - s.a).toNat c.toNat < q) :
    s.to o c q f (m + 1) l = (s.to o c q f m l).upd (m - s.a).toNat c.toNat (if o = 2 then l.getD (m - f).toNat ⟨#[]⟩ else ⟨#[]⟩) q := by
  refine Sto.ext' rfl rfl rfl (fun j => ?_) (fun j k => ?_)
  · show ite _ _ _ = ite _ _ (ite _ _ _)
    by_cases e : j = (m - s.a).toNat
    · subst e
      rw [if_pos rfl, if_pos ⟨ho, by omega, by omega, hm⟩, show s.a + ((m - s.a).toNat : Int) - f = m - f by omega]
    · rw [if_neg e]
      exact ite_iff (by omega) rfl rfl
  · show ite _ _ _ = ite _ _ (ite _ _ _)
    by_cases e : j = (m - s.a).toNat /\ k = c.toNat
    · obtain ⟨rfl, rfl⟩ := e
      have h1 : (o = 2 \/ o = 3) /\ f <= s.a + ((m - s.a).toNat : Int) /\ s.a + ((m - s.a).toNat : Int) < m + 1 /\ s.mrk (m - s.a).toNat c.toNat < q /\ c.toNat = c.toNat := ⟨ho, by omega, by omega, hm, rfl⟩
      rw [if_pos h1, if_pos ⟨rfl, rfl⟩]
    · rw [if_neg e]
      exact ite_iff (by omega) rfl rfl
def Sto.data (s : Sto) (o f m : Int) : List ByteArray := if o = 1 then (List.range (m - f).toNat).map fun i => s.txt ((f - s.a).toNat + i) else []
theorem Sto.data_next (s : Sto) {f m : Int} (h1 : s.a <= f) (h2 : f <= m) : s.data 1 f (m + 1) = s.data 1 f m ++ [s.txt (m - s.a).toNat] := by
  unfold Sto.data
  rw [if_pos rfl, if_pos rfl, show (m + 1 - f).toNat = (m - f).toNat + 1 by omega, List.range_succ, List.map_append]
  congr 2
  simp only [List.map_cons,List.map_nil]
  rw [show (f - s.a).toNat + (m - f).toNat = (m - s.a).toNat by omega]
def DataAt (H : Heap) (dv : V) (l : List ByteArray) (lo : Nat) : Prop :=
  (l = [] /\ dv = .sl .nil 0 0 0) \/ ∃ db dg, dv = .sl (.at db dg 0) l.length l.length 1 /\ hcells H db dg = some (true, l.map .str) /\ lo <= db
theorem DataAt.keeps {F : List Nat} {H H' : Heap} {dv : V} {l : List ByteArray} {lo : Nat} (h : DataAt H dv l lo) (k : Keeps F H H') (hF : ∀ i ∈ F, i < lo) : DataAt H' dv l lo := by
  rcases h with h | ⟨db, dg, h1, h2, h3⟩
  · exact .inl h
  · exact .inr ⟨db, dg, h1, k.cells h2 (fun hm => by have := hF _ hm; omega), h3⟩
def Away (F : List Nat) (v : V) : Prop := match v with | .sl (.at b _ _) _ _ _ => b ∉ F | _ => True
theorem StrsAt.keeps {F : List Nat} {h h' : Heap} {v : V} {l : List ByteArray} (hs : StrsAt h v l) (k : Keeps F h h') (ha : l ≠ [] -> Away F v) : StrsAt h' v l := by
  obtain ⟨a, cap, z, rfl, h1, h2, h3⟩ := hs
  refine ⟨a, cap, z, rfl, h1, h2, ?_⟩
  by_cases hl : l = []
  · exact .inl hl
  · rcases h3 with h3 | ⟨b, g, o, rw, full, rfl, hb, hf⟩
    · exact absurd h3 hl
    · exact .inr ⟨b, g, o, rw, full, rfl, k.cells hb (ha hl), hf⟩
theorem Sto.to_mrk (s : Sto) {o c q f m : Int} (l : List ByteArray) (ha : s.a <= m) (k : Nat) : (s.to o c q f m l).mrk (m - s.a).toNat k = s.mrk (m - s.a).toNat k := if_neg (by omega)
structure ApplyInv (H : Heap) (p cb g L : Nat) (s : Sto) (r : LoopR) (o c q f t : Int) (v : V) (x2 : Nat × List V) (l : List ByteArray) (i : Int) (H' : Heap) : Prop where
  st : StoreAt H' p cb g (s.to o c q f i l)
  rc : ∃ dv x4, loopAt H' L = some { r with l := [(1, [.ptr p 0 0]), (1, cmdV o c q f t v), x2, (1, [.bool true, dv]), x4] } /\ DataAt H' dv (s.data o f i) H.length
  kp : Keeps [cb, L] H H'
section
variable {H : Heap} {p cb g L : Nat} {s : Sto} {r : LoopR} {o c q f t : Int} {v : V} {x2 : Nat × List V} {l : List ByteArray}
theorem inv_read (hL : loopAt H L = some r) (hr : ApplyRec r) (hp : p ≠ L) (hc : cb ≠ L) (hpl : p < H.length) (hcl : cb < H.length) (hf : s.a <= f) (ht : t <= s.b) (ht16 : t - f <= 16) {i : Int} {H' : Heap} (hi1 : f <= i) (hi2 : i < t) (h : ApplyInv H p cb g L s r 1 c q f t v x2 l i H') :
    Ev.Ok (D X (.yld L) [.int .i64 i] H') fun y => ∃ H2, y = (.bool true, H2) /\ ApplyInv H p cb g L s r 1 c q f t v x2 l (i + 1) H2 := by
  obtain ⟨hst, ⟨dv, x4, hrec, hda⟩, hk⟩ := h
  have hr' : ApplyRec { r with l := [(1, [.ptr p 0 0]), (1, cmdV 1 c q f t v), x2, (1, [.bool true, dv]), x4] } := ⟨hr.state, hr.pending, hr.fn, hr.params, hr.code, hr.lent, hr.len, hr.t2, hr.t3, hr.t6⟩
  have e1 := Sto.to_look s (o := 1) (by omega) c q f i (i + 1) l
  have e2 := Sto.to_look s (o := 1) (by omega) c q f i f l
  rw [Sto.to_start] at e2
  have e3 := e1.symm.trans e2
  rw [e2] at hst
  have hLl := loopAt_lt hL
  have hLl' := Nat.lt_of_lt_of_le hLl hk.1
  have hdn := Sto.data_next s (m := i) hf hi1
  rcases hda with ⟨hd1, rfl⟩ | ⟨db, dg, rfl, hd2, hd3⟩
  · obtain ⟨k4, y4⟩ := x4
    have hrd := read_nil hst hrec hr' rfl hp hc (i := i) (by omega) (by omega)
    refine ⟨_, hrd, _, rfl, ?_, ⟨.sl (.at H'.length 0 0) 1 1 1, (k4 + 1, [.str (s.txt (i - s.a).toNat)]), ?_, .inr ⟨H'.length, 0, ?_, ?_, hk.1⟩⟩, ?_⟩
    · rw [e3]
      exact hst.keeps (F := [L]) ((Keeps.set (.refl _ _) (.inl (by simp)) _).snoc _) (by simp [hp]) (by simp [hc])
    · rw [loopAt_app (by simpa using hLl'), loopAt_set_eq hLl']
    · rw [hdn, hd1]; rfl
    · rw [hdn, hd1, hcells_ge (by simp)]
      simp only [List.length_set,Nat.sub_self]
      exact grd_t rfl _
    · exact hk.trans ((Keeps.set (.refl _ _) (.inl (by simp)) _).snoc _)
  · obtain ⟨k4, y4⟩ := x4
    have hdL : db ≠ L := by omega
    have hrd := read_more hst hrec hr' rfl hp hc (i := i) (by omega) (by omega) hd2 (by simp) (by simp only [Sto.data,if_true,List.length_map,List.length_range]; omega) hdL
    have hdl := hcells_lt hd2
    have hdcb : db ≠ cb := by omega
    have hdp : db ≠ p := by omega
    refine ⟨_, hrd, _, rfl, ?_, ⟨.sl (.at db (dg + 1) 0) ((s.data 1 f i).length + 1) ((s.data 1 f i).length + 1) 1, (k4 + 1, [.str (s.txt (i - s.a).toNat)]), ?_, .inr ⟨db, dg + 1, ?_, ?_, hd3⟩⟩, ?_⟩
    · rw [e3]
      exact hst.keeps (F := [L, db]) (((Keeps.set (.refl _ _) (.inl (by simp)) _).set (.inl (by simp)) _).set (.inl (by simp)) _) (by simp [hp, Ne.symm hdp]) (by simp [hc, Ne.symm hdcb])
    · rw [loopAt_set_eq (by simpa using hLl')]
    · rw [hdn]; simp
    · rw [hdn, hcells_set_ne hdL, hcells_set_eq (by simpa using hdl)]; simp
    · exact hk.wide (G := [L, db]) (((Keeps.set (.refl _ _) (.inl (by simp)) _).set (.inl (by simp)) _).set (.inl (by simp)) _) (fun j hj hlt => by simp at hj ⊢; omega)
theorem data_off {o : Int} (ho : ¬ o = 1) (f m m' : Int) : s.data o f m = s.data o f m' := by
  unfold Sto.data; rw [if_neg ho, if_neg ho]
theorem inv_flush (hr : ApplyRec r) (hp : p ≠ L) (hc : cb ≠ L) (hf : s.a <= f) (ht : t <= s.b) {i : Int} {H' : Heap} (hi1 : f <= i) (hi2 : i < t) (h : ApplyInv H p cb g L s r 4 c q f t v x2 l i H') :
    Ev.Ok (D X (.yld L) [.int .i64 i] H') fun y => ∃ H2, y = (.bool true, H2) /\ ApplyInv H p cb g L s r 4 c q f t v x2 l (i + 1) H2 := by
  obtain ⟨hst, ⟨dv, x4, hrec, hda⟩, hk⟩ := h
  have hr' : ApplyRec { r with l := [(1, [.ptr p 0 0]), (1, cmdV 4 c q f t v), x2, (1, [.bool true, dv]), x4] } := ⟨hr.state, hr.pending, hr.fn, hr.params, hr.code, hr.lent, hr.len, hr.t2, hr.t3, hr.t6⟩
  have hrd := flush_round hst hrec hr' rfl hp hc (i := i) (by show s.a <= i; omega) (by show i < s.b; omega)
  refine ⟨_, hrd, H', rfl, ?_, ⟨dv, x4, hrec, ?_⟩, hk⟩
  · rw [Sto.to_look s (o := 4) (by omega) c q f (i + 1) i l]; exact hst
  · rw [data_off (by omega) f (i + 1) i]; exact hda
theorem inv_put (ho : o = 2 \/ o = 3) (hL : loopAt H L = some r) (hr : ApplyRec r) (hp : p ≠ L) (hc : cb ≠ L) (hcl : cb < H.length) (hc4 : 0 <= c /\ c < 4) (h0 : 0 <= f) (hf : s.a <= f) (ht : t <= s.b)
    (hv : StrsAt H v l) (hva : l ≠ [] -> Away [cb, L] v) (hlen : o = 2 -> (l.length : Int) = t - f) {i : Int} {H' : Heap} (hi1 : f <= i) (hi2 : i < t) (h : ApplyInv H p cb g L s r o c q f t v x2 l i H') :
    Ev.Ok (D X (.yld L) [.int .i64 i] H') fun y => ∃ H2, y = (.bool true, H2) /\ ApplyInv H p cb g L s r o c q f t v x2 l (i + 1) H2 := by
  obtain ⟨hst, ⟨dv, x4, hrec, hda⟩, hk⟩ := h
  have hr' : ApplyRec { r with l := [(1, [.ptr p 0 0]), (1, cmdV o c q f t v), x2, (1, [.bool true, dv]), x4] } := ⟨hr.state, hr.pending, hr.fn, hr.params, hr.code, hr.lent, hr.len, hr.t2, hr.t3, hr.t6⟩
  have hmk := Sto.to_mrk s (o := o) (c := c) (q := q) (f := f) (m := i) l (by omega) c.toNat
  have hla := Nat.lt_of_lt_of_le hcl hk.1
  by_cases hm : s.mrk (i - s.a).toNat c.toNat < q
  · have fin : ∀ H2, StoreAt H2 p cb g ((s.to o c q f i l).upd (i - s.a).toNat c.toNat (if o = 2 then l.getD (i - f).toNat ⟨#[]⟩ else ⟨#[]⟩) q) -> loopAt H2 L = some { r with l := [(1, [.ptr p 0 0]), (1, cmdV o c q f t v), x2, (1, [.bool true, dv]), x4] } -> Keeps [cb] H' H2 -> ApplyInv H p cb g L s r o c q f t v x2 l (i + 1) H2 := by
      intro H2 w1 w2 w3
      refine ⟨?_, ⟨dv, x4, w2, ?_⟩, hk.trans (w3.mono fun b _ hb => by simp at hb ⊢; exact .inl hb)⟩
      · rw [Sto.to_new s l ho hi1 (by omega) hm]; exact w1
      · rw [data_off (by omega) f (i + 1) i]; exact hda.keeps w3 (by simpa using hcl)
    rcases ho with rfl | rfl
    · have hv' := hv.keeps hk hva
      obtain ⟨a, cap, z, rfl, _, _, hx⟩ := hv'
      have hln := hlen rfl
      rcases hx with rfl | ⟨b', g', o', rw', full', rfl, hb, hfull⟩
      · simp at hln; omega
      · have hij : (i - f).toNat < l.length := by omega
        have hx1 := hfull (i - f).toNat l[(i - f).toNat] (List.getElem?_eq_getElem hij)
        have hgd : l.getD (i - f).toNat ⟨#[]⟩ = l[(i - f).toNat] := by simp [List.getD, hij]
        have hbF : b' ≠ cb /\ b' ≠ L := by simpa [Away] using hva (by rintro rfl; simp at hij)
        obtain ⟨y, ey, H2, rfl, w1, w2, w3⟩ := write_round hst hrec hr' rfl hp hc (i := i) (by show s.a <= i; omega) (by show i < s.b; omega) hc4 (by rw [show (s.to 2 c q f i l).a = s.a from rfl, hmk]; exact hm) rfl hb hbF.2 hbF.1 (by omega) h0 hx1
        refine ⟨_, ey, H2, rfl, fin H2 ?_ w2 w3⟩
        rw [if_pos rfl, hgd]; exact w1
    · obtain ⟨y, ey, H2, rfl, w1, w2, w3⟩ := trim_round hst hrec hr' rfl hp hc (i := i) (by show s.a <= i; omega) (by show i < s.b; omega) hc4 (by rw [show (s.to 3 c q f i l).a = s.a from rfl, hmk]; exact hm)
      refine ⟨_, ey, H2, rfl, fin H2 ?_ w2 w3⟩
      rw [if_neg (by omega)]; exact w1
  · have hrd := old_round hst hrec hr' ho rfl hp hc (i := i) (by show s.a <= i; omega) (by show i < s.b; omega) hc4 (by rw [show (s.to o c q f i l).a = s.a from rfl, hmk]; omega)
    refine ⟨_, hrd, H', rfl, ?_, ⟨dv, x4, hrec, ?_⟩, hk⟩
    · rw [Sto.to_old s l (by omega) (by omega)]; exact hst
    · rw [data_off (by omega) f (i + 1) i]; exact hda
theorem DataAt.strs {H : Heap} {dv : V} {l : List ByteArray} {lo : Nat} (h : DataAt H dv l lo) (h2 : l.length <= 9223372036854775807) : StrsAt H dv l := by
  rcases h with ⟨rfl, rfl⟩ | ⟨db, dg, rfl, h3, _⟩
  · exact ⟨_, _, _, rfl, h2, trivial, .inl rfl⟩
  · refine ⟨_, _, _, rfl, h2, trivial, .inr ⟨db, dg, 0, true, _, rfl, h3, fun i s hi => ?_⟩⟩
    rw [Nat.zero_add, List.getElem?_map, hi]; rfl
theorem apply_loop {pb sb : Nat} (hs : StoreAt H p cb g s) (hL : loopAt H L = some r) (hr : ApplyRec r)
    (hl : r.l = [(1, [.ptr p 0 0]), (1, cmdV o c q f t v), x2, (1, [.bool true, .sl .nil 0 0 0]), (0, [])])
    (hv : StrsAt H v l) (hva : l ≠ [] -> Away [cb, L] v) (hp : p ≠ L) (hc : cb ≠ L) (ho : 1 <= o /\ o <= 4) (hc4 : 0 <= c /\ c < 4) (hf : s.a <= f) (hft : f < t) (ht : t <= s.b) (ht16 : t - f <= 16) (hlen : o = 2 -> (l.length : Int) = t - f)
    (h1 : hcells H pb 0 = some (true, [.sl (.at sb 0 0) 1 1 2])) (h2 : hcells H sb 0 = some (true, [.int .i64 f, .int .i64 t])) (hpb : pb ∉ [cb, L]) (hsb : sb ∉ [cb, L]) :
    Ev.Ok (D X (.fn 80 [.ptr pb 0 0]) [.yld L] H) fun y => ∃ H', y = (.tup [], H') /\ ApplyInv H p cb g L s r o c q f t v x2 l t H' := by
  have hok : s.Ok := by obtain ⟨_, _, _, _, _, _, _, h⟩ := hs; exact h.toOk
  have hpl := (StoreAt.lt hs).1
  have hcl := (StoreAt.lt hs).2
  have g0 := hok.h0
  have g1 := hok.h2
  refine iter_1 (pb := pb) (sb := sb) (L := L) (f := f) (t := t) (ApplyInv H p cb g L s r o c q f t v x2 l)
      hft (by omega) (by omega) (fun i H' h => ⟨h.kp.cells h1 hpb, h.kp.cells h2 hsb⟩) (fun i H' hi1 hi2 h => ?_) (H0 := H) ⟨?_, ⟨.sl .nil 0 0 0, (0, []), ?_, .inl ⟨?_, rfl⟩⟩, .refl _ _⟩
  · by_cases o1 : o = 1
    · subst o1
      exact inv_read hL hr hp hc hpl hcl hf ht ht16 hi1 hi2 h
    · by_cases o4 : o = 4
      · subst o4
        exact inv_flush hr hp hc hf ht hi1 hi2 h
      · exact inv_put (by omega) hL hr hp hc hcl hc4 (by omega) hf ht hv hva hlen hi1 hi2 h
  · rw [Sto.to_start]; exact hs
  · rw [hL, <- hl]
  · unfold Sto.data; split <;> simp
end
end Go.Ev
set_option maxRecDepth 100000
namespace Go.Ev
open Go.Ev renaming exPure -> Ja, ofValue -> Jb, cellsV -> Jc, load -> Jd, store -> Je, binOp -> Jf, intOp -> Jg, rdV -> Jh, vsame -> Ji, vsames -> Jj, makeSliceV -> Jk, resV -> Jl, isCell -> Jm, nilCheckV -> Jn, allV -> Jo, builtinV -> Jp, lenV -> Jq, indexAddrV -> Jr, unOp -> Js, minmaxV -> Jt, minmax -> Ju, sliceV -> Jv, asInt -> Jw, appendV -> Jx, forkB -> Jy, roY -> Jz, rwB -> J0, copyV -> J1, clearV -> J2, convV -> J3, sliceCells -> J4, shift -> J5
open Bool renaming true -> BT, false -> BF
open Nat renaming reduceEqDiff -> J6, reduceLT -> J7, reduceAdd -> J8, reduceBEq -> J9, reduceSub -> JA, reduceMul -> JB, reduceLeDiff -> JJ
open Int renaming reduceLT -> JC, reduceLE -> JD, reduceAdd -> JE, reduceSub -> JF, reduceNeg -> JG, reduceToNat -> JH, reduceEq -> JI
open Go.Proofs
def Sto.apply (s : Sto) (o c q f t : Int) (l : List ByteArray) : Sto × Bool × List ByteArray × Int :=
  if ¬ mayP o c q f t l then (s, false, [], 1)
  else if (1 <= o /\ o <= 4) /\ (f < s.a \/ s.b < t) then (s, false, [], 9)
  else if s.fz = true \/ o = 0 then (s, false, [], 0)
  else if o = 5 then ({ s with fz := true }, true, [], 0)
  else (s.to o c q f t l, true, s.data o f t, 0)
def Applied (h : Heap) (p cb g : Nat) (R : Sto × Bool × List ByteArray × Int) (y : V × Heap) : Prop :=
  ∃ h' dv, y = (.tup [.agg [.bool R.2.1, dv], .int .i64 R.2.2.2], h') /\ StoreAt h' p cb g R.1 /\ Keeps [p, cb] h h' /\ DataAt h' dv R.2.2.1 h.length
theorem apply_at {h : Heap} {p cb g : Nat} {s : Sto} {o c q f t : Int} {v : V} {l : List ByteArray} (hs : StoreAt h p cb g s) (hv : StrsAt h v l) (hva : l ≠ [] -> Away [p, cb] v) :
    Ev.Ok (D X (.fn 22 []) [.ptr p 0 0, .agg (cmdV o c q f t v)] h) (Applied h p cb g (s.apply o c q f t l)) := by
  refine Ok.aim fun Q hQ => ?_
  have hm := may_at (o := o) (c := c) (q := q) (f := f) (t := t) hv
  obtain ⟨sa, vcap, vz, ev, _⟩ := id hv
  have hs' := Hid.mk hs
  have hv' := Hid.mk hv
  obtain ⟨cap, z, full, hp1, hc1, hcl, hpc, hok⟩ := hs
  simp only [cmdV]
  by_cases hmay : mayP o c q f t l
  · rw [decide_eq_true hmay] at hm
    by_cases hr : (1 <= o /\ o <= 4) /\ (f < s.a \/ s.b < t)
    · have e : s.apply o c q f t l = (s, false, [], 9) := by
        unfold Sto.apply; rw [if_neg (by simpa using hmay), if_pos hr]
      rw [e] at hQ
      have hQ' := Hid.mk hQ
      clear hQ e hv
      obtain ⟨ho, hft⟩ := hr
      subst ev
      (refine Ok.body body22 pin22 ?_; simp only [c22,Try.f22,Option.getD_some,nslot22,List.append_nil,List.map,List.replicate,List.length_cons,List.length_nil,Nat.reduceAdd,Nat.reduceSub,List.cons_append,List.nil_append])
      (repeat' (first | (simp -implicitDefEqProofs (maxSteps := 1000000) (disch := first | assumption | omega | (simp only [ZDI]; omega)) only [*,isClients_at,G22,Za,Zb,Zc,Zd,Ze,Zf,Zg,Zh,Zi,Zj,Zk,Zl,Zm,Zn,Zo,Ja,Jb,Jc,J6,Jd,Je,J7,J8,Jf,Jg,Jh,Ji,Jj,Jk,J9,Jl,Jm,wr,Jn,JA,JB,Jo,Jp,Jq,Jr,Js,Jt,Ju,Jv,Jw,Jx,Jy,Jz,J0,J1,J2,J3,J4,J5,reduceCtorEq,JC,JD,JE,JF,JG,JH,JI,JJ]) | ((with_reducible (first | apply Ok.br | apply Ok.gd | apply Ok.ld)) <;> (intro g; (try simp only [ZGS] at g); try (exfalso; omega)))))
      all_goals exact hQ'.out _ ⟨_, _, rfl, hs'.out, .refl _ _, .inl ⟨rfl, rfl⟩⟩
    · by_cases hz : s.fz = true \/ o = 0
      · have e : s.apply o c q f t l = (s, false, [], 0) := by
          unfold Sto.apply; rw [if_neg (by simpa using hmay), if_neg hr, if_pos hz]
        rw [e] at hQ
        have hQ' := Hid.mk hQ
        clear hQ e hv
        subst ev
        generalize hfz : s.fz = fz at hp1 hz
        (refine Ok.body body22 pin22 ?_; simp only [c22,Try.f22,Option.getD_some,nslot22,List.append_nil,List.map,List.replicate,List.length_cons,List.length_nil,Nat.reduceAdd,Nat.reduceSub,List.cons_append,List.nil_append])
        (repeat' (first | (simp -implicitDefEqProofs (maxSteps := 1000000) (disch := first | assumption | omega | (simp only [ZDI]; omega)) only [*,isClients_at,G22,Za,Zb,Zc,Zd,Ze,Zf,Zg,Zh,Zi,Zj,Zk,Zl,Zm,Zn,Zo,Ja,Jb,Jc,J6,Jd,Je,J7,J8,Jf,Jg,Jh,Ji,Jj,Jk,J9,Jl,Jm,wr,Jn,JA,JB,Jo,Jp,Jq,Jr,Js,Jt,Ju,Jv,Jw,Jx,Jy,Jz,J0,J1,J2,J3,J4,J5,reduceCtorEq,JC,JD,JE,JF,JG,JH,JI,JJ]) | ((with_reducible (first | apply Ok.br | apply Ok.gd | apply Ok.ld)) <;> (intro g; (try simp only [ZGS] at g); try (exfalso; omega)))))
        all_goals first | exact hQ'.out _ ⟨_, _, rfl, hs'.out, .refl _ _, .inl ⟨rfl, rfl⟩⟩ | exact absurd hz (by simp [*])
      · have hfz : s.fz = false := by simpa using fun h' => hz (.inl h')
        have ho0 : ¬ o = 0 := fun h' => hz (.inr h')
        by_cases o5 : o = 5
        · subst o5
          have hmz : c = 0 /\ q = 0 /\ f = 0 /\ t = 0 := by
            unfold mayP at hmay
            omega
          obtain ⟨rfl, rfl, rfl, rfl⟩ := hmz
          have e : s.apply 5 0 0 0 0 l = ({ s with fz := true }, true, [], 0) := by
            unfold Sto.apply; rw [if_neg (by simpa using hmay), if_neg hr, if_neg hz, if_pos rfl]
          rw [e] at hQ
          have hQ' := Hid.mk hQ
          clear hQ e hv hz
          subst ev
          have hpl := hcells_lt hp1
          have hB := blocks_0 (b := h.length) (g := 0) (o := 0) (cap := 1) (z := 0) (f := 0) (t := 0) (h := h.set p (.cells 0 true [.int .i64 s.a, .int .i64 s.b, .bool true, .sl (.at cb g 0) s.n cap z]) ++ [.cells 0 true [.int .i64 0, .int .i64 0]]) (k := true) (full := [.int .i64 0, .int .i64 0])
            (by rw [hcells_ge (by simp)]; simp only [List.length_set,Nat.sub_self]; exact grd_t rfl _) rfl (by simp) (by omega)
          simp only [List.append_assoc,List.cons_append,List.nil_append,List.length_append,List.length_set,List.length_cons,List.length_nil,Nat.reduceAdd,Nat.zero_add,Nat.add_assoc] at hB
          (refine Ok.body body22 pin22 ?_; simp only [c22,Try.f22,Option.getD_some,nslot22,List.append_nil,List.map,List.replicate,List.length_cons,List.length_nil,Nat.reduceAdd,Nat.reduceSub,List.cons_append,List.nil_append])
          (repeat' (first | (simp -implicitDefEqProofs (maxSteps := 1000000) (disch := first | assumption | omega | (simp only [ZDI]; omega)) only [*,isClients_at,G22,Za,Zb,Zc,Zd,Ze,Zf,Zg,Zh,Zi,Zj,Zk,Zl,Zm,Zn,Zo,Ja,Jb,Jc,J6,Jd,Je,J7,J8,Jf,Jg,Jh,Ji,Jj,Jk,J9,Jl,Jm,wr,Jn,JA,JB,Jo,Jp,Jq,Jr,Js,Jt,Ju,Jv,Jw,Jx,Jy,Jz,J0,J1,J2,J3,J4,J5,reduceCtorEq,JC,JD,JE,JF,JG,JH,JI,JJ]) | ((with_reducible (first | apply Ok.br | apply Ok.gd | apply Ok.ld)) <;> (intro g; (try simp only [ZGS] at g); try (exfalso; omega)))))
          rw [iter_0 (by rw [hcells_ge (by simp)]; simp only [List.length_set,Nat.add_sub_cancel_left]; rfl)]
          simp -implicitDefEqProofs (maxSteps := 1000000) (disch := first | assumption | omega | (simp only [ZDI]; omega)) only [*,G22,Za,Zb,Zc,Zd,Ze,Zf,Zg,Zh,Zi,Zj,Zk,Zl,Zm,Zn,Zo,Ja,Jb,Jc,J6,Jd,Je,J7,J8,Jf,Jg,Jh,Ji,Jj,Jk,J9,Jl,Jm,wr,Jn,JA,JB,Jo,Jp,Jq,Jr,Js,Jt,Ju,Jv,Jw,Jx,Jy,Jz,J0,J1,J2,J3,J4,J5,reduceCtorEq,JC,JD,JE,JF,JG,JH,JI,JJ]
          refine hQ'.out _ ⟨_, _, rfl, ?_, ?_, .inl ⟨rfl, rfl⟩⟩
          · refine ⟨cap, z, full, ?_, ?_, hcl, hpc, ⟨⟨hok.h0, hok.h1, hok.h2⟩, hok.hc, hok.hz⟩⟩
            · rw [hcells_app (by simpa using hpl), hcells_set_eq hpl]; rfl
            · rw [hcells_app (by simpa using hcells_lt hc1), hcells_set_ne (Ne.symm hpc)]; exact hc1
          · exact (Keeps.set (.refl _ _) (.inl (by simp)) _).snoc _
        · have ho : 1 <= o /\ o <= 4 := by
            unfold mayP at hmay
            omega
          have hmr : (0 <= c /\ c <= 3) /\ (1 <= q /\ q <= 1099511627776) /\ (0 <= f /\ f < t /\ t <= 256 /\ t - f <= 16) /\ (o = 2 -> (l.length : Int) = t - f) := by
            unfold mayP at hmay
            rcases hmay with h' | h'
            · omega
            · refine ⟨h'.2.1, h'.2.2.1, h'.2.2.2.1, fun e => ?_⟩
              rcases h'.2.2.2.2 with h2 | h2
              · exact absurd e h2.1
              · exact h2.2.1
          obtain ⟨hc4, hq, ⟨hf0, hft, ht2, ht16⟩, hlen⟩ := hmr
          have e : s.apply o c q f t l = (s.to o c q f t l, true, s.data o f t, 0) := by
            unfold Sto.apply; rw [if_neg (by simpa using hmay), if_neg hr, if_neg hz, if_neg o5]
          rw [e] at hQ
          have hQ' := Hid.mk hQ
          clear hQ e hv hz
          subst ev
          have hpl := hcells_lt hp1
          have hsa : ¬ f < s.a := by omega
          have hsb : ¬ s.b < t := by omega
          have hB := blocks_1 (b := h.length) (g := 0) (o := 0) (cap := 1) (z := 0) (f := f) (t := t) (h := h ++ [.cells 0 true [.int .i64 f, .int .i64 t]]) (k := true) (full := [.int .i64 f, .int .i64 t])
            (by rw [hcells_ge (by simp)]; simp only [Nat.sub_self]; exact grd_t rfl _) rfl (by simp) hft
          simp only [List.append_assoc,List.cons_append,List.nil_append,List.length_append,List.length_set,List.length_cons,List.length_nil,Nat.reduceAdd,Nat.zero_add,Nat.add_assoc] at hB
          (refine Ok.body body22 pin22 ?_; simp only [c22,Try.f22,Option.getD_some,nslot22,List.append_nil,List.map,List.replicate,List.length_cons,List.length_nil,Nat.reduceAdd,Nat.reduceSub,List.cons_append,List.nil_append])
          (repeat' (first | (simp -implicitDefEqProofs (maxSteps := 1000000) (disch := first | assumption | omega | (simp only [ZDI]; omega)) only [*,isClients_at,G22,Za,Zb,Zc,Zd,Ze,Zf,Zg,Zh,Zi,Zj,Zk,Zl,Zm,Zn,Zo,Ja,Jb,Jc,J6,Jd,Je,J7,J8,Jf,Jg,Jh,Ji,Jj,Jk,J9,Jl,Jm,wr,Jn,JA,JB,Jo,Jp,Jq,Jr,Js,Jt,Ju,Jv,Jw,Jx,Jy,Jz,J0,J1,J2,J3,J4,J5,reduceCtorEq,JC,JD,JE,JF,JG,JH,JI,JJ]) | ((with_reducible (first | apply Ok.br | apply Ok.gd | apply Ok.ld)) <;> (intro g; (try simp only [ZGS] at g); try (exfalso; omega)))))
          have hcbl := hcells_lt hc1
          have hva' : l ≠ [] -> Away [cb, h.length + 5] (.sl sa l.length vcap vz) := by
            intro hne
            have hva2 := hva hne
            obtain ⟨a, cap', z', e1, _, _, h3⟩ := hv'.out
            simp only [V.sl.injEq] at e1
            obtain ⟨rfl, _⟩ := e1
            rcases h3 with h3 | ⟨b2, g2, o2, rw2, full2, rfl, h3, _⟩
            · exact absurd h3 hne
            · simp only [Away,List.mem_cons,List.not_mem_nil,or_false,not_or] at hva2 ⊢
              have := hcells_lt h3
              exact ⟨hva2.2, by omega⟩
          refine Ok.bnd2 (apply_loop (s := s) (p := p) (cb := cb) (g := g) (L := h.length + 5) (pb := h.length + 4) (sb := h.length + 3) (o := o) (c := c) (q := q) (f := f) (t := t) (l := l) (v := .sl sa l.length vcap vz) (r := ?rr) (x2 := ?xx) (hs'.out.keeps (.app [] h _) (by simp) (by simp)) ?hL ?hr ?hl
            (hv'.out.keeps (.app [] h _) ?hw) hva' (by omega) (by omega) ho (by omega) (by omega) hft (by omega) ht16 hlen ?h1 ?h2 (by simp; omega) (by simp; omega)) ?_
          case hL => rw [loopAt_ge (by omega)]; simp only [Nat.add_sub_cancel_left]; rfl
          case hr => exact ⟨rfl, rfl, rfl, rfl, by simp only [c22,Try.f22,Option.getD_some,rangesOf,List.nil_append,List.append_nil,List.cons_append,List.getElem?_cons_zero], rfl, rfl, rfl, rfl, rfl⟩
          case hl => rfl
          case hw => intro _; cases sa <;> simp [Away]
          case h1 => rw [hcells_ge (by omega)]; simp only [Nat.add_sub_cancel_left]; exact grd_t rfl _
          case h2 => rw [hcells_ge (by omega)]; simp only [Nat.add_sub_cancel_left]; exact grd_t rfl _
          rintro v' H2 ⟨H3, e3, hst, ⟨dv, x4, hrec, hda⟩, hk⟩
          simp only [Prod.mk.injEq] at e3
          obtain ⟨rfl, rfl⟩ := e3
          have hst' := Hid.mk hst
          have hda' := Hid.mk hda
          have hk' := Hid.mk hk
          clear hst hda hk hB hp1 hc1
          simp only [cmdV] at hrec
          simp -implicitDefEqProofs (maxSteps := 1000000) (disch := first | assumption | omega | (simp only [ZDI]; omega)) only [*,G22,Za,Zb,Zc,Zd,Ze,Zf,Zg,Zh,Zi,Zj,Zk,Zl,Zm,Zn,Zo,Ja,Jb,Jc,J6,Jd,Je,J7,J8,Jf,Jg,Jh,Ji,Jj,Jk,J9,Jl,Jm,wr,Jn,JA,JB,Jo,Jp,Jq,Jr,Js,Jt,Ju,Jv,Jw,Jx,Jy,Jz,J0,J1,J2,J3,J4,J5,reduceCtorEq,JC,JD,JE,JF,JG,JH,JI,JJ]
          refine hQ'.out _ ⟨_, dv, rfl, ?_, ?_, ?_⟩
          · exact hst'.out.keeps (F := [h.length + 5]) (Keeps.set (.refl _ _) (.inl (by simp)) _) (by simp; omega) (by simp; omega)
          · exact ((Keeps.app [p, cb] h _).wide (G := [cb, h.length + 5]) hk'.out (fun j hj hlt => by simp at hj ⊢; omega)).wide (G := [h.length + 5]) (Keeps.set (.refl _ _) (.inl (by simp)) _) (fun j hj hlt => by simp at hj; omega)
          · rcases hda'.out with h4 | ⟨db, dg, h4, h5, h6⟩
            · exact .inl h4
            · simp only [List.length_append,List.length_cons,List.length_nil] at h6
              exact .inr ⟨db, dg, h4, by rw [hcells_set_ne (by omega)]; exact h5, by omega⟩
  · rw [decide_eq_false hmay] at hm
    have e : s.apply o c q f t l = (s, false, [], 1) := by
      unfold Sto.apply; rw [if_pos hmay]
    rw [e] at hQ
    have hQ' := Hid.mk hQ
    clear hQ e hv
    subst ev
    (refine Ok.body body22 pin22 ?_; simp only [c22,Try.f22,Option.getD_some,nslot22,List.append_nil,List.map,List.replicate,List.length_cons,List.length_nil,Nat.reduceAdd,Nat.reduceSub,List.cons_append,List.nil_append])
    (repeat' (first | (simp -implicitDefEqProofs (maxSteps := 1000000) (disch := first | assumption | omega | (simp only [ZDI]; omega)) only [*,isClients_at,G22,Za,Zb,Zc,Zd,Ze,Zf,Zg,Zh,Zi,Zj,Zk,Zl,Zm,Zn,Zo,Ja,Jb,Jc,J6,Jd,Je,J7,J8,Jf,Jg,Jh,Ji,Jj,Jk,J9,Jl,Jm,wr,Jn,JA,JB,Jo,Jp,Jq,Jr,Js,Jt,Ju,Jv,Jw,Jx,Jy,Jz,J0,J1,J2,J3,J4,J5,reduceCtorEq,JC,JD,JE,JF,JG,JH,JI,JJ]) | ((with_reducible (first | apply Ok.br | apply Ok.gd | apply Ok.ld)) <;> (intro g; (try simp only [ZGS] at g); try (exfalso; omega)))))
    all_goals exact hQ'.out _ ⟨_, _, rfl, hs'.out, .refl _ _, .inl ⟨rfl, rfl⟩⟩
end Go.Ev
set_option maxRecDepth 100000
namespace Go.Ev
open Go.Ev renaming exPure -> Ja, ofValue -> Jb, cellsV -> Jc, load -> Jd, store -> Je, binOp -> Jf, intOp -> Jg, rdV -> Jh, vsame -> Ji, vsames -> Jj, makeSliceV -> Jk, resV -> Jl, isCell -> Jm, nilCheckV -> Jn, allV -> Jo, builtinV -> Jp, lenV -> Jq, indexAddrV -> Jr, unOp -> Js, minmaxV -> Jt, minmax -> Ju, sliceV -> Jv, asInt -> Jw, appendV -> Jx, forkB -> Jy, roY -> Jz, rwB -> J0, copyV -> J1, clearV -> J2, convV -> J3, sliceCells -> J4, shift -> J5
open Bool renaming true -> BT, false -> BF
open Nat renaming reduceEqDiff -> J6, reduceLT -> J7, reduceAdd -> J8, reduceBEq -> J9, reduceSub -> JA, reduceMul -> JB, reduceLeDiff -> JJ
open Int renaming reduceLT -> JC, reduceLE -> JD, reduceAdd -> JE, reduceSub -> JF, reduceNeg -> JG, reduceToNat -> JH, reduceEq -> JI
open Go.Proofs
theorem strEq_refl (s : ByteArray) : strEq s s = true := by unfold strEq; simp
theorem sameCmd_at {H : Heap} {o c q f t : Int} {va vb : V} {l : List ByteArray} (ha : StrsAt H va l) (hb : StrsAt H vb l) :
    D X (.fn 41 []) [.agg (cmdV o c q f t va), .agg (cmdV o c q f t vb)] H = some (.bool true, H) := by
  refine Ok.eq ?_
  refine Ok.aim fun Q hQ => ?_
  have hQ' := Hid.mk hQ
  clear hQ
  obtain ⟨a, cap, z, rfl, hl, _, ha⟩ := ha
  obtain ⟨a', cap', z', rfl, _, _, hb⟩ := hb
  have ha' := Hid.mk ha
  have hb' := Hid.mk hb
  clear ha hb
  simp only [cmdV]
  (refine Ok.body body41 pin41 ?_; simp only [c41,Try.f41,Option.getD_some,nslot41,List.append_nil,List.map,List.replicate,List.length_cons,List.length_nil,Nat.reduceAdd,Nat.reduceSub,List.cons_append,List.nil_append])
  (repeat' (first | (simp -implicitDefEqProofs (maxSteps := 1000000) (disch := first | assumption | omega | (simp only [ZDI]; omega)) only [*,lenV,eq_self,G41,Za,Zb,Zc,Zd,Ze,Zf,Zg,Zh,Zi,Zj,Zk,Zl,Zm,Zn,Zo,Ja,Jb,Jc,J6,Jd,Je,J7,J8,Jf,Jg,Jh,Ji,Jj,Jk,J9,Jl,Jm,wr,Jn,JA,JB,Jo,Jp,Jq,Jr,Js,Jt,Ju,Jv,Jw,Jx,Jy,Jz,J0,J1,J2,J3,J4,J5,reduceCtorEq,JC,JD,JE,JF,JG,JH,JI,JJ]) | ((with_reducible (first | apply Ok.br | apply Ok.gd | apply Ok.ld)) <;> (intro g; (try simp only [ZGS] at g); try (exfalso; omega)))))
  refine Ok.loop [BF, BF, BF, BF, BT, BT, BF, BF, BF, BF, BF, BF, BF, BF, BF, BF, BF, BF, BF, BF, BF, BF, BF, BF, BF, BF, BF, BF, BF, BF, BF, BF, BF, BF, BF, BF, BF, BF, BF, BF, BF, BF, BF, BF, BF, BF, BF, BF, BF, BF, BF, BT, BT, BT, BT, BT, BT, BT, BT, BT, BT, BT, BT, BT, BT, BT] (fun n s => ∃ i : Nat, n = l.length - i /\ i <= l.length /\ tv s.e 51 = .v (.int .i64 i) /\ s.l = [(1, [.int .i64 o, .int .i64 c, .int .i64 q, .int .i64 f, .int .i64 t, .sl a l.length cap z]), (1, [.int .i64 o, .int .i64 c, .int .i64 q, .int .i64 f, .int .i64 t, .sl a' l.length cap' z'])] /\ s.h = H)
    (fun x s => x = .exit 0 /\ s.l = [(1, [.int .i64 o, .int .i64 c, .int .i64 q, .int .i64 f, .int .i64 t, .sl a l.length cap z]), (1, [.int .i64 o, .int .i64 c, .int .i64 q, .int .i64 f, .int .i64 t, .sl a' l.length cap' z'])] /\ s.h = H) (l.length - 0) ⟨0, rfl, by omega, rfl, rfl, rfl⟩ ?_ ?_
  · intro n ⟨e', l', h'⟩ hW ⟨i, hn, hi, h8, h2, hh⟩
    dsimp only at hW h8 h2 hh
    subst l' h'
    rw [hW.spread]
    simp only [spread_t,spread_f,spread_n,Nat.zero_add,Nat.reduceAdd,h8]
    by_cases hlt : i < l.length
    · have hlt' : (i : Int) < (l.length : Int) := by omega
      rcases ha'.out with rfl | ⟨b, g, oo, rw, full, rfl, h3, hf3⟩
      · simp at hlt
      · rcases hb'.out with rfl | ⟨b', g', oo', rw', full', rfl, h4, hf4⟩
        · simp at hlt
        · have e1 := hf3 i l[i] (List.getElem?_eq_getElem hlt)
          have e2 := hf4 i l[i] (List.getElem?_eq_getElem hlt)
          clear hf3 hf4
          generalize l[i] = x at e1 e2
          (repeat' (first | (simp -implicitDefEqProofs (maxSteps := 1000000) (disch := first | assumption | omega | (simp only [ZDI]; omega)) only [*,strEq_refl,G41,Za,Zb,Zc,Zd,Ze,Zf,Zg,Zh,Zi,Zj,Zk,Zl,Zm,Zn,Zo,Ja,Jb,Jc,J6,Jd,Je,J7,J8,Jf,Jg,Jh,Ji,Jj,Jk,J9,Jl,Jm,wr,Jn,JA,JB,Jo,Jp,Jq,Jr,Js,Jt,Ju,Jv,Jw,Jx,Jy,Jz,J0,J1,J2,J3,J4,J5,reduceCtorEq,JC,JD,JE,JF,JG,JH,JI,JJ]) | ((with_reducible (first | apply Ok.br | apply Ok.gd | apply Ok.ld)) <;> (intro g; (try simp only [ZGS] at g); try (exfalso; omega)))))
          exact Turn.next (l.length - (i + 1)) (by omega) ⟨rfl, i + 1, rfl, by omega, rfl, rfl, rfl⟩
    · have hlt' : ¬ (i : Int) < (l.length : Int) := by omega
      (repeat' (first | (simp -implicitDefEqProofs (maxSteps := 1000000) (disch := first | assumption | omega | (simp only [ZDI]; omega)) only [*,G41,Za,Zb,Zc,Zd,Ze,Zf,Zg,Zh,Zi,Zj,Zk,Zl,Zm,Zn,Zo,Ja,Jb,Jc,J6,Jd,Je,J7,J8,Jf,Jg,Jh,Ji,Jj,Jk,J9,Jl,Jm,wr,Jn,JA,JB,Jo,Jp,Jq,Jr,Js,Jt,Ju,Jv,Jw,Jx,Jy,Jz,J0,J1,J2,J3,J4,J5,reduceCtorEq,JC,JD,JE,JF,JG,JH,JI,JJ]) | ((with_reducible (first | apply Ok.br | apply Ok.gd | apply Ok.ld)) <;> (intro g; (try simp only [ZGS] at g); try (exfalso; omega)))))
      exact Turn.exit ⟨rfl, rfl, rfl, rfl⟩
  · intro x ⟨e', l', h'⟩ hW ⟨hx, h2, hh⟩
    dsimp only at hW h2 hh
    subst l' hx h'
    rw [hW.spread]
    clear hW
    simp only [spread_t,spread_f,spread_n,Nat.zero_add,Nat.reduceAdd]
    (repeat' (first | (simp -implicitDefEqProofs (maxSteps := 1000000) (disch := first | assumption | omega | (simp only [ZDI]; omega)) only [*,G41,Za,Zb,Zc,Zd,Ze,Zf,Zg,Zh,Zi,Zj,Zk,Zl,Zm,Zn,Zo,Ja,Jb,Jc,J6,Jd,Je,J7,J8,Jf,Jg,Jh,Ji,Jj,Jk,J9,Jl,Jm,wr,Jn,JA,JB,Jo,Jp,Jq,Jr,Js,Jt,Ju,Jv,Jw,Jx,Jy,Jz,J0,J1,J2,J3,J4,J5,reduceCtorEq,JC,JD,JE,JF,JG,JH,JI,JJ]) | ((with_reducible (first | apply Ok.br | apply Ok.gd | apply Ok.ld)) <;> (intro g; (try simp only [ZGS] at g); try (exfalso; omega)))))
    exact hQ'.out _ rfl
theorem sameReply_at {H : Heap} {k : Bool} {va vb : V} {l : List ByteArray} (ha : StrsAt H va l) (hb : StrsAt H vb l) :
    D X (.fn 32 []) [.agg [.bool k, va], .agg [.bool k, vb]] H = some (.bool true, H) := by
  have h1 := sameCmd_at (o := 0) (c := 0) (q := 0) (f := 0) (t := 0) ha hb
  simp only [cmdV] at h1
  obtain ⟨a, cap, z, rfl, _⟩ := ha
  obtain ⟨a', cap', z', rfl, _⟩ := hb
  refine Ok.eq ?_
  (refine Ok.body body32 pin32 ?_; simp only [c32,Try.f32,Option.getD_some,nslot32,List.append_nil,List.map,List.replicate,List.length_cons,List.length_nil,Nat.reduceAdd,Nat.reduceSub,List.cons_append,List.nil_append])
  (repeat' (first | (simp -implicitDefEqProofs (maxSteps := 1000000) (disch := first | assumption | omega | (simp only [ZDI]; omega)) only [*,G32,Za,Zb,Zc,Zd,Ze,Zf,Zg,Zh,Zi,Zj,Zk,Zl,Zm,Zn,Zo,Ja,Jb,Jc,J6,Jd,Je,J7,J8,Jf,Jg,Jh,Ji,Jj,Jk,J9,Jl,Jm,wr,Jn,JA,JB,Jo,Jp,Jq,Jr,Js,Jt,Ju,Jv,Jw,Jx,Jy,Jz,J0,J1,J2,J3,J4,J5,reduceCtorEq,JC,JD,JE,JF,JG,JH,JI,JJ]) | ((with_reducible (first | apply Ok.br | apply Ok.gd | apply Ok.ld)) <;> (intro g; (try simp only [ZGS] at g); try (exfalso; omega)))))
end Go.Ev
set_option maxRecDepth 100000
namespace Go.Ev
open Go.Ev renaming exPure -> Ja, ofValue -> Jb, cellsV -> Jc, load -> Jd, store -> Je, binOp -> Jf, intOp -> Jg, rdV -> Jh, vsame -> Ji, vsames -> Jj, makeSliceV -> Jk, resV -> Jl, isCell -> Jm, nilCheckV -> Jn, allV -> Jo, builtinV -> Jp, lenV -> Jq, indexAddrV -> Jr, unOp -> Js, minmaxV -> Jt, minmax -> Ju, sliceV -> Jv, asInt -> Jw, appendV -> Jx, forkB -> Jy, roY -> Jz, rwB -> J0, copyV -> J1, clearV -> J2, convV -> J3, sliceCells -> J4, shift -> J5
open Bool renaming true -> BT, false -> BF
open Nat renaming reduceEqDiff -> J6, reduceLT -> J7, reduceAdd -> J8, reduceBEq -> J9, reduceSub -> JA, reduceMul -> JB, reduceLeDiff -> JJ
open Int renaming reduceLT -> JC, reduceLE -> JD, reduceAdd -> JE, reduceSub -> JF, reduceNeg -> JG, reduceToNat -> JH, reduceEq -> JI
open Go.Proofs
theorem reps_s (n : Nat) (z : List V) : reps (n + 1) z = z ++ reps n z := by simp [reps, List.replicate_succ]
structure RefAt (H : Heap) (p T M : Nat) (mb : Nat -> Nat) (n : Nat) (s : Sto) : Prop where
  tm : ∃ gT gM ts ms, hcells H p 0 = some (true, [.int .i64 s.a, .int .i64 s.b, .bool s.fz, .sl (.at T gT 0) n n 1, .sl (.at M gM 0) n n 1]) /\
    hcells H T gT = some (true, ts) /\ ts.length = n /\ (∀ i, i < n -> ts[i]? = some (.str (s.txt i))) /\ hcells H M gM = some (true, ms) /\ ms.length = n /\ (∀ i, i < n -> ms[i]? = some (.sl (.at (mb i) 0 0) 4 4 0))
  mks : ∀ i, i < n -> ∃ q, hcells H (mb i) 0 = some (true, q) /\ q.length = 4 /\ ∀ k, k < 4 -> q[k]? = some (.int .i64 (s.mrk i k))
  pT : p ≠ T
  pM : p ≠ M
  TM : T ≠ M
  apart : ∀ i, i < n -> mb i ≠ p /\ mb i ≠ T /\ mb i ≠ M
  inj : ∀ i j, i < n -> j < n -> mb i = mb j -> i = j
def refBlocks (p T M : Nat) (mb : Nat -> Nat) (n : Nat) : List Nat := p :: T :: M :: (List.range n).map mb
theorem mem_refBlocks {p T M : Nat} {mb : Nat -> Nat} {n j : Nat} : j ∈ refBlocks p T M mb n ↔ j = p \/ j = T \/ j = M \/ ∃ i, i < n /\ mb i = j := by
  simp [refBlocks]
theorem RefAt.keeps {F : List Nat} {H H' : Heap} {p T M : Nat} {mb : Nat -> Nat} {n : Nat} {s : Sto} (h : RefAt H p T M mb n s) (k : Keeps F H H') (hF : ∀ j ∈ refBlocks p T M mb n, j ∉ F) : RefAt H' p T M mb n s := by
  obtain ⟨⟨gT, gM, ts, ms, h1, h2, h3, h4, h5, h6, h7⟩, h8, h9, h10, h11, h12, h13⟩ := h
  refine ⟨⟨gT, gM, ts, ms, k.cells h1 (hF _ (mem_refBlocks.2 (.inl rfl))), k.cells h2 (hF _ (mem_refBlocks.2 (.inr (.inl rfl)))), h3, h4, k.cells h5 (hF _ (mem_refBlocks.2 (.inr (.inr (.inl rfl))))), h6, h7⟩, fun i hi => ?_, h9, h10, h11, h12, h13⟩
  obtain ⟨q, h1, h2, h3⟩ := h8 i hi
  exact ⟨q, k.cells h1 (hF _ (mem_refBlocks.2 (.inr (.inr (.inr ⟨i, hi, rfl⟩))))), h2, h3⟩
def mbOf (p i : Nat) : Nat := if i = 0 then p + 2 else p + 3 + i
theorem refGrow {H : Heap} {p T M : Nat} {mb : Nat -> Nat} {i : Nat} {s : Sto} (hr : RefAt H p T M mb i s) {gT gM : Nat} {ts ms : List V} {x : ByteArray} {c1 : Blk}
    (g1 : hcells H p 0 = some (true, [.int .i64 s.a, .int .i64 s.b, .bool s.fz, .sl (.at T gT 0) i i 1, .sl (.at M gM 0) i i 1])) (g2 : hcells H T gT = some (true, ts)) (g5 : hcells H M gM = some (true, ms)) (hmb : mb i = H.length) (hx : s.txt i = x) (hz : ∀ k, s.mrk i k = 0) :
    RefAt ((((H.set T (.cells (gT + 1) true (ts ++ [.str x]))).set p c1).set M (.cells (gM + 1) true (ms ++ [.sl (.at H.length 0 0) 4 4 0]))).set p
      (.cells 0 true [.int .i64 s.a, .int .i64 s.b, .bool s.fz, .sl (.at T (gT + 1) 0) (i + 1) (i + 1) 1, .sl (.at M (gM + 1) 0) (i + 1) (i + 1) 1]) ++ [.cells 0 true [.int .i64 0, .int .i64 0, .int .i64 0, .int .i64 0]]) p T M mb (i + 1) s := by
  obtain ⟨⟨gT', gM', ts', ms', f1, f2, f3, f4, f5, f6, f7⟩, f8, f9, f10, f11, f12, f13⟩ := hr
  rw [g1] at f1
  simp only [Option.some.injEq,Prod.mk.injEq,List.cons.injEq,V.sl.injEq,SA.at.injEq,true_and,and_true] at f1
  obtain ⟨rfl, rfl⟩ := f1
  rw [g2] at f2
  rw [g5] at f5
  simp only [Option.some.injEq,Prod.mk.injEq,true_and] at f2 f5
  subst f2 f5
  have hp := hcells_lt g1
  have hT := hcells_lt g2
  have hM := hcells_lt g5
  refine ⟨⟨gT + 1, gM + 1, ts ++ [.str x], ms ++ [.sl (.at H.length 0 0) 4 4 0], ?_, ?_, by simp [f3], fun j hj => ?_, ?_, by simp [f6], fun j hj => ?_⟩, fun j hj => ?_, f9, f10, f11, fun j hj => ?_, fun j k hj hk he => ?_⟩
  · rw [hcells_app (by simpa using hp), hcells_set_eq (by simpa using hp)]
  · rw [hcells_app (by simpa using hT), hcells_set_ne (Ne.symm f9), hcells_set_ne f11, hcells_set_ne (Ne.symm f9), hcells_set_eq hT]
  · by_cases e : j < i
    · rw [List.getElem?_append_left (by omega)]; exact f4 j e
    · obtain rfl : j = i := by omega
      rw [List.getElem?_append_right (by omega), f3, Nat.sub_self, hx]; rfl
  · rw [hcells_app (by simpa using hM), hcells_set_ne (Ne.symm f10), hcells_set_eq (by simpa using hM)]
  · by_cases e : j < i
    · rw [List.getElem?_append_left (by omega)]; exact f7 j e
    · obtain rfl : j = i := by omega
      rw [List.getElem?_append_right (by omega), f6, Nat.sub_self, hmb]; rfl
  · by_cases e : j < i
    · obtain ⟨q, q1, q2, q3⟩ := f8 j e
      obtain ⟨a1, a2, a3⟩ := f12 j e
      refine ⟨q, ?_, q2, q3⟩
      rw [hcells_app (by simpa using hcells_lt q1), hcells_set_ne a1, hcells_set_ne a3, hcells_set_ne a1, hcells_set_ne a2]; exact q1
    · obtain rfl : j = i := by omega
      refine ⟨[.int .i64 0, .int .i64 0, .int .i64 0, .int .i64 0], ?_, rfl, fun k hk => ?_⟩
      · rw [hmb, hcells_ge (by simp)]
        simp only [List.length_set,Nat.sub_self]
        exact grd_t rfl _
      · rw [hz k]
        match k, hk with
        | 0, _ => rfl
        | 1, _ => rfl
        | 2, _ => rfl
        | 3, _ => rfl
  · by_cases e : j < i
    · exact f12 j e
    · obtain rfl : j = i := by omega
      rw [hmb]; omega
  · by_cases e : j < i
    · by_cases e' : k < i
      · exact f13 j k e e' he
      · obtain rfl : k = i := by omega
        obtain ⟨q, q1, _⟩ := f8 j e
        have := hcells_lt q1
        rw [hmb] at he; omega
    · obtain rfl : j = i := by omega
      by_cases e' : k < j
      · obtain ⟨q, q1, _⟩ := f8 k e'
        have := hcells_lt q1
        rw [hmb] at he; omega
      · omega
theorem refNew_at {a b : Int} (h0 : 0 <= a) (hab : a < b) (hb : b <= 256) (h : Heap) :
    Ev.Ok (D X (.fn 57 []) [.agg [.int .i64 a, .int .i64 b]] h) fun y => ∃ h', y = (.ptr h.length 0 0, h') /\ Keeps [] h h' /\ RefAt h' h.length (h.length + 1) (h.length + 3) (mbOf h.length) (b - a).toNat (emptySto a b) := by
  refine Ok.aim fun Q hQ => ?_
  have hQ' := Hid.mk hQ
  clear hQ
  (refine Ok.body body57 pin57 ?_; simp only [c57,Try.f57,Option.getD_some,nslot57,List.append_nil,List.map,List.replicate,List.length_cons,List.length_nil,Nat.reduceAdd,Nat.reduceSub,List.cons_append,List.nil_append])
  (repeat' (first | (simp -implicitDefEqProofs (maxSteps := 1000000) (disch := first | assumption | omega | (simp only [ZDI]; omega)) only [*,reps_s,G57,Za,Zb,Zc,Zd,Ze,Zf,Zg,Zh,Zi,Zj,Zk,Zl,Zm,Zn,Zo,Ja,Jb,Jc,J6,Jd,Je,J7,J8,Jf,Jg,Jh,Ji,Jj,Jk,J9,Jl,Jm,wr,Jn,JA,JB,Jo,Jp,Jq,Jr,Js,Jt,Ju,Jv,Jw,Jx,Jy,Jz,J0,J1,J2,J3,J4,J5,reduceCtorEq,JC,JD,JE,JF,JG,JH,JI,JJ]) | ((with_reducible (first | apply Ok.br | apply Ok.gd | apply Ok.ld)) <;> (intro g; (try simp only [ZGS] at g); try (exfalso; omega)))))
  (refine Ok.unroll ?_; (repeat' (first | (simp -implicitDefEqProofs (maxSteps := 1000000) (disch := first | assumption | omega | (simp only [ZDI]; omega)) only [*,reps_s,G57,Za,Zb,Zc,Zd,Ze,Zf,Zg,Zh,Zi,Zj,Zk,Zl,Zm,Zn,Zo,Ja,Jb,Jc,J6,Jd,Je,J7,J8,Jf,Jg,Jh,Ji,Jj,Jk,J9,Jl,Jm,wr,Jn,JA,JB,Jo,Jp,Jq,Jr,Js,Jt,Ju,Jv,Jw,Jx,Jy,Jz,J0,J1,J2,J3,J4,J5,reduceCtorEq,JC,JD,JE,JF,JG,JH,JI,JJ]) | ((with_reducible (first | apply Ok.br | apply Ok.gd | apply Ok.ld)) <;> (intro g; (try simp only [ZGS] at g); try (exfalso; omega))))))
  refine Ok.loop [BF, BF, BF, BF, BT, BF, BF, BF, BF, BF, BT, BT, BT, BT, BT, BT, BT, BT, BT, BT, BT, BT, BT, BT, BT, BT, BT, BT, BT, BT, BT, BT, BT, BT, BT, BF] (fun n s => ∃ i : Nat, n = (b - a).toNat - i /\ 1 <= i /\ i <= (b - a).toNat /\ tv s.e 4 = .v (.int .i64 (a + i)) /\ (∃ x1 x2, s.l = [(1, [.int .i64 a, .int .i64 b]), x1, x2]) /\ Keeps [] h s.h /\ s.h.length = h.length + 3 + i /\ RefAt s.h h.length (h.length + 1) (h.length + 3) (mbOf h.length) i (emptySto a b))
    (fun x s => x = .exit 0 /\ (∃ x1 x2, s.l = [(1, [.int .i64 a, .int .i64 b]), x1, x2]) /\ Keeps [] h s.h /\ RefAt s.h h.length (h.length + 1) (h.length + 3) (mbOf h.length) (b - a).toNat (emptySto a b)) ((b - a).toNat - 1) ⟨1, rfl, by omega, by omega, rfl, ⟨_, _, rfl⟩, .app _ _ _, by simp, ?_⟩ ?_ ?_
  · refine ⟨⟨0, 0, [.str ⟨#[]⟩], [.sl (.at (h.length + 2) 0 0) 4 4 0], ?_, ?_, rfl, ?_, ?_, rfl, ?_⟩, ?_, by omega, by omega, by omega, ?_, ?_⟩
    · dsimp only; rw [hcells_ge (by omega)]; simp only [Nat.sub_self,Nat.add_sub_cancel_left]; exact grd_t rfl _
    · dsimp only; rw [hcells_ge (by omega)]; simp only [Nat.sub_self,Nat.add_sub_cancel_left]; exact grd_t rfl _
    · intro i hi; obtain rfl : i = 0 := by omega
      rfl
    · dsimp only; rw [hcells_ge (by omega)]; simp only [Nat.sub_self,Nat.add_sub_cancel_left]; exact grd_t rfl _
    · intro i hi; obtain rfl : i = 0 := by omega
      rfl
    · intro i hi; obtain rfl : i = 0 := by omega
      refine ⟨[.int .i64 0, .int .i64 0, .int .i64 0, .int .i64 0], ?_, rfl, fun k hk => ?_⟩
      · rw [show mbOf h.length 0 = h.length + 2 from rfl]
        dsimp only; rw [hcells_ge (by omega)]; simp only [Nat.sub_self,Nat.add_sub_cancel_left]; exact grd_t rfl _
      · match k, hk with
        | 0, _ => rfl
        | 1, _ => rfl
        | 2, _ => rfl
        | 3, _ => rfl
    · intro i hi; obtain rfl : i = 0 := by omega
      rw [show mbOf h.length 0 = h.length + 2 from rfl]
      omega
    · intro i j hi hj _; omega
  · intro n ⟨e', l', H⟩ hW ⟨i, hn, hi1, hi, h4, ⟨x1, x2, h2⟩, hk, hlen, hr⟩
    dsimp only at hW h4 h2 hk hlen hr
    subst l'
    rw [hW.spread]
    simp only [spread_t,spread_f,spread_n,Nat.zero_add,Nat.reduceAdd,h4]
    by_cases hlt : i < (b - a).toNat
    · have hlt' : a + (i : Int) < b := by omega
      obtain ⟨⟨gT, gM, ts, ms, g1, g2, g3, g4, g5, g6, g7⟩, g8, g9, g10, g11, g12, g13⟩ := id hr
      have hr' := Hid.mk hr
      have hk' := Hid.mk hk
      have hlen' := Hid.mk hlen
      have t1 : h.length < H.length := by omega
      have t2 : h.length + 1 < H.length := by omega
      have t3 : h.length + 3 < H.length := by omega
      have e5 : ¬ i + 1 <= i := by omega
      have e6 : ts.take i = ts := List.take_of_length_le (by omega)
      have e7 : ms.take i = ms := List.take_of_length_le (by omega)
      obtain ⟨k1, y1⟩ := x1
      obtain ⟨k2, y2⟩ := x2
      clear hr hk hlen g4 g7 g8 g12 g13 hlt
      (repeat' (first | (simp -implicitDefEqProofs (maxSteps := 1000000) (disch := first | assumption | omega | (simp only [ZDI]; omega)) only [*,reps_s,G57,Za,Zb,Zc,Zd,Ze,Zf,Zg,Zh,Zi,Zj,Zk,Zl,Zm,Zn,Zo,Ja,Jb,Jc,J6,Jd,Je,J7,J8,Jf,Jg,Jh,Ji,Jj,Jk,J9,Jl,Jm,wr,Jn,JA,JB,Jo,Jp,Jq,Jr,Js,Jt,Ju,Jv,Jw,Jx,Jy,Jz,J0,J1,J2,J3,J4,J5,reduceCtorEq,JC,JD,JE,JF,JG,JH,JI,JJ]) | ((with_reducible (first | apply Ok.br | apply Ok.gd | apply Ok.ld)) <;> (intro g; (try simp only [ZGS] at g); try (exfalso; omega)))))
      have hmb : mbOf h.length i = H.length := by rw [hlen'.out]; unfold mbOf; rw [if_neg (by omega)]
      refine Turn.next ((b - a).toNat - (i + 1)) (by omega) ⟨rfl, i + 1, rfl, by omega, by omega, by show TV.v (.int .i64 (a + i + 1)) = .v (.int .i64 (a + ((i + 1 : Nat) : Int))); congr 2; omega, ⟨_, _, rfl⟩, ?_, ?_, ?_⟩
      · exact hk'.out.wide (G := [h.length, h.length + 1, h.length + 3]) (((((Keeps.set (.refl _ _) (.inl (by simp)) _).set (.inl (by simp)) _).set (.inl (by simp)) _).set (.inl (by simp)) _).snoc _) (fun j hj hlt => by simp at hj; omega)
      · simp only [List.length_append,List.length_set,List.length_cons,List.length_nil]; rw [hlen'.out]; omega
      · exact refGrow hr'.out g1 g2 g5 hmb rfl (fun _ => rfl)
    · have hlt' : ¬ a + (i : Int) < b := by omega
      obtain rfl : i = (b - a).toNat := by omega
      have hr' := Hid.mk hr
      have hk' := Hid.mk hk
      clear hr hk hlen
      (repeat' (first | (simp -implicitDefEqProofs (maxSteps := 1000000) (disch := first | assumption | omega | (simp only [ZDI]; omega)) only [*,reps_s,G57,Za,Zb,Zc,Zd,Ze,Zf,Zg,Zh,Zi,Zj,Zk,Zl,Zm,Zn,Zo,Ja,Jb,Jc,J6,Jd,Je,J7,J8,Jf,Jg,Jh,Ji,Jj,Jk,J9,Jl,Jm,wr,Jn,JA,JB,Jo,Jp,Jq,Jr,Js,Jt,Ju,Jv,Jw,Jx,Jy,Jz,J0,J1,J2,J3,J4,J5,reduceCtorEq,JC,JD,JE,JF,JG,JH,JI,JJ]) | ((with_reducible (first | apply Ok.br | apply Ok.gd | apply Ok.ld)) <;> (intro g; (try simp only [ZGS] at g); try (exfalso; omega)))))
      exact Turn.exit ⟨rfl, rfl, ⟨_, _, rfl⟩, hk'.out, hr'.out⟩
  · intro x ⟨e', l', H⟩ hW ⟨hx, ⟨x1, x2, h2⟩, hk, hr⟩
    dsimp only at hW h2 hk hr
    subst l' hx
    rw [hW.spread]
    clear hW
    simp only [spread_t,spread_f,spread_n,Nat.zero_add,Nat.reduceAdd]
    have hr' := Hid.mk hr
    have hk' := Hid.mk hk
    clear hr hk
    (repeat' (first | (simp -implicitDefEqProofs (maxSteps := 1000000) (disch := first | assumption | omega | (simp only [ZDI]; omega)) only [*,reps_s,G57,Za,Zb,Zc,Zd,Ze,Zf,Zg,Zh,Zi,Zj,Zk,Zl,Zm,Zn,Zo,Ja,Jb,Jc,J6,Jd,Je,J7,J8,Jf,Jg,Jh,Ji,Jj,Jk,J9,Jl,Jm,wr,Jn,JA,JB,Jo,Jp,Jq,Jr,Js,Jt,Ju,Jv,Jw,Jx,Jy,Jz,J0,J1,J2,J3,J4,J5,reduceCtorEq,JC,JD,JE,JF,JG,JH,JI,JJ]) | ((with_reducible (first | apply Ok.br | apply Ok.gd | apply Ok.ld)) <;> (intro g; (try simp only [ZGS] at g); try (exfalso; omega)))))
    exact hQ'.out _ ⟨_, rfl, hk'.out, hr'.out⟩
end Go.Ev
set_option maxRecDepth 100000
namespace Go.Ev
open Go.Ev renaming exPure -> Ja, ofValue -> Jb, cellsV -> Jc, load -> Jd, store -> Je, binOp -> Jf, intOp -> Jg, rdV -> Jh, vsame -> Ji, vsames -> Jj, makeSliceV -> Jk, resV -> Jl, isCell -> Jm, nilCheckV -> Jn, allV -> Jo, builtinV -> Jp, lenV -> Jq, indexAddrV -> Jr, unOp -> Js, minmaxV -> Jt, minmax -> Ju, sliceV -> Jv, asInt -> Jw, appendV -> Jx, forkB -> Jy, roY -> Jz, rwB -> J0, copyV -> J1, clearV -> J2, convV -> J3, sliceCells -> J4, shift -> J5
open Bool renaming true -> BT, false -> BF
open Nat renaming reduceEqDiff -> J6, reduceLT -> J7, reduceAdd -> J8, reduceBEq -> J9, reduceSub -> JA, reduceMul -> JB, reduceLeDiff -> JJ
open Int renaming reduceLT -> JC, reduceLE -> JD, reduceAdd -> JE, reduceSub -> JF, reduceNeg -> JG, reduceToNat -> JH, reduceEq -> JI
open Go.Proofs
theorem refPut {H : Heap} {p T M : Nat} {mb : Nat -> Nat} {n : Nat} {s : Sto} (hr : RefAt H p T M mb n s) {gT : Nat} {ts q : List V} {k j : Nat} (hk : k < n) (hj : j < 4) {w2 : V}
    (g1 : hcells H p 0 = some (true, [.int .i64 s.a, .int .i64 s.b, .bool s.fz, .sl (.at T gT 0) n n 1, w2])) (g2 : hcells H T gT = some (true, ts)) (g3 : hcells H (mb k) 0 = some (true, q)) (x : ByteArray) (Q : Int) :
    RefAt ((H.set (mb k) (.cells 0 true (q.set j (.int .i64 Q)))).set T (.cells gT true (ts.set k (.str x)))) p T M mb n (s.upd k j x Q) /\
    Keeps (refBlocks p T M mb n) H ((H.set (mb k) (.cells 0 true (q.set j (.int .i64 Q)))).set T (.cells gT true (ts.set k (.str x)))) := by
  obtain ⟨⟨gT', gM', ts', ms', f1, f2, f3, f4, f5, f6, f7⟩, f8, f9, f10, f11, f12, f13⟩ := hr
  rw [g1] at f1
  simp only [Option.some.injEq,Prod.mk.injEq,List.cons.injEq,V.sl.injEq,SA.at.injEq,true_and,and_true] at f1
  obtain ⟨rfl, rfl⟩ := f1
  rw [g2] at f2
  simp only [Option.some.injEq,Prod.mk.injEq,true_and] at f2
  subst f2
  have hT := hcells_lt g2
  have hb := hcells_lt g3
  obtain ⟨a1, a2, a3⟩ := f12 k hk
  refine ⟨⟨⟨gT, gM', ts.set k (.str x), ms', ?_, ?_, by simp [f3], fun i hi => ?_, ?_, f6, f7⟩, fun i hi => ?_, f9, f10, f11, f12, f13⟩, ?_⟩
  · rw [hcells_set_ne f9, hcells_set_ne (Ne.symm a1)]; exact g1
  · rw [hcells_set_eq (by simpa using hT)]
  · show _ = some (V.str (ite _ _ _))
    by_cases e : i = k
    · subst e
      rw [List.getElem?_set_self (by omega), if_pos rfl]
    · rw [List.getElem?_set_ne (Ne.symm e), if_neg e]; exact f4 i hi
  · rw [hcells_set_ne (Ne.symm f11), hcells_set_ne (Ne.symm a3)]; exact f5
  · obtain ⟨q', q1, q2, q3⟩ := f8 i hi
    by_cases e : i = k
    · subst e
      rw [g3] at q1
      simp only [Option.some.injEq,Prod.mk.injEq,true_and] at q1
      subst q1
      refine ⟨q.set j (.int .i64 Q), ?_, by simp [q2], fun k' hk' => ?_⟩
      · rw [hcells_set_ne a2, hcells_set_eq hb]
      · show _ = some (V.int .i64 (ite _ _ _))
        by_cases e2 : k' = j
        · subst e2
          rw [List.getElem?_set_self (by omega), if_pos ⟨rfl, rfl⟩]
        · rw [List.getElem?_set_ne (Ne.symm e2), if_neg fun h => e2 h.2]; exact q3 k' hk'
    · refine ⟨q', ?_, q2, fun k' hk' => ?_⟩
      · rw [hcells_set_ne (f12 i hi).2.1, hcells_set_ne fun h => e (f13 i k hi hk h)]; exact q1
      · show _ = some (V.int .i64 (ite _ _ _))
        rw [if_neg fun h => e h.1]; exact q3 k' hk'
  · exact (Keeps.set (.refl _ _) (.inl (mem_refBlocks.2 (.inr (.inr (.inr ⟨k, hk, rfl⟩))))) _).set (.inl (mem_refBlocks.2 (.inr (.inl rfl)))) _
theorem refFreeze {H : Heap} {p T M : Nat} {mb : Nat -> Nat} {n : Nat} {s : Sto} (hr : RefAt H p T M mb n s) {gT gM : Nat}
    (g1 : hcells H p 0 = some (true, [.int .i64 s.a, .int .i64 s.b, .bool s.fz, .sl (.at T gT 0) n n 1, .sl (.at M gM 0) n n 1])) :
    RefAt (H.set p (.cells 0 true [.int .i64 s.a, .int .i64 s.b, .bool true, .sl (.at T gT 0) n n 1, .sl (.at M gM 0) n n 1])) p T M mb n { s with fz := true } := by
  obtain ⟨⟨gT', gM', ts', ms', f1, f2, f3, f4, f5, f6, f7⟩, f8, f9, f10, f11, f12, f13⟩ := hr
  rw [g1] at f1
  simp only [Option.some.injEq,Prod.mk.injEq,List.cons.injEq,V.sl.injEq,SA.at.injEq,true_and,and_true] at f1
  obtain ⟨rfl, rfl⟩ := f1
  refine ⟨⟨gT, gM, ts', ms', hcells_set_eq (hcells_lt g1), ?_, f3, f4, ?_, f6, f7⟩, fun i hi => ?_, f9, f10, f11, f12, f13⟩
  · rw [hcells_set_ne (Ne.symm f9)]; exact f2
  · rw [hcells_set_ne (Ne.symm f10)]; exact f5
  · obtain ⟨q, q1, q2⟩ := f8 i hi
    exact ⟨q, by rw [hcells_set_ne (f12 i hi).1]; exact q1, q2⟩
theorem RefAt.lt {H : Heap} {p T M : Nat} {mb : Nat -> Nat} {n : Nat} {s : Sto} (hr : RefAt H p T M mb n s) : ∀ j ∈ refBlocks p T M mb n, j < H.length := by
  obtain ⟨⟨gT, gM, ts, ms, f1, f2, f3, f4, f5, f6, f7⟩, f8, _⟩ := hr
  intro j hj
  rcases mem_refBlocks.1 hj with rfl | rfl | rfl | ⟨i, hi, rfl⟩
  · exact hcells_lt f1
  · exact hcells_lt f2
  · exact hcells_lt f5
  · obtain ⟨q, q1, _⟩ := f8 i hi
    exact hcells_lt q1
def AppliedR (h : Heap) (p T M : Nat) (mb : Nat -> Nat) (n : Nat) (R : Sto × Bool × List ByteArray × Int) (y : V × Heap) : Prop :=
  ∃ h' dv, y = (.tup [.agg [.bool R.2.1, dv], .int .i64 R.2.2.2], h') /\ RefAt h' p T M mb n R.1 /\ Keeps (refBlocks p T M mb n) h h' /\ DataAt h' dv R.2.2.1 h.length
set_option maxHeartbeats 4000000 in
theorem refApply_at {h : Heap} {p T M : Nat} {mb : Nat -> Nat} {s : Sto} {o c q f t : Int} {v : V} {l : List ByteArray} (hs : RefAt h p T M mb s.n s) (hok : s.Ok) (hv : StrsAt h v l) (hva : l ≠ [] -> Away (refBlocks p T M mb s.n) v) :
    Ev.Ok (D X (.fn 58 []) [.ptr p 0 0, .agg (cmdV o c q f t v)] h) (AppliedR h p T M mb s.n (s.apply o c q f t l)) := by
  refine Ok.aim fun Q hQ => ?_
  have hm := rMay_at (o := o) (c := c) (q := q) (f := f) (t := t) hv
  obtain ⟨sa, vcap, vz, ev, _⟩ := id hv
  have hs' := Hid.mk hs
  have hv' := Hid.mk hv
  obtain ⟨⟨gT, gM, ts, ms, g1, g2, g3, g4, g5, g6, g7⟩, g8, g9, g10, g11, g12, g13⟩ := hs
  clear g4 g7 g8 g12 g13
  simp only [cmdV]
  by_cases hmay : mayP o c q f t l
  · rw [decide_eq_true hmay] at hm
    by_cases hr : (1 <= o /\ o <= 4) /\ (f < s.a \/ s.b < t)
    · have e : s.apply o c q f t l = (s, false, [], 9) := by
        unfold Sto.apply; rw [if_neg (by simpa using hmay), if_pos hr]
      rw [e] at hQ
      have hQ' := Hid.mk hQ
      clear hQ e hv
      obtain ⟨⟨ho1, ho4⟩, hft⟩ := hr
      subst ev
      (refine Ok.body body58 pin58 ?_; simp only [c58,Try.f58,Option.getD_some,nslot58,List.append_nil,List.map,List.replicate,List.length_cons,List.length_nil,Nat.reduceAdd,Nat.reduceSub,List.cons_append,List.nil_append])
      (repeat' (first | (simp -implicitDefEqProofs (maxSteps := 1000000) (disch := first | assumption | omega | (simp only [ZDI]; omega)) only [*,G58,Za,Zb,Zc,Zd,Ze,Zf,Zg,Zh,Zi,Zj,Zk,Zl,Zm,Zn,Zo,Ja,Jb,Jc,J6,Jd,Je,J7,J8,Jf,Jg,Jh,Ji,Jj,Jk,J9,Jl,Jm,wr,Jn,JA,JB,Jo,Jp,Jq,Jr,Js,Jt,Ju,Jv,Jw,Jx,Jy,Jz,J0,J1,J2,J3,J4,J5,reduceCtorEq,JC,JD,JE,JF,JG,JH,JI,JJ]) | ((with_reducible (first | apply Ok.br | apply Ok.gd | apply Ok.ld)) <;> (intro g; (try simp only [ZGS] at g); try (exfalso; omega)))))
      all_goals exact hQ'.out _ ⟨_, _, rfl, hs'.out, .refl _ _, .inl ⟨rfl, rfl⟩⟩
    · have hr' : ¬ 1 <= o \/ ¬ o <= 4 \/ (¬ f < s.a /\ ¬ s.b < t) := by omega
      by_cases hz : s.fz = true \/ o = 0
      · have e : s.apply o c q f t l = (s, false, [], 0) := by
          unfold Sto.apply; rw [if_neg (by simpa using hmay), if_neg hr, if_pos hz]
        rw [e] at hQ
        have hQ' := Hid.mk hQ
        clear hQ e hv hr
        subst ev
        generalize hfz : s.fz = fz at g1 hz
        have hfz' := Hid.mk hfz
        clear hfz
        rcases hr' with hr' | hr' | ⟨hr', hr2⟩ <;> rcases hz with rfl | rfl
        all_goals
          (refine Ok.body body58 pin58 ?_; simp only [c58,Try.f58,Option.getD_some,nslot58,List.append_nil,List.map,List.replicate,List.length_cons,List.length_nil,Nat.reduceAdd,Nat.reduceSub,List.cons_append,List.nil_append])
          (repeat' (first | (simp -implicitDefEqProofs (maxSteps := 1000000) (disch := first | assumption | omega | (simp only [ZDI]; omega)) only [*,G58,Za,Zb,Zc,Zd,Ze,Zf,Zg,Zh,Zi,Zj,Zk,Zl,Zm,Zn,Zo,Ja,Jb,Jc,J6,Jd,Je,J7,J8,Jf,Jg,Jh,Ji,Jj,Jk,J9,Jl,Jm,wr,Jn,JA,JB,Jo,Jp,Jq,Jr,Js,Jt,Ju,Jv,Jw,Jx,Jy,Jz,J0,J1,J2,J3,J4,J5,reduceCtorEq,JC,JD,JE,JF,JG,JH,JI,JJ]) | ((with_reducible (first | apply Ok.br | apply Ok.gd | apply Ok.ld)) <;> (intro g; (try simp only [ZGS] at g); try (exfalso; omega)))))
          all_goals exact hQ'.out _ ⟨_, _, rfl, hs'.out, .refl _ _, .inl ⟨rfl, rfl⟩⟩
      · have hfz : s.fz = false := by simpa using fun h' => hz (.inl h')
        have ho0 : ¬ o = 0 := fun h' => hz (.inr h')
        by_cases o5 : o = 5
        · subst o5
          have hmz : c = 0 /\ q = 0 /\ f = 0 /\ t = 0 := by
            unfold mayP at hmay
            omega
          obtain ⟨rfl, rfl, rfl, rfl⟩ := hmz
          have e : s.apply 5 0 0 0 0 l = ({ s with fz := true }, true, [], 0) := by
            unfold Sto.apply; rw [if_neg (by simpa using hmay), if_neg hr, if_neg hz, if_pos rfl]
          rw [e] at hQ
          have hQ' := Hid.mk hQ
          clear hQ e hv hz hr hr'
          subst ev
          have hpl := hcells_lt g1
          (refine Ok.body body58 pin58 ?_; simp only [c58,Try.f58,Option.getD_some,nslot58,List.append_nil,List.map,List.replicate,List.length_cons,List.length_nil,Nat.reduceAdd,Nat.reduceSub,List.cons_append,List.nil_append])
          (repeat' (first | (simp -implicitDefEqProofs (maxSteps := 1000000) (disch := first | assumption | omega | (simp only [ZDI]; omega)) only [*,G58,Za,Zb,Zc,Zd,Ze,Zf,Zg,Zh,Zi,Zj,Zk,Zl,Zm,Zn,Zo,Ja,Jb,Jc,J6,Jd,Je,J7,J8,Jf,Jg,Jh,Ji,Jj,Jk,J9,Jl,Jm,wr,Jn,JA,JB,Jo,Jp,Jq,Jr,Js,Jt,Ju,Jv,Jw,Jx,Jy,Jz,J0,J1,J2,J3,J4,J5,reduceCtorEq,JC,JD,JE,JF,JG,JH,JI,JJ]) | ((with_reducible (first | apply Ok.br | apply Ok.gd | apply Ok.ld)) <;> (intro g; (try simp only [ZGS] at g); try (exfalso; omega)))))
          (refine Ok.unroll ?_; (repeat' (first | (simp -implicitDefEqProofs (maxSteps := 1000000) (disch := first | assumption | omega | (simp only [ZDI]; omega)) only [*,G58,Za,Zb,Zc,Zd,Ze,Zf,Zg,Zh,Zi,Zj,Zk,Zl,Zm,Zn,Zo,Ja,Jb,Jc,J6,Jd,Je,J7,J8,Jf,Jg,Jh,Ji,Jj,Jk,J9,Jl,Jm,wr,Jn,JA,JB,Jo,Jp,Jq,Jr,Js,Jt,Ju,Jv,Jw,Jx,Jy,Jz,J0,J1,J2,J3,J4,J5,reduceCtorEq,JC,JD,JE,JF,JG,JH,JI,JJ]) | ((with_reducible (first | apply Ok.br | apply Ok.gd | apply Ok.ld)) <;> (intro g; (try simp only [ZGS] at g); try (exfalso; omega))))))
          exact hQ'.out _ ⟨_, _, rfl, refFreeze hs'.out g1, (Keeps.refl _ _).set (.inl (mem_refBlocks.2 (.inl rfl))) _, .inl ⟨rfl, rfl⟩⟩
        · have ho : 1 <= o /\ o <= 4 := by
            unfold mayP at hmay
            omega
          have hmr : (0 <= c /\ c <= 3) /\ (1 <= q /\ q <= 1099511627776) /\ (0 <= f /\ f < t /\ t <= 256 /\ t - f <= 16) /\ (o = 2 -> (l.length : Int) = t - f) := by
            unfold mayP at hmay
            rcases hmay with h' | h'
            · omega
            · refine ⟨h'.2.1, h'.2.2.1, h'.2.2.2.1, fun e => ?_⟩
              rcases h'.2.2.2.2 with h2 | h2
              · exact absurd e h2.1
              · exact h2.2.1
          obtain ⟨⟨hc0, hc4⟩, hq, ⟨hf0, hft, ht2, ht16⟩, hlen⟩ := hmr
          have e : s.apply o c q f t l = (s.to o c q f t l, true, s.data o f t, 0) := by
            unfold Sto.apply; rw [if_neg (by simpa using hmay), if_neg hr, if_neg hz, if_neg o5]
          rw [e] at hQ
          have hQ' := Hid.mk hQ
          obtain ⟨ho1, ho4⟩ := ho
          have hfa : ¬ f < s.a := by omega
          have htb : ¬ s.b < t := by omega
          clear hQ e hv hz hr hr' hmay
          subst ev
          have hlen' := Hid.mk hlen
          clear hlen
          (refine Ok.body body58 pin58 ?_; simp only [c58,Try.f58,Option.getD_some,nslot58,List.append_nil,List.map,List.replicate,List.length_cons,List.length_nil,Nat.reduceAdd,Nat.reduceSub,List.cons_append,List.nil_append])
          (repeat' (first | (simp -implicitDefEqProofs (maxSteps := 1000000) (disch := first | assumption | omega | (simp only [ZDI]; omega)) only [*,G58,Za,Zb,Zc,Zd,Ze,Zf,Zg,Zh,Zi,Zj,Zk,Zl,Zm,Zn,Zo,Ja,Jb,Jc,J6,Jd,Je,J7,J8,Jf,Jg,Jh,Ji,Jj,Jk,J9,Jl,Jm,wr,Jn,JA,JB,Jo,Jp,Jq,Jr,Js,Jt,Ju,Jv,Jw,Jx,Jy,Jz,J0,J1,J2,J3,J4,J5,reduceCtorEq,JC,JD,JE,JF,JG,JH,JI,JJ]) | ((with_reducible (first | apply Ok.br | apply Ok.gd | apply Ok.ld)) <;> (intro g; (try simp only [ZGS] at g); try (exfalso; omega)))))
          refine Ok.loop [BF, BF, BF, BF, BF, BF, BF, BF, BT, BT, BF, BF, BF, BF, BF, BF, BF, BF, BF, BF, BF, BF, BF, BF, BF, BF, BF, BF, BF, BF, BF, BF, BF, BF, BF, BF, BF, BF, BF, BF, BF, BF, BF, BF, BF, BF, BF, BF, BF, BF, BF, BF, BF, BF, BF, BF, BF, BF, BF, BF, BF, BT, BT, BT, BT, BT, BT, BT, BT, BT, BT, BT, BT, BT, BT, BT, BT, BT, BT, BT, BT, BT, BT, BT, BT, BT, BT, BT, BT, BT, BT, BT, BT, BT, BT, BT, BT, BT, BT, BT, BT, BT, BT, BT, BT, BT, BT, BT, BT, BT, BT, BT, BT, BT, BT, BT, BT, BT, BT, BT, BT, BT, BT, BT, BT, BT, BT, BT, BT, BT, BT, BT, BT, BT, BT, BT, BT, BT, BT, BT, BT, BT, BT, BT, BT, BT, BT, BT, BT, BT, BT, BT, BT, BT, BF] (fun n s2 => ∃ i : Nat, n = (t - f).toNat - i /\ i <= (t - f).toNat /\ tv s2.e 8 = .v (.int .i64 i) /\ (∃ dv x4, s2.l = [(1, [.int .i64 o, .int .i64 c, .int .i64 q, .int .i64 f, .int .i64 t, .sl sa l.length vcap vz]), (1, [.bool false, .sl .nil 0 0 0]), (1, [.bool true, dv]), x4] /\ DataAt s2.h dv (s.data o f (f + i)) h.length) /\ Keeps (refBlocks p T M mb s.n) h s2.h /\ RefAt s2.h p T M mb s.n (s.to o c q f (f + i) l))
            (fun x s2 => x = .exit 0 /\ (∃ dv x4, s2.l = [(1, [.int .i64 o, .int .i64 c, .int .i64 q, .int .i64 f, .int .i64 t, .sl sa l.length vcap vz]), (1, [.bool false, .sl .nil 0 0 0]), (1, [.bool true, dv]), x4] /\ DataAt s2.h dv (s.data o f t) h.length) /\ Keeps (refBlocks p T M mb s.n) h s2.h /\ RefAt s2.h p T M mb s.n (s.to o c q f t l)) ((t - f).toNat - 0)
            ⟨0, rfl, by omega, rfl, ⟨_, _, rfl, .inl ⟨?_, rfl⟩⟩, .refl _ _, ?_⟩ ?_ ?_
          · unfold Sto.data; split <;> simp
          · show RefAt h p T M mb s.n (s.to o c q f (f + 0) l)
            rw [Int.add_zero, Sto.to_start]; exact hs'.out
          · intro n ⟨e', l', H⟩ hW ⟨i, hn, hi, h8, ⟨dv, x4, h2, hd⟩, hk, hra⟩
            dsimp only at hW h8 h2 hd hk hra
            subst l'
            rw [hW.spread]
            simp only [spread_t,spread_f,spread_n,Nat.zero_add,Nat.reduceAdd,h8]
            by_cases hlt : i < (t - f).toNat
            · have hlt' : (i : Int) < t - f := by omega
              have e3 : 0 <= f + (i : Int) - s.a /\ f + (i : Int) - s.a < s.n := by unfold Sto.n; omega
              have hkn : (f + (i : Int) - s.a).toNat < s.n := by omega
              have e10 : f + (i : Int) - s.a <= 256 := by have := hok.h0; omega
              have hsa : (s.to o c q f (f + i) l).a = s.a := rfl
              have hsb : (s.to o c q f (f + i) l).b = s.b := rfl
              have hsz : (s.to o c q f (f + i) l).fz = s.fz := rfl
              have hmk := Sto.to_mrk s (o := o) (c := c) (q := q) (f := f) (m := f + i) l (by omega) c.toNat
              have hk' := Hid.mk hk
              have hra' := Hid.mk hra
              have hd' := Hid.mk hd
              obtain ⟨⟨gT2, gM2, ts2, ms2, r1, r2, r3, r4, r5, r6, r7⟩, r8, r9, r10, r11, r12, r13⟩ := hra
              rw [hsa, hsb, hsz] at r1
              have tT := r4 _ hkn
              have tM := r7 _ hkn
              obtain ⟨qq, q1, q2, q3⟩ := r8 _ hkn
              have tQ := q3 c.toNat (by omega)
              rw [hmk] at tQ
              obtain ⟨a1, a2, a3⟩ := r12 _ hkn
              have e7 : 0 <= c /\ c < ((4 : Nat) : Int) := by omega
              have hic : ((i + 1 : Nat) : Int) = (i : Int) + 1 := by omega
              clear r4 r7 r8 r12 r13 q3 hsa hsb hsz hd hk hmk g1 g2 g3 g5 g6
              have lT := hcells_lt r2
              have lQ := hcells_lt q1
              have hfin : ∀ (H2 : Heap) (s2 : Sto), RefAt H2 p T M mb s.n s2 -> s2 = s.to o c q f (f + ((i + 1 : Nat) : Int)) l -> RefAt H2 p T M mb s.n (s.to o c q f (f + ((i + 1 : Nat) : Int)) l) := fun H2 s2 h1 h2 => h2 ▸ h1
              have hfin' := Hid.mk hfin
              clear hfin
              obtain ⟨k4, y4⟩ := x4
              by_cases o1 : o = 1
              · subst o1
                have e1 : s.to 1 c q f (f + i) l = s := (Sto.to_look s (o := 1) (by omega) c q f (f + i) f l).trans (s.to_start 1 c q f l)
                have e2 : s.to 1 c q f (f + ((i + 1 : Nat) : Int)) l = s := (Sto.to_look s (o := 1) (by omega) c q f (f + ((i + 1 : Nat) : Int)) f l).trans (s.to_start 1 c q f l)
                have hdn : s.data 1 f (f + ((i + 1 : Nat) : Int)) = s.data 1 f (f + i) ++ [s.txt (f + (i : Int) - s.a).toNat] := by
                  rw [show f + ((i + 1 : Nat) : Int) = (f + i) + 1 by omega]
                  exact Sto.data_next s (by omega) (by omega)
                rw [e1] at tT hra'
                have e2' := Hid.mk e2
                have hdn' := Hid.mk hdn
                clear e1 e2 hdn tQ tM hic
                rcases hd'.out with ⟨hd1, rfl⟩ | ⟨db, dg, rfl, hd2, hd3⟩
                · have hd1' := Hid.mk hd1
                  clear hd1
                  (repeat' (first | (simp -implicitDefEqProofs (maxSteps := 1000000) (disch := first | assumption | omega | (simp only [ZDI]; omega)) only [*,G58,Za,Zb,Zc,Zd,Ze,Zf,Zg,Zh,Zi,Zj,Zk,Zl,Zm,Zn,Zo,Ja,Jb,Jc,J6,Jd,Je,J7,J8,Jf,Jg,Jh,Ji,Jj,Jk,J9,Jl,Jm,wr,Jn,JA,JB,Jo,Jp,Jq,Jr,Js,Jt,Ju,Jv,Jw,Jx,Jy,Jz,J0,J1,J2,J3,J4,J5,reduceCtorEq,JC,JD,JE,JF,JG,JH,JI,JJ]) | ((with_reducible (first | apply Ok.br | apply Ok.gd | apply Ok.ld)) <;> (intro g; (try simp only [ZGS] at g); try (exfalso; omega)))))
                  refine Turn.next ((t - f).toNat - (i + 1)) (by omega) ⟨rfl, i + 1, rfl, by omega, rfl, ⟨_, _, rfl, .inr ⟨H.length, 0, ?_, ?_, hk'.out.1⟩⟩, hk'.out.snoc _, ?_⟩
                  · rw [hdn'.out, hd1'.out]; rfl
                  · rw [hdn'.out, hd1'.out, hcells_ge (Nat.le_refl _), Nat.sub_self]; exact grd_t rfl _
                  · rw [e2'.out]; exact hra'.out.keeps (.app [] _ _) (by simp)
                · obtain ⟨dd, hdd, hdl⟩ : ∃ dd, (s.data 1 f (f + i)).map V.str = dd /\ dd.length = (s.data 1 f (f + i)).length := ⟨_, rfl, by simp⟩
                  rw [hdd] at hd2
                  have hdl2 : (s.data 1 f (f + i)).length <= 300 := by simp only [Sto.data,if_true,List.length_map,List.length_range]; omega
                  generalize hdn2 : (s.data 1 f (f + i)).length = dn at hdl hdl2
                  have hdn2' := Hid.mk hdn2
                  have hdd' := Hid.mk hdd
                  have e5 : ¬ dn + 1 <= dn := by omega
                  have e6 : dd.take dn = dd := List.take_of_length_le (by omega)
                  have hdb := hcells_lt hd2
                  have hFd : ∀ j ∈ refBlocks p T M mb s.n, j ≠ db := by
                    intro j hj
                    have := (RefAt.lt hs'.out) j hj
                    omega
                  have hFd' := Hid.mk hFd
                  have hp2 : db ≠ p := Ne.symm (hFd p (mem_refBlocks.2 (.inl rfl)))
                  clear hdd hdn2 hFd
                  (repeat' (first | (simp -implicitDefEqProofs (maxSteps := 1000000) (disch := first | assumption | omega | (simp only [ZDI]; omega)) only [*,G58,Za,Zb,Zc,Zd,Ze,Zf,Zg,Zh,Zi,Zj,Zk,Zl,Zm,Zn,Zo,Ja,Jb,Jc,J6,Jd,Je,J7,J8,Jf,Jg,Jh,Ji,Jj,Jk,J9,Jl,Jm,wr,Jn,JA,JB,Jo,Jp,Jq,Jr,Js,Jt,Ju,Jv,Jw,Jx,Jy,Jz,J0,J1,J2,J3,J4,J5,reduceCtorEq,JC,JD,JE,JF,JG,JH,JI,JJ]) | ((with_reducible (first | apply Ok.br | apply Ok.gd | apply Ok.ld)) <;> (intro g; (try simp only [ZGS] at g); try (exfalso; omega)))))
                  refine Turn.next ((t - f).toNat - (i + 1)) (by omega) ⟨rfl, i + 1, rfl, by omega, rfl, ⟨_, _, rfl, .inr ⟨db, dg + 1, ?_, ?_, hd3⟩⟩, hk'.out.wide (G := [db]) (Keeps.set (.refl _ _) (.inl (by simp)) _) (fun j hj hlt => by simp at hj; omega), ?_⟩
                  · rw [hdn'.out, List.length_append, hdn2'.out]; rfl
                  · rw [hdn'.out, hcells_set_eq hdb, List.map_append, hdd'.out]; rfl
                  · rw [e2'.out]; exact hra'.out.keeps (F := [db]) (Keeps.set (.refl _ _) (.inl (by simp)) _) (fun j hj => by simpa using hFd'.out j hj)
              · have hdo : s.data o f (f + ((i + 1 : Nat) : Int)) = s.data o f (f + i) := data_off o1 _ _ _
                have hdo' := Hid.mk hdo
                clear hdo hic
                by_cases o4 : o = 4
                · subst o4
                  have e2 : s.to 4 c q f (f + i) l = s.to 4 c q f (f + ((i + 1 : Nat) : Int)) l := Sto.to_look s (o := 4) (by omega) c q f _ _ l
                  have e2' := Hid.mk e2
                  clear e2 tQ tM tT
                  (repeat' (first | (simp -implicitDefEqProofs (maxSteps := 1000000) (disch := first | assumption | omega | (simp only [ZDI]; omega)) only [*,G58,Za,Zb,Zc,Zd,Ze,Zf,Zg,Zh,Zi,Zj,Zk,Zl,Zm,Zn,Zo,Ja,Jb,Jc,J6,Jd,Je,J7,J8,Jf,Jg,Jh,Ji,Jj,Jk,J9,Jl,Jm,wr,Jn,JA,JB,Jo,Jp,Jq,Jr,Js,Jt,Ju,Jv,Jw,Jx,Jy,Jz,J0,J1,J2,J3,J4,J5,reduceCtorEq,JC,JD,JE,JF,JG,JH,JI,JJ]) | ((with_reducible (first | apply Ok.br | apply Ok.gd | apply Ok.ld)) <;> (intro g; (try simp only [ZGS] at g); try (exfalso; omega)))))
                  exact Turn.next ((t - f).toNat - (i + 1)) (by omega) ⟨rfl, i + 1, rfl, by omega, rfl, ⟨_, _, rfl, by rw [hdo'.out]; exact hd'.out⟩, hk'.out, hfin'.out _ _ hra'.out e2'.out⟩
                · by_cases hm2 : s.mrk (f + (i : Int) - s.a).toNat c.toNat < q
                  · have e2 : s.to o c q f (f + ((i + 1 : Nat) : Int)) l = (s.to o c q f (f + i) l).upd (f + (i : Int) - s.a).toNat c.toNat (if o = 2 then l.getD (f + (i : Int) - f).toNat ⟨#[]⟩ else ⟨#[]⟩) q := by
                      rw [show f + ((i + 1 : Nat) : Int) = (f + i) + 1 by omega]
                      exact Sto.to_new s l (by omega) (by omega) (by omega) hm2
                    have e2' := Hid.mk e2
                    clear e2
                    have hput := fun x => refPut hra'.out hkn (j := c.toNat) (by omega) r1 r2 q1 x q
                    have hput' := Hid.mk hput
                    clear hput
                    have hTl : (f + (i : Int) - s.a).toNat < ts2.length := by omega
                    have hQl : c.toNat < qq.length := by omega
                    have hkl : h.length <= H.length := hk'.out.1
                    have hFT : ∀ j ∈ refBlocks p T M mb s.n, j < h.length := RefAt.lt hs'.out
                    have hFT' := Hid.mk hFT
                    clear hFT
                    have hoo : o = 2 \/ o = 3 := by omega
                    rcases hoo with rfl | rfl
                    · have hvH := hv'.out.keeps hk'.out hva
                      have hll := hlen'.out rfl
                      obtain ⟨a', cap', z', e9, _, _, hx⟩ := hvH
                      simp only [V.sl.injEq] at e9
                      obtain ⟨rfl, _, _⟩ := e9
                      rcases hx with rfl | ⟨b', g', o', rw', full', rfl, hb, hfull⟩
                      · simp at hll; omega
                      · have hij : i < l.length := by omega
                        have hx1 := hfull i l[i] (List.getElem?_eq_getElem hij)
                        have hgd : l.getD (f + (i : Int) - f).toNat ⟨#[]⟩ = l[i] := by
                          rw [show (f + (i : Int) - f).toNat = i by omega]; simp [List.getD, hij]
                        have hbF : b' ∉ refBlocks p T M mb s.n := hva (by rintro rfl; simp at hij)
                        have hbT : b' ≠ T := fun e => hbF (mem_refBlocks.2 (.inr (.inl e)))
                        have hbm : b' ≠ mb (f + (i : Int) - s.a).toNat := fun e => hbF (mem_refBlocks.2 (.inr (.inr (.inr ⟨_, hkn, e.symm⟩))))
                        have hgd' := Hid.mk hgd
                        have hij' : (i : Int) < (l.length : Int) := by omega
                        clear hgd hfull hbF hva
                        generalize l[i] = x at hx1 hgd'
                        (repeat' (first | (simp -implicitDefEqProofs (maxSteps := 1000000) (disch := first | assumption | omega | (simp only [ZDI]; omega)) only [*,G58,Za,Zb,Zc,Zd,Ze,Zf,Zg,Zh,Zi,Zj,Zk,Zl,Zm,Zn,Zo,Ja,Jb,Jc,J6,Jd,Je,J7,J8,Jf,Jg,Jh,Ji,Jj,Jk,J9,Jl,Jm,wr,Jn,JA,JB,Jo,Jp,Jq,Jr,Js,Jt,Ju,Jv,Jw,Jx,Jy,Jz,J0,J1,J2,J3,J4,J5,reduceCtorEq,JC,JD,JE,JF,JG,JH,JI,JJ]) | ((with_reducible (first | apply Ok.br | apply Ok.gd | apply Ok.ld)) <;> (intro g; (try simp only [ZGS] at g); try (exfalso; omega)))))
                        refine Turn.next ((t - f).toNat - (i + 1)) (by omega) ⟨rfl, i + 1, rfl, by omega, rfl, ⟨_, _, rfl, by rw [hdo'.out]; exact hd'.out.keeps (hput'.out x).2 hFT'.out⟩, hk'.out.trans (hput'.out x).2, hfin'.out _ _ (hput'.out x).1 (by rw [e2'.out, if_pos rfl, hgd'.out])⟩
                    · clear hva
                      (repeat' (first | (simp -implicitDefEqProofs (maxSteps := 1000000) (disch := first | assumption | omega | (simp only [ZDI]; omega)) only [*,G58,Za,Zb,Zc,Zd,Ze,Zf,Zg,Zh,Zi,Zj,Zk,Zl,Zm,Zn,Zo,Ja,Jb,Jc,J6,Jd,Je,J7,J8,Jf,Jg,Jh,Ji,Jj,Jk,J9,Jl,Jm,wr,Jn,JA,JB,Jo,Jp,Jq,Jr,Js,Jt,Ju,Jv,Jw,Jx,Jy,Jz,J0,J1,J2,J3,J4,J5,reduceCtorEq,JC,JD,JE,JF,JG,JH,JI,JJ]) | ((with_reducible (first | apply Ok.br | apply Ok.gd | apply Ok.ld)) <;> (intro g; (try simp only [ZGS] at g); try (exfalso; omega)))))
                      refine Turn.next ((t - f).toNat - (i + 1)) (by omega) ⟨rfl, i + 1, rfl, by omega, rfl, ⟨_, _, rfl, by rw [hdo'.out]; exact hd'.out.keeps (hput'.out ⟨#[]⟩).2 hFT'.out⟩, hk'.out.trans (hput'.out ⟨#[]⟩).2, hfin'.out _ _ (hput'.out ⟨#[]⟩).1 (by rw [e2'.out, if_neg (by omega)])⟩
                  · have e2 : s.to o c q f (f + ((i + 1 : Nat) : Int)) l = s.to o c q f (f + i) l := by
                      rw [show f + ((i + 1 : Nat) : Int) = (f + i) + 1 by omega]
                      exact Sto.to_old s l (by omega) (by omega)
                    have e2' := Hid.mk e2
                    clear e2
                    have hoo : o = 2 \/ o = 3 := by omega
                    rcases hoo with rfl | rfl
                    all_goals
                      (repeat' (first | (simp -implicitDefEqProofs (maxSteps := 1000000) (disch := first | assumption | omega | (simp only [ZDI]; omega)) only [*,G58,Za,Zb,Zc,Zd,Ze,Zf,Zg,Zh,Zi,Zj,Zk,Zl,Zm,Zn,Zo,Ja,Jb,Jc,J6,Jd,Je,J7,J8,Jf,Jg,Jh,Ji,Jj,Jk,J9,Jl,Jm,wr,Jn,JA,JB,Jo,Jp,Jq,Jr,Js,Jt,Ju,Jv,Jw,Jx,Jy,Jz,J0,J1,J2,J3,J4,J5,reduceCtorEq,JC,JD,JE,JF,JG,JH,JI,JJ]) | ((with_reducible (first | apply Ok.br | apply Ok.gd | apply Ok.ld)) <;> (intro g; (try simp only [ZGS] at g); try (exfalso; omega)))))
                      exact Turn.next ((t - f).toNat - (i + 1)) (by omega) ⟨rfl, i + 1, rfl, by omega, rfl, ⟨_, _, rfl, by rw [hdo'.out]; exact hd'.out⟩, hk'.out, hfin'.out _ _ hra'.out e2'.out.symm⟩
            · obtain rfl : i = (t - f).toNat := by omega
              have hlt' : ¬ (((t - f).toNat : Nat) : Int) < t - f := by omega
              rw [show f + (((t - f).toNat : Nat) : Int) = t by omega] at hd hra
              have hd' := Hid.mk hd
              have hk' := Hid.mk hk
              have hra' := Hid.mk hra
              clear hd hk hra hlt hi hn
              (repeat' (first | (simp -implicitDefEqProofs (maxSteps := 1000000) (disch := first | assumption | omega | (simp only [ZDI]; omega)) only [*,G58,Za,Zb,Zc,Zd,Ze,Zf,Zg,Zh,Zi,Zj,Zk,Zl,Zm,Zn,Zo,Ja,Jb,Jc,J6,Jd,Je,J7,J8,Jf,Jg,Jh,Ji,Jj,Jk,J9,Jl,Jm,wr,Jn,JA,JB,Jo,Jp,Jq,Jr,Js,Jt,Ju,Jv,Jw,Jx,Jy,Jz,J0,J1,J2,J3,J4,J5,reduceCtorEq,JC,JD,JE,JF,JG,JH,JI,JJ]) | ((with_reducible (first | apply Ok.br | apply Ok.gd | apply Ok.ld)) <;> (intro g; (try simp only [ZGS] at g); try (exfalso; omega)))))
              exact Turn.exit ⟨rfl, rfl, ⟨_, _, rfl, hd'.out⟩, hk'.out, hra'.out⟩
          · intro x ⟨e', l', H⟩ hW ⟨hx, ⟨dv, x4, h2, hd⟩, hk, hra⟩
            dsimp only at hW h2 hd hk hra
            subst l' hx
            rw [hW.spread]
            clear hW
            simp only [spread_t,spread_f,spread_n,Nat.zero_add,Nat.reduceAdd]
            have hd' := Hid.mk hd
            have hk' := Hid.mk hk
            have hra' := Hid.mk hra
            clear hd hk hra
            (repeat' (first | (simp -implicitDefEqProofs (maxSteps := 1000000) (disch := first | assumption | omega | (simp only [ZDI]; omega)) only [*,G58,Za,Zb,Zc,Zd,Ze,Zf,Zg,Zh,Zi,Zj,Zk,Zl,Zm,Zn,Zo,Ja,Jb,Jc,J6,Jd,Je,J7,J8,Jf,Jg,Jh,Ji,Jj,Jk,J9,Jl,Jm,wr,Jn,JA,JB,Jo,Jp,Jq,Jr,Js,Jt,Ju,Jv,Jw,Jx,Jy,Jz,J0,J1,J2,J3,J4,J5,reduceCtorEq,JC,JD,JE,JF,JG,JH,JI,JJ]) | ((with_reducible (first | apply Ok.br | apply Ok.gd | apply Ok.ld)) <;> (intro g; (try simp only [ZGS] at g); try (exfalso; omega)))))
            exact hQ'.out _ ⟨_, _, rfl, hra'.out, hk'.out, hd'.out⟩
  · rw [decide_eq_false hmay] at hm
    have e : s.apply o c q f t l = (s, false, [], 1) := by
      unfold Sto.apply; rw [if_pos hmay]
    rw [e] at hQ
    have hQ' := Hid.mk hQ
    clear hQ e hv
    subst ev
    (refine Ok.body body58 pin58 ?_; simp only [c58,Try.f58,Option.getD_some,nslot58,List.append_nil,List.map,List.replicate,List.length_cons,List.length_nil,Nat.reduceAdd,Nat.reduceSub,List.cons_append,List.nil_append])
    (repeat' (first | (simp -implicitDefEqProofs (maxSteps := 1000000) (disch := first | assumption | omega | (simp only [ZDI]; omega)) only [*,G58,Za,Zb,Zc,Zd,Ze,Zf,Zg,Zh,Zi,Zj,Zk,Zl,Zm,Zn,Zo,Ja,Jb,Jc,J6,Jd,Je,J7,J8,Jf,Jg,Jh,Ji,Jj,Jk,J9,Jl,Jm,wr,Jn,JA,JB,Jo,Jp,Jq,Jr,Js,Jt,Ju,Jv,Jw,Jx,Jy,Jz,J0,J1,J2,J3,J4,J5,reduceCtorEq,JC,JD,JE,JF,JG,JH,JI,JJ]) | ((with_reducible (first | apply Ok.br | apply Ok.gd | apply Ok.ld)) <;> (intro g; (try simp only [ZGS] at g); try (exfalso; omega)))))
    all_goals exact hQ'.out _ ⟨_, _, rfl, hs'.out, .refl _ _, .inl ⟨rfl, rfl⟩⟩
end Go.Ev
set_option maxRecDepth 100000
namespace Go.Ev
open Go.Ev renaming exPure -> Ja, ofValue -> Jb, cellsV -> Jc, load -> Jd, store -> Je, binOp -> Jf, intOp -> Jg, rdV -> Jh, vsame -> Ji, vsames -> Jj, makeSliceV -> Jk, resV -> Jl, isCell -> Jm, nilCheckV -> Jn, allV -> Jo, builtinV -> Jp, lenV -> Jq, indexAddrV -> Jr, unOp -> Js, minmaxV -> Jt, minmax -> Ju, sliceV -> Jv, asInt -> Jw, appendV -> Jx, forkB -> Jy, roY -> Jz, rwB -> J0, copyV -> J1, clearV -> J2, convV -> J3, sliceCells -> J4, shift -> J5
open Bool renaming true -> BT, false -> BF
open Nat renaming reduceEqDiff -> J6, reduceLT -> J7, reduceAdd -> J8, reduceBEq -> J9, reduceSub -> JA, reduceMul -> JB, reduceLeDiff -> JJ
open Int renaming reduceLT -> JC, reduceLE -> JD, reduceAdd -> JE, reduceSub -> JF, reduceNeg -> JG, reduceToNat -> JH, reduceEq -> JI
open Go.Proofs
theorem u64_wrap (x : Int) : IntKind.u64.wrap x = x % 18446744073709551616 := by
  simp only [IntKind.wrap,IntKind.signed,IntKind.bits]
  simp
theorem u64_nonneg (x : Int) : 0 <= IntKind.u64.wrap x := by rw [u64_wrap]; omega
theorem u64_small {x : Int} (h : 0 <= x /\ x < 18446744073709551616) : IntKind.u64.wrap x = x := by rw [u64_wrap]; omega
theorem tmod_in {a b : Int} (ha : 0 <= a) (hb : 0 < b) : ∃ r, a.tmod b = r /\ 0 <= r /\ r < b := ⟨_, rfl, Int.tmod_nonneg _ ha, Int.tmod_lt_of_pos _ hb⟩
theorem small_at (x y : Int) (h : Heap) : ∃ a b : Int, D X (.fn 21 []) [.agg [.int .i64 x, .int .i64 y]] h = some (.agg [.int .i64 a, .int .i64 b], h) /\ 0 <= a /\ a < b /\ b <= 256 /\ b - a <= 40 := by
  obtain ⟨r1, e1, h1, h2⟩ := tmod_in (u64_nonneg x) (b := 250) (by omega)
  have hm : 0 < (if 256 - r1 < 40 then 256 - r1 else 40) /\ (if 256 - r1 < 40 then 256 - r1 else 40) <= 40 /\ (if 256 - r1 < 40 then 256 - r1 else 40) <= 256 - r1 := by split <;> omega
  generalize hmm : (if 256 - r1 < 40 then 256 - r1 else 40) = m at hm
  obtain ⟨r2, e2, h3, h4⟩ := tmod_in (u64_nonneg y) (b := m) (by omega)
  have e3 : IntKind.u64.wrap m = m := u64_small (by omega)
  refine ⟨r1, r1 + 1 + r2, Ok.eq ?_, h1, by omega, by omega, by omega⟩
  (refine Ok.body body21 pin21 ?_; simp only [c21,Try.f21,Option.getD_some,nslot21,List.append_nil,List.map,List.replicate,List.length_cons,List.length_nil,Nat.reduceAdd,Nat.reduceSub,List.cons_append,List.nil_append])
  (repeat' (first | (simp -implicitDefEqProofs (maxSteps := 1000000) (disch := first | assumption | omega | (simp only [ZDI]; omega)) only [*,G21,Za,Zb,Zc,Zd,Ze,Zf,Zg,Zh,Zi,Zj,Zk,Zl,Zm,Zn,Zo,Ja,Jb,Jc,J6,Jd,Je,J7,J8,Jf,Jg,Jh,Ji,Jj,Jk,J9,Jl,Jm,wr,Jn,JA,JB,Jo,Jp,Jq,Jr,Js,Jt,Ju,Jv,Jw,Jx,Jy,Jz,J0,J1,J2,J3,J4,J5,reduceCtorEq,JC,JD,JE,JF,JG,JH,JI,JJ]) | ((with_reducible (first | apply Ok.br | apply Ok.gd | apply Ok.ld)) <;> (intro g; (try simp only [ZGS] at g); try (exfalso; omega)))))
end Go.Ev
set_option maxRecDepth 100000
namespace Go.Ev
open Go.Ev renaming exPure -> Ja, ofValue -> Jb, cellsV -> Jc, load -> Jd, store -> Je, binOp -> Jf, intOp -> Jg, rdV -> Jh, vsame -> Ji, vsames -> Jj, makeSliceV -> Jk, resV -> Jl, isCell -> Jm, nilCheckV -> Jn, allV -> Jo, builtinV -> Jp, lenV -> Jq, indexAddrV -> Jr, unOp -> Js, minmaxV -> Jt, minmax -> Ju, sliceV -> Jv, asInt -> Jw, appendV -> Jx, forkB -> Jy, roY -> Jz, rwB -> J0, copyV -> J1, clearV -> J2, convV -> J3, sliceCells -> J4, shift -> J5
open Bool renaming true -> BT, false -> BF
open Nat renaming reduceEqDiff -> J6, reduceLT -> J7, reduceAdd -> J8, reduceBEq -> J9, reduceSub -> JA, reduceMul -> JB, reduceLeDiff -> JJ
open Int renaming reduceLT -> JC, reduceLE -> JD, reduceAdd -> JE, reduceSub -> JF, reduceNeg -> JG, reduceToNat -> JH, reduceEq -> JI
open Go.Proofs
theorem apply_span (s : Sto) (o c q f t : Int) (l : List ByteArray) : (s.apply o c q f t l).1.a = s.a /\ (s.apply o c q f t l).1.b = s.b := by
  unfold Sto.apply
  split
  · exact ⟨rfl, rfl⟩
  · split
    · exact ⟨rfl, rfl⟩
    · split
      · exact ⟨rfl, rfl⟩
      · split <;> exact ⟨rfl, rfl⟩
theorem apply_len (s : Sto) (o c q f t : Int) (l : List ByteArray) : (s.apply o c q f t l).2.2.1.length <= 300 := by
  unfold Sto.apply
  split
  · simp
  · split
    · simp
    · split
      · simp
      · split
        · simp
        · rename_i h1 h2 h3 h4
          have h1' : mayP o c q f t l := by simpa using h1
          unfold mayP at h1'
          show (s.data o f t).length <= 300
          unfold Sto.data
          split
          · simp; omega
          · simp
structure Cm where
  o : Int
  c : Int
  q : Int
  f : Int
  t : Int
  v : V
  l : List ByteArray
def CmdsAt (h : Heap) (v : V) (L : List Cm) : Prop :=
  ∃ a cap z, v = .sl a L.length cap z /\ L.length <= 9223372036854775807 /\ (∀ x ∈ L, StrsAt h x.v x.l) /\ (L = [] \/ ∃ b g o rw full, a = .at b g o /\ hcells h b g = some (rw, full) /\
    ∀ (i : Nat) (x : Cm), L[i]? = some x -> (full.drop (o + i * 6)).take 6 = cmdV x.o x.c x.q x.f x.t x.v /\ o + i * 6 + 6 <= full.length)
structure Both (h0 H : Heap) (ps cb pr T M : Nat) (mb : Nat -> Nat) (n : Nat) (s : Sto) : Prop where
  st : StoreAt H ps cb 0 s
  rf : RefAt H pr T M mb n s
  kp : Keeps [] h0 H
  hn : s.n = n
  apart : ps ∉ refBlocks pr T M mb n /\ cb ∉ refBlocks pr T M mb n
  new : h0.length <= ps /\ h0.length <= cb /\ ∀ j ∈ refBlocks pr T M mb n, h0.length <= j
theorem away_nil (v : V) : Away [] v := by unfold Away; split <;> simp
theorem away_of {h H : Heap} {v : V} {l : List ByteArray} (hv : StrsAt h v l) {F : List Nat} (hF : ∀ j ∈ F, h.length <= j) : l ≠ [] -> Away F v := by
  intro hne
  obtain ⟨a, cap, z, rfl, _, _, h3⟩ := hv
  rcases h3 with h3 | ⟨b, g, o, rw, full, rfl, hb, _⟩
  · exact absurd h3 hne
  · intro hm
    have := hF _ hm
    have := hcells_lt hb
    omega
theorem both_step {h0 H : Heap} {ps cb pr T M : Nat} {mb : Nat -> Nat} {n : Nat} {s : Sto} (hb : Both h0 H ps cb pr T M mb n s) {o c q f t : Int} {v : V} {l : List ByteArray} (hv : StrsAt h0 v l) :
    ∃ k dv1 H1 dv2 H2 e, D X (.fn 22 []) [.ptr ps 0 0, .agg (cmdV o c q f t v)] H = some (.tup [.agg [.bool k, dv1], .int .i64 e], H1) /\
      D X (.fn 58 []) [.ptr pr 0 0, .agg (cmdV o c q f t v)] H1 = some (.tup [.agg [.bool k, dv2], .int .i64 e], H2) /\
      D X (.fn 32 []) [.agg [.bool k, dv1], .agg [.bool k, dv2]] H2 = some (.bool true, H2) /\ Both h0 H2 ps cb pr T M mb n (s.apply o c q f t l).1 := by
  obtain ⟨hst, hrf, hk, hn, ⟨ha1, ha2⟩, hn1, hn2, hn3⟩ := hb
  have hok : s.Ok := by obtain ⟨_, _, _, _, _, _, _, h⟩ := hst; exact h.toOk
  have hv1 := hv.keeps hk (fun _ => away_nil v)
  obtain ⟨y1, ey1, H1, dv1, rfl, w1, w2, w3⟩ := apply_at (o := o) (c := c) (q := q) (f := f) (t := t) hst hv1 (away_of (H := H) hv (by intro j hj; simp at hj; rcases hj with rfl | rfl <;> assumption))
  have hF1 : ∀ j ∈ refBlocks pr T M mb n, j ∉ [ps, cb] := by
    intro j hj hm
    simp at hm
    rcases hm with rfl | rfl
    · exact ha1 hj
    · exact ha2 hj
  have hrf1 := hrf.keeps w2 hF1
  have hk1 : Keeps [] h0 H1 := hk.wide w2 (by intro j hj hlt; simp at hj; omega)
  have hv2 := hv.keeps hk1 (fun _ => away_nil v)
  subst hn
  obtain ⟨y2, ey2, H2, dv2, rfl, x1, x2, x3⟩ := refApply_at (o := o) (c := c) (q := q) (f := f) (t := t) hrf1 hok hv2 (away_of (H := H) hv hn3)
  have hlt : ∀ j ∈ refBlocks pr T M mb s.n, j < H.length := hrf.lt
  have w3' := w3.keeps x2 hlt
  have hsame := sameReply_at (k := (s.apply o c q f t l).2.1) (w3'.strs (by have := apply_len s o c q f t l; omega)) (x3.strs (by have := apply_len s o c q f t l; omega))
  refine ⟨_, dv1, H1, dv2, H2, _, ey1, ey2, hsame, ⟨w1.keeps x2 ha1 ha2, x1, hk1.wide x2 (fun j hj hlt' => by have := hn3 j hj; omega), ?_, ⟨ha1, ha2⟩, hn1, hn2, hn3⟩⟩
  unfold Sto.n
  rw [(apply_span s o c q f t l).1, (apply_span s o c q f t l).2]
theorem mbOf_ge (p i : Nat) : p <= mbOf p i := by unfold mbOf; split <;> omega
end Go.Ev
set_option maxRecDepth 100000
namespace Go.Ev
open Go.Ev renaming exPure -> Ja, ofValue -> Jb, cellsV -> Jc, load -> Jd, store -> Je, binOp -> Jf, intOp -> Jg, rdV -> Jh, vsame -> Ji, vsames -> Jj, makeSliceV -> Jk, resV -> Jl, isCell -> Jm, nilCheckV -> Jn, allV -> Jo, builtinV -> Jp, lenV -> Jq, indexAddrV -> Jr, unOp -> Js, minmaxV -> Jt, minmax -> Ju, sliceV -> Jv, asInt -> Jw, appendV -> Jx, forkB -> Jy, roY -> Jz, rwB -> J0, copyV -> J1, clearV -> J2, convV -> J3, sliceCells -> J4, shift -> J5
open Bool renaming true -> BT, false -> BF
open Nat renaming reduceEqDiff -> J6, reduceLT -> J7, reduceAdd -> J8, reduceBEq -> J9, reduceSub -> JA, reduceMul -> JB, reduceLeDiff -> JJ
open Int renaming reduceLT -> JC, reduceLE -> JD, reduceAdd -> JE, reduceSub -> JF, reduceNeg -> JG, reduceToNat -> JH, reduceEq -> JI
open Go.Proofs
theorem alike_at {H : Heap} {ps cb g pr T M : Nat} {mb : Nat -> Nat} {s : Sto} (hs : StoreAt H ps cb g s) (hr : RefAt H pr T M mb s.n s) : D X (.fn 28 []) [.ptr ps 0 0, .ptr pr 0 0] H = some (.bool true, H) := by
  refine Ok.eq ?_
  refine Ok.aim fun Q hQ => ?_
  have hQ' := Hid.mk hQ
  clear hQ
  have hspan := spanOf_at hs
  have hfroz := frozen_at hs
  have hok : s.Ok := by obtain ⟨_, _, _, _, _, _, _, h⟩ := hs; exact h.toOk
  have hs' := Hid.mk hs
  obtain ⟨⟨gT, gM, ts, ms, g1, g2, g3, g4, g5, g6, g7⟩, g8, g9, g10, g11, g12, g13⟩ := hr
  have g4' := Hid.mk g4
  have g7' := Hid.mk g7
  have g8' := Hid.mk g8
  have hn : s.n <= 256 := by unfold Sto.n; have := hok.h0; have := hok.h2; omega
  have hnn : (s.n : Int) = s.b - s.a := by unfold Sto.n; have := hok.h1; omega
  have hnn' := Hid.mk hnn
  clear g4 g7 g8 g12 g13 hs hnn
  (refine Ok.body body28 pin28 ?_; simp only [c28,Try.f28,Option.getD_some,nslot28,List.append_nil,List.map,List.replicate,List.length_cons,List.length_nil,Nat.reduceAdd,Nat.reduceSub,List.cons_append,List.nil_append])
  (repeat' (first | (simp -implicitDefEqProofs (maxSteps := 1000000) (disch := first | assumption | omega | (simp only [ZDI]; omega)) only [*,lenV,eq_self,G28,Za,Zb,Zc,Zd,Ze,Zf,Zg,Zh,Zi,Zj,Zk,Zl,Zm,Zn,Zo,Ja,Jb,Jc,J6,Jd,Je,J7,J8,Jf,Jg,Jh,Ji,Jj,Jk,J9,Jl,Jm,wr,Jn,JA,JB,Jo,Jp,Jq,Jr,Js,Jt,Ju,Jv,Jw,Jx,Jy,Jz,J0,J1,J2,J3,J4,J5,reduceCtorEq,JC,JD,JE,JF,JG,JH,JI,JJ]) | ((with_reducible (first | apply Ok.br | apply Ok.gd | apply Ok.ld)) <;> (intro g; (try simp only [ZGS] at g); try (exfalso; omega)))))
  refine Ok.loop [BF, BF, BF, BF, BT, BT, BT, BT, BT, BT, BT, BT, BF, BF, BF, BF, BF, BF, BF, BF, BF, BF, BF, BF, BF, BF, BF, BF, BF, BF, BF, BF, BF, BF, BF, BF, BF, BT, BT, BT, BT, BT, BT, BT, BT, BT, BT, BT, BT, BT, BT, BT, BT, BT, BT, BT, BT, BT, BT, BT, BT, BT, BT, BT, BT, BT, BT, BT, BT, BT, BT, BT, BT, BT, BT, BT, BT, BT, BT, BT, BT, BT, BT, BT, BT, BT, BT, BT, BT, BT, BT, BT, BT, BT] (fun n s2 => ∃ i : Nat, n = s.n - i /\ i <= s.n /\ tv s2.e 37 = .v (.int .i64 i) /\ s2.l = [] /\ s2.h = H) (fun x s2 => x = .exit 0 /\ s2.l = [] /\ s2.h = H) (s.n - 0) ⟨0, rfl, by omega, rfl, rfl, rfl⟩ ?_ ?_
  · intro n ⟨e', l', H'⟩ hW ⟨i, hn1, hi, h8, h2, h3⟩
    dsimp only at hW h8 h2 h3
    subst l' H'
    rw [hW.spread]
    simp only [spread_t,spread_f,spread_n,Nat.zero_add,Nat.reduceAdd,h8]
    by_cases hlt : i < s.n
    · have hlt' : (i : Int) < (s.n : Int) := by omega
      have hin1 : s.a <= s.a + (i : Int) := by omega
      have hin2 : s.a + (i : Int) < s.b := by have := hnn'.out; omega
      have hk : (s.a + (i : Int) - s.a).toNat = i := by omega
      have hblk := block_in hs'.out hin1 hin2
      rw [hk] at hblk
      have t1 := g4'.out i hlt
      have t2 := g7'.out i hlt
      obtain ⟨q, q1, q2, q3⟩ := g8'.out i hlt
      have q3' := Hid.mk q3
      have hb0 := hok.h0
      have hb2 := hok.h2
      clear q3
      (repeat' (first | (simp -implicitDefEqProofs (maxSteps := 1000000) (disch := first | assumption | omega | (simp only [ZDI]; omega)) only [*,lenV,eq_self,strEq_refl,Int.ofNat_lt,Int.natCast_nonneg,G28,Za,Zb,Zc,Zd,Ze,Zf,Zg,Zh,Zi,Zj,Zk,Zl,Zm,Zn,Zo,Ja,Jb,Jc,J6,Jd,Je,J7,J8,Jf,Jg,Jh,Ji,Jj,Jk,J9,Jl,Jm,wr,Jn,JA,JB,Jo,Jp,Jq,Jr,Js,Jt,Ju,Jv,Jw,Jx,Jy,Jz,J0,J1,J2,J3,J4,J5,reduceCtorEq,JC,JD,JE,JF,JG,JH,JI,JJ]) | ((with_reducible (first | apply Ok.br | apply Ok.gd | apply Ok.ld)) <;> (intro g; (try simp only [ZGS] at g); try (exfalso; omega)))))
      refine Ok.loop [BF, BF, BF, BF, BT, BF, BF, BF, BF, BT, BT, BT, BF, BF, BF, BF, BF, BF, BF, BF, BF, BF, BF, BF, BF, BF, BF, BF, BF, BF, BF, BF, BF, BF, BF, BF, BF, BF, BF, BF, BF, BF, BF, BF, BF, BF, BF, BF, BF, BF, BF, BF, BF, BF, BF, BF, BF, BF, BF, BF, BF, BF, BF, BF, BF, BF, BT, BT, BT, BT, BT, BT, BT, BT, BT, BT, BT, BT, BT, BT, BT, BT, BT, BT, BT, BT, BT, BT, BT, BT, BT, BT, BT, BF] (fun n s2 => ∃ k : Nat, n = 4 - k /\ k <= 4 /\ tv s2.e 66 = .v (.int .i64 k) /\ s2.l = [] /\ s2.h = H) (fun x s2 => x = .exit 2 /\ s2.l = [] /\ s2.h = H) (4 - 0) ⟨0, rfl, by omega, rfl, rfl, rfl⟩ ?_ ?_
      · intro n ⟨e2', l', H'⟩ hW2 ⟨k, hk1, hk4, h66, h2, h3⟩
        dsimp only at hW2 h66 h2 h3
        subst l' H'
        rw [hW2.spread]
        simp only [spread_t,spread_f,spread_n,Nat.zero_add,Nat.reduceAdd,h66]
        by_cases hlk : k < 4
        · have hlk' : (k : Int) < 4 := by omega
          have hmk := mark_in hs'.out hin1 hin2 (q := k) (by omega)
          rw [hk, Int.toNat_natCast] at hmk
          have t3 := q3'.out k hlk
          have hi4 : 0 <= (k : Int) /\ (k : Int) < ((4 : Nat) : Int) := by omega
          (repeat' (first | (simp -implicitDefEqProofs (maxSteps := 1000000) (disch := first | assumption | omega | (simp only [ZDI]; omega)) only [*,lenV,eq_self,Int.ofNat_lt,Int.natCast_nonneg,G28,Za,Zb,Zc,Zd,Ze,Zf,Zg,Zh,Zi,Zj,Zk,Zl,Zm,Zn,Zo,Ja,Jb,Jc,J6,Jd,Je,J7,J8,Jf,Jg,Jh,Ji,Jj,Jk,J9,Jl,Jm,wr,Jn,JA,JB,Jo,Jp,Jq,Jr,Js,Jt,Ju,Jv,Jw,Jx,Jy,Jz,J0,J1,J2,J3,J4,J5,reduceCtorEq,JC,JD,JE,JF,JG,JH,JI,JJ]) | ((with_reducible (first | apply Ok.br | apply Ok.gd | apply Ok.ld)) <;> (intro g; (try simp only [ZGS] at g); try (exfalso; omega)))))
          exact Turn.next (4 - (k + 1)) (by omega) ⟨rfl, k + 1, rfl, by omega, rfl, rfl, rfl⟩
        · have hlk' : ¬ (k : Int) < 4 := by omega
          (repeat' (first | (simp -implicitDefEqProofs (maxSteps := 1000000) (disch := first | assumption | omega | (simp only [ZDI]; omega)) only [*,G28,Za,Zb,Zc,Zd,Ze,Zf,Zg,Zh,Zi,Zj,Zk,Zl,Zm,Zn,Zo,Ja,Jb,Jc,J6,Jd,Je,J7,J8,Jf,Jg,Jh,Ji,Jj,Jk,J9,Jl,Jm,wr,Jn,JA,JB,Jo,Jp,Jq,Jr,Js,Jt,Ju,Jv,Jw,Jx,Jy,Jz,J0,J1,J2,J3,J4,J5,reduceCtorEq,JC,JD,JE,JF,JG,JH,JI,JJ]) | ((with_reducible (first | apply Ok.br | apply Ok.gd | apply Ok.ld)) <;> (intro g; (try simp only [ZGS] at g); try (exfalso; omega)))))
          exact Turn.exit ⟨rfl, rfl, rfl, rfl⟩
      · intro x ⟨e2', l', H'⟩ hW2 ⟨hx, h2, h3⟩
        dsimp only at hW2 h2 h3
        subst l' hx H'
        rw [hW2.spread]
        clear hW2
        simp only [spread_t,spread_f,spread_n,Nat.zero_add,Nat.reduceAdd]
        (repeat' (first | (simp -implicitDefEqProofs (maxSteps := 1000000) (disch := first | assumption | omega | (simp only [ZDI]; omega)) only [*,G28,Za,Zb,Zc,Zd,Ze,Zf,Zg,Zh,Zi,Zj,Zk,Zl,Zm,Zn,Zo,Ja,Jb,Jc,J6,Jd,Je,J7,J8,Jf,Jg,Jh,Ji,Jj,Jk,J9,Jl,Jm,wr,Jn,JA,JB,Jo,Jp,Jq,Jr,Js,Jt,Ju,Jv,Jw,Jx,Jy,Jz,J0,J1,J2,J3,J4,J5,reduceCtorEq,JC,JD,JE,JF,JG,JH,JI,JJ]) | ((with_reducible (first | apply Ok.br | apply Ok.gd | apply Ok.ld)) <;> (intro g; (try simp only [ZGS] at g); try (exfalso; omega)))))
        exact Turn.next (s.n - (i + 1)) (by omega) ⟨rfl, i + 1, rfl, by omega, rfl, rfl, rfl⟩
    · have hlt' : ¬ (i : Int) < (s.n : Int) := by omega
      (repeat' (first | (simp -implicitDefEqProofs (maxSteps := 1000000) (disch := first | assumption | omega | (simp only [ZDI]; omega)) only [*,G28,Za,Zb,Zc,Zd,Ze,Zf,Zg,Zh,Zi,Zj,Zk,Zl,Zm,Zn,Zo,Ja,Jb,Jc,J6,Jd,Je,J7,J8,Jf,Jg,Jh,Ji,Jj,Jk,J9,Jl,Jm,wr,Jn,JA,JB,Jo,Jp,Jq,Jr,Js,Jt,Ju,Jv,Jw,Jx,Jy,Jz,J0,J1,J2,J3,J4,J5,reduceCtorEq,JC,JD,JE,JF,JG,JH,JI,JJ]) | ((with_reducible (first | apply Ok.br | apply Ok.gd | apply Ok.ld)) <;> (intro g; (try simp only [ZGS] at g); try (exfalso; omega)))))
      exact Turn.exit ⟨rfl, rfl, rfl, rfl⟩
  · intro x ⟨e', l', H'⟩ hW ⟨hx, h2, h3⟩
    dsimp only at hW h2 h3
    subst l' hx H'
    rw [hW.spread]
    clear hW
    simp only [spread_t,spread_f,spread_n,Nat.zero_add,Nat.reduceAdd]
    (repeat' (first | (simp -implicitDefEqProofs (maxSteps := 1000000) (disch := first | assumption | omega | (simp only [ZDI]; omega)) only [*,G28,Za,Zb,Zc,Zd,Ze,Zf,Zg,Zh,Zi,Zj,Zk,Zl,Zm,Zn,Zo,Ja,Jb,Jc,J6,Jd,Je,J7,J8,Jf,Jg,Jh,Ji,Jj,Jk,J9,Jl,Jm,wr,Jn,JA,JB,Jo,Jp,Jq,Jr,Js,Jt,Ju,Jv,Jw,Jx,Jy,Jz,J0,J1,J2,J3,J4,J5,reduceCtorEq,JC,JD,JE,JF,JG,JH,JI,JJ]) | ((with_reducible (first | apply Ok.br | apply Ok.gd | apply Ok.ld)) <;> (intro g; (try simp only [ZGS] at g); try (exfalso; omega)))))
    exact hQ'.out _ rfl
end Go.Ev
set_option maxRecDepth 100000
namespace Go.Ev
open Go.Ev renaming exPure -> Ja, ofValue -> Jb, cellsV -> Jc, load -> Jd, store -> Je, binOp -> Jf, intOp -> Jg, rdV -> Jh, vsame -> Ji, vsames -> Jj, makeSliceV -> Jk, resV -> Jl, isCell -> Jm, nilCheckV -> Jn, allV -> Jo, builtinV -> Jp, lenV -> Jq, indexAddrV -> Jr, unOp -> Js, minmaxV -> Jt, minmax -> Ju, sliceV -> Jv, asInt -> Jw, appendV -> Jx, forkB -> Jy, roY -> Jz, rwB -> J0, copyV -> J1, clearV -> J2, convV -> J3, sliceCells -> J4, shift -> J5
open Bool renaming true -> BT, false -> BF
open Nat renaming reduceEqDiff -> J6, reduceLT -> J7, reduceAdd -> J8, reduceBEq -> J9, reduceSub -> JA, reduceMul -> JB, reduceLeDiff -> JJ
open Int renaming reduceLT -> JC, reduceLE -> JD, reduceAdd -> JE, reduceSub -> JF, reduceNeg -> JG, reduceToNat -> JH, reduceEq -> JI
open Go.Proofs
theorem Cells.five {full : List V} {n : Nat} {txt : Nat -> ByteArray} {mrk : Nat -> Nat -> Int} (h : Cells full n txt mrk) {i : Nat} (hi : i < n) :
    (full.drop (i * 5)).take 5 = [.str (txt i), .int .i64 (mrk i 0), .int .i64 (mrk i 1), .int .i64 (mrk i 2), .int .i64 (mrk i 3)] /\
    (full.drop (i * 5 + 1)).take 4 = [.int .i64 (mrk i 0), .int .i64 (mrk i 1), .int .i64 (mrk i 2), .int .i64 (mrk i 3)] := by
  obtain ⟨h1, h2⟩ := h
  obtain ⟨h3, h4⟩ := h2 i hi
  have k0 := h4 0 (by omega)
  have k1 := h4 1 (by omega)
  have k2 := h4 2 (by omega)
  have k3 := h4 3 (by omega)
  constructor
  · apply List.ext_getElem?
    intro j
    rw [List.getElem?_take]
    match j with
    | 0 => simpa [List.getElem?_drop] using h3
    | 1 => simpa [List.getElem?_drop] using k0
    | 2 => simpa [List.getElem?_drop] using k1
    | 3 => simpa [List.getElem?_drop] using k2
    | 4 => simpa [List.getElem?_drop] using k3
    | j + 5 => rw [if_neg (by omega)]; simp
  · apply List.ext_getElem?
    intro j
    rw [List.getElem?_take]
    match j with
    | 0 => simpa [List.getElem?_drop] using k0
    | 1 => simpa [List.getElem?_drop] using k1
    | 2 => simpa [List.getElem?_drop] using k2
    | 3 => simpa [List.getElem?_drop] using k3
    | j + 4 => rw [if_neg (by omega)]; simp
theorem same_at {H : Heap} {p c g p' c' g' : Nat} {s : Sto} (hs : StoreAt H p c g s) (hs' : StoreAt H p' c' g' s) : D X (.fn 31 []) [.ptr p 0 0, .ptr p' 0 0] H = some (.bool true, H) := by
  refine Ok.eq ?_
  refine Ok.aim fun Q hQ => ?_
  have hQ' := Hid.mk hQ
  clear hQ
  obtain ⟨cap, z, full, hp1, hc1, hcl, hpc, hok⟩ := hs
  obtain ⟨cap', z', full', hp1', hc1', hcl', _, _⟩ := hs'
  have h0 := hok.h0
  have h1 := hok.h1
  have h2 := hok.h2
  have hn2 : s.n <= 300 := by unfold Sto.n; omega
  have hcl2 := Hid.mk hcl
  have hcl2' := Hid.mk hcl'
  clear hcl hcl'
  (refine Ok.body body31 pin31 ?_; simp only [c31,Try.f31,Option.getD_some,nslot31,List.append_nil,List.map,List.replicate,List.length_cons,List.length_nil,Nat.reduceAdd,Nat.reduceSub,List.cons_append,List.nil_append])
  (repeat' (first | (simp -implicitDefEqProofs (maxSteps := 1000000) (disch := first | assumption | omega | (simp only [ZDI]; omega)) only [*,lenV,eq_self,G31,Za,Zb,Zc,Zd,Ze,Zf,Zg,Zh,Zi,Zj,Zk,Zl,Zm,Zn,Zo,Ja,Jb,Jc,J6,Jd,Je,J7,J8,Jf,Jg,Jh,Ji,Jj,Jk,J9,Jl,Jm,wr,Jn,JA,JB,Jo,Jp,Jq,Jr,Js,Jt,Ju,Jv,Jw,Jx,Jy,Jz,J0,J1,J2,J3,J4,J5,reduceCtorEq,JC,JD,JE,JF,JG,JH,JI,JJ]) | ((with_reducible (first | apply Ok.br | apply Ok.gd | apply Ok.ld)) <;> (intro g; (try simp only [ZGS] at g); try (exfalso; omega)))))
  refine Ok.loop [BF, BF, BF, BF, BT, BT, BT, BF, BF, BF, BF, BF, BF, BF, BF, BF, BF, BF, BF, BF, BF, BF, BF, BF, BF, BF, BF, BF, BF, BF, BF, BF, BF, BF, BF, BF, BF, BF, BF, BF, BF, BF, BF, BF, BF, BF, BF, BF, BF, BF, BF, BF, BF, BF, BT, BT, BT, BT, BT, BT, BT, BT, BT, BT, BT, BT, BT, BT, BT, BT, BT, BT, BT, BT, BT, BT, BT, BT, BT, BT, BT, BT, BT, BT] (fun n s2 => ∃ i : Nat, n = s.n - i /\ i <= s.n /\ tv s2.e 54 = .v (.int .i64 i) /\ (∃ x, s2.l = [x]) /\ s2.h = H) (fun x s2 => x = .exit 0 /\ (∃ x, s2.l = [x]) /\ s2.h = H) (s.n - 0) ⟨0, rfl, by omega, rfl, ⟨_, rfl⟩, rfl⟩ ?_ ?_
  · intro n ⟨e', l', H'⟩ hW ⟨i, hn1, hi, h8, ⟨⟨k1, y1⟩, h2'⟩, h3⟩
    dsimp only at hW h8 h2' h3
    subst l' H'
    rw [hW.spread]
    simp only [spread_t,spread_f,spread_n,Nat.zero_add,Nat.reduceAdd,h8]
    by_cases hlt : i < s.n
    · have hlt' : (i : Int) < (s.n : Int) := by omega
      obtain ⟨f1, f2⟩ := hcl2.out.five hlt
      obtain ⟨f1', f2'⟩ := hcl2'.out.five hlt
      have t1 := (hcl2.out.2 i hlt).1
      have t1' := (hcl2'.out.2 i hlt).1
      have e1 : i * 5 + 5 <= full.length := by rw [hcl2.out.1]; omega
      have e1' : i * 5 + 5 <= full'.length := by rw [hcl2'.out.1]; omega
      have e2' : i * 5 + 1 + 4 <= full'.length := by omega
      (repeat' (first | (simp -implicitDefEqProofs (maxSteps := 1000000) (disch := first | assumption | omega | (simp only [ZDI]; omega)) only [*,lenV,eq_self,strEq_refl,Int.ofNat_lt,Int.natCast_nonneg,(show List.range 4 = [0,1,2,3] from rfl), ty3, ty4, ty9, ty25, ty26, ty29, ty81, ty82, ty83, ty92, ty93, ty94, ty95, slot31, plan31_3, plan31_8, wrap_i64, grd_tr, and_true, true_and, Int.le_refl, evC_seq, evC_region, evC_plan, evC_block, evC_scope, evC_cond, evC_exit, evC_ret, evC_skip, evC_label, evC_loop, loopK_eq, exOps_nil, exOps_cons, wantedT, bnd_s, stepK_t, stepK_f, putK_eq, seqK_n, seqK_e, seqK_r, blockK_n, blockK_e, blockK_r, brK_t, brK_f, bnd_bnd, thenK_eq, ok_some, stopK_eq, beq_f, beq_t, Bool.not_not, cond_true, cond_false, resK_n, resK_r, exOp_move, exOp_assign, exOp_pick, exOp_alloc, exOp_box, exOp_build, exOp_buildSlice, exOp_load, exOp_store, exOp_nilCheck, exOp_binOp, exOp_unOp, exOp_convert, exOp_makeFunc, exOp_makeSlice, exOp_slice, exOp_fieldAddr, exOp_field, exOp_indexAddr, exOp_index, exOp_extract, exOp_builtin, exOp_call, callK_eq, exPure, opd, getT, constT, ofValue, cellsV, newVar, St.put, setT, posT, Option.bind_some, List.getD_cons_zero, List.getD_cons_succ, List.set_cons_zero, List.set_cons_succ, List.getElem?_cons_zero, List.getElem?_cons_succ, List.getElem?_nil, decide_true, decide_false, Nat.reduceEqDiff, fieldAddrV, fieldOff, load, store, lcells, rd, TI.kind, grd_t, Nat.reduceLT, Nat.reduceAdd, and_self, cnd_t, cnd_f, binOp, intOp, Bool.not_true, Bool.not_false, Bool.true_beq, Bool.false_beq, beq_self_eq_true, exPlan_nil, exPlan_cons, entryK_eq, leadK_t, leadK_f, lookK_nil, lookK_cons, leadsT, again, rdV, vsame, vsames, Bool.and_true, Bool.true_and, Op.operands, callops_v, callops_b, List.elem_cons, List.elem_nil, List.toList_toArray, makeSliceV, buildV, fillV, splice, List.zip, List.map_cons, List.map_nil, Nat.reduceBEq, List.all_cons, List.all_nil, List.length_cons, List.length_nil, List.take, List.drop, List.cons_append, List.nil_append, results, resV, isCell, wr, List.set, nilCheckV, Nat.reduceSub, Nat.reduceMul, Nat.mul_one, Nat.zero_add, Nat.add_zero, Nat.le_refl, List.append_nil, allV, builtinV, lenV, indexAddrV, veq_eq, veqM_int, veqM_str, veqM_bool, veqM_p1, veqM_p2, veqM_p3, veqM_s1, veqM_s2, veqM_s3, veqM_s4, veqM_s5, veqM_m1, veqM_m2, veqM_m3, veqM_f1, veqM_f2, veqM_f3, veqM_struct, veqM_arr, veqF_nil, veqF_cons, veqA_nil, veqA_cons, partK_eq, cnd_and, unOp, minmaxV, minmax, sliceV, bound, asInt, idx, idxLe, appendV, forkB, roY, rwB, copyV, clearV, convV, putBlk, sliceCells, newBlk, buildSliceV, shift, Int.toNat_natCast, Option.isSome_none, Option.isNone_none, Option.isSome_some, Option.isNone_some, Bool.or_false, Bool.or_true, Bool.true_or, Bool.false_or, Bool.and_false, Bool.false_and, unrK_n, unrK_e, unrK_r, hcells_app, hcells_ge, hcells_c0, hcells_cs, heap_set_ge, heap_set_lt, Nat.add_sub_cancel_left, Nat.sub_self, List.append_assoc, hcells_set_ne, hcells_set_eq, evC_rf, rfK_eq, reduceCtorEq, Int.reduceLT, Int.reduceLE, Int.reduceAdd, Int.reduceSub, Int.reduceNeg, Int.reduceToNat, Int.reduceEq, nat_cast_0, nat_cast_1, List.length_append, List.length_set, Nat.reduceLeDiff, List.replicate_zero, List.flatten_nil, itT, itF, reps_0, reps_1, arr_empty, asgK_n, asgM_s, endRound_eq, endM_n, endM_r, endM_e, loopAt_set_ne, loopAt_set_eq, loopAt_app, List.set_set, or_true, true_or, or_false, false_or, loopAt_ge, loopAt_c0, loopAt_cs, endRF_eq, endFM_n, endFM_r, endFM_e]) | ((with_reducible (first | apply Ok.br | apply Ok.gd | apply Ok.ld)) <;> (intro g; (try simp only [ZGS] at g); try (exfalso; omega)))))
      exact Turn.next (s.n - (i + 1)) (by omega) ⟨rfl, i + 1, rfl, by omega, rfl, ⟨_, rfl⟩, rfl⟩
    · have hlt' : ¬ (i : Int) < (s.n : Int) := by omega
      (repeat' (first | (simp -implicitDefEqProofs (maxSteps := 1000000) (disch := first | assumption | omega | (simp only [ZDI]; omega)) only [*,G31,Za,Zb,Zc,Zd,Ze,Zf,Zg,Zh,Zi,Zj,Zk,Zl,Zm,Zn,Zo,Ja,Jb,Jc,J6,Jd,Je,J7,J8,Jf,Jg,Jh,Ji,Jj,Jk,J9,Jl,Jm,wr,Jn,JA,JB,Jo,Jp,Jq,Jr,Js,Jt,Ju,Jv,Jw,Jx,Jy,Jz,J0,J1,J2,J3,J4,J5,reduceCtorEq,JC,JD,JE,JF,JG,JH,JI,JJ]) | ((with_reducible (first | apply Ok.br | apply Ok.gd | apply Ok.ld)) <;> (intro g; (try simp only [ZGS] at g); try (exfalso; omega)))))
      exact Turn.exit ⟨rfl, rfl, ⟨_, rfl⟩, rfl⟩
  · intro x ⟨e', l', H'⟩ hW ⟨hx, ⟨x1, h2'⟩, h3⟩
    dsimp only at hW h2' h3
    subst l' hx H'
    rw [hW.spread]
    clear hW
    simp only [spread_t,spread_f,spread_n,Nat.zero_add,Nat.reduceAdd]
    (repeat' (first | (simp -implicitDefEqProofs (maxSteps := 1000000) (disch := first | assumption | omega | (simp only [ZDI]; omega)) only [*,G31,Za,Zb,Zc,Zd,Ze,Zf,Zg,Zh,Zi,Zj,Zk,Zl,Zm,Zn,Zo,Ja,Jb,Jc,J6,Jd,Je,J7,J8,Jf,Jg,Jh,Ji,Jj,Jk,J9,Jl,Jm,wr,Jn,JA,JB,Jo,Jp,Jq,Jr,Js,Jt,Ju,Jv,Jw,Jx,Jy,Jz,J0,J1,J2,J3,J4,J5,reduceCtorEq,JC,JD,JE,JF,JG,JH,JI,JJ]) | ((with_reducible (first | apply Ok.br | apply Ok.gd | apply Ok.ld)) <;> (intro g; (try simp only [ZGS] at g); try (exfalso; omega)))))
    exact hQ'.out _ rfl
end Go.Ev
set_option maxRecDepth 100000
namespace Go.Ev
open Go.Ev renaming exPure -> Ja, ofValue -> Jb, cellsV -> Jc, load -> Jd, store -> Je, binOp -> Jf, intOp -> Jg, rdV -> Jh, vsame -> Ji, vsames -> Jj, makeSliceV -> Jk, resV -> Jl, isCell -> Jm, nilCheckV -> Jn, allV -> Jo, builtinV -> Jp, lenV -> Jq, indexAddrV -> Jr, unOp -> Js, minmaxV -> Jt, minmax -> Ju, sliceV -> Jv, asInt -> Jw, appendV -> Jx, forkB -> Jy, roY -> Jz, rwB -> J0, copyV -> J1, clearV -> J2, convV -> J3, sliceCells -> J4, shift -> J5
open Bool renaming true -> BT, false -> BF
open Nat renaming reduceEqDiff -> J6, reduceLT -> J7, reduceAdd -> J8, reduceBEq -> J9, reduceSub -> JA, reduceMul -> JB, reduceLeDiff -> JJ
open Int renaming reduceLT -> JC, reduceLE -> JD, reduceAdd -> JE, reduceSub -> JF, reduceNeg -> JG, reduceToNat -> JH, reduceEq -> JI
open Go.Proofs
def cellE (s : Sto) (i : Nat) : List UInt8 := textE (s.txt i) ++ numE (s.mrk i 0).toNat ++ numE (s.mrk i 1).toNat ++ numE (s.mrk i 2).toNat ++ numE (s.mrk i 3).toNat
def cellsE (s : Sto) : Nat -> List UInt8
  | 0 => []
  | n + 1 => cellsE s n ++ cellE s n
def storeE (s : Sto) : List UInt8 := numE s.a.toNat ++ numE s.b.toNat ++ [if s.fz then 1 else 0] ++ cellsE s s.n
structure Sto.Good (s : Sto) : Prop where
  text : ∀ i, textB (s.txt i) = true
  mark : ∀ i k, 0 <= s.mrk i k /\ s.mrk i k <= 1099511627776
theorem Sto.Good.size {s : Sto} (h : s.Good) (i : Nat) : (s.txt i).size <= 4096 := by
  have := h.text i
  unfold textB at this
  rw [Bool.and_eq_true, decide_eq_true_eq] at this
  omega
theorem cellE_len {s : Sto} (h : s.Good) (i : Nat) : (cellE s i).length <= 8240 := by
  have h1 := textE_len (s.txt i)
  have h2 := h.size i
  have h3 : ∀ k, (numE (s.mrk i k).toNat).length <= 10 := fun k => numE_len (by have := h.mark i k; omega)
  have e0 := h3 0
  have e1 := h3 1
  have e2 := h3 2
  have e3 := h3 3
  unfold cellE
  simp only [List.length_append]
  omega
theorem cellsE_len {s : Sto} (h : s.Good) : ∀ n, (cellsE s n).length <= 8240 * n
  | 0 => by simp [cellsE]
  | n + 1 => by
    have h1 := cellsE_len h n
    have h2 := cellE_len h n
    rw [cellsE, List.length_append]; omega
set_option maxHeartbeats 16000000 in
theorem encode_at {H : Heap} {p c g : Nat} {s : Sto} (hs : StoreAt H p c g s) (hg : s.Good) : Ev.Ok (D X (.fn 35 []) [.ptr p 0 0] H) (Bys H (storeE s)) := by
  refine Ok.aim fun Q hQ => ?_
  have hQ' := Hid.mk hQ
  clear hQ
  obtain ⟨cap, z, full, hp1, hc1, hcl, hpc, hok⟩ := hs
  have g0 := hok.h0
  have g1 := hok.h1
  have g2 := hok.h2
  have hn2 : s.n <= 300 := by unfold Sto.n; omega
  have hpl := hcells_lt hp1
  have hcl0 := hcells_lt hc1
  have hua := wrapU (n := s.a) (by omega)
  have hub := wrapU (n := s.b) (by omega)
  have hla := numE_len (n := s.a.toNat) (by omega)
  have hlb := numE_len (n := s.b.toNat) (by omega)
  obtain ⟨y1, e1, H1, ob1, hy1, w1, s1⟩ := wNum_at (H := H ++ [.cells 0 true [.sl .nil 0 0 0]]) (p := H.length) (ob := none) (bs := []) ⟨hc_new, rfl⟩ (c := s.a) (by omega) (by simp)
  subst hy1
  obtain ⟨y2, e2, H2, ob2, hy2, w2, s2⟩ := wNum_at w1 (c := s.b) (by omega) (by simp; omega)
  subst hy2
  obtain ⟨y3, e3, H3, ob3, hy3, w3, s3⟩ := wBool_at w2 s.fz (by simp; omega)
  subst hy3
  have st := (s1.trans s2).trans s3
  obtain ⟨k3, b3⟩ := st.keepC (H0 := H) ⟨by simp, fun i g q hc => by rw [hcells_app (hcells_lt hc)]; exact hc⟩ (Nat.le_refl _) (fun b e => by cases e)
  have hpp1 := s1.keeps.cells (p := (true, [.int .i64 s.a, .int .i64 s.b, .bool s.fz, .sl (.at c g 0) s.n cap z])) (by rw [hcells_app hpl]; exact hp1) (by simp; omega)
  have hpp2 := (s1.trans s2).keeps.cells (p := (true, [.int .i64 s.a, .int .i64 s.b, .bool s.fz, .sl (.at c g 0) s.n cap z])) (by rw [hcells_app hpl]; exact hp1) (by simp; omega)
  have hpp3 := k3.2 _ _ _ hp1
  have hbl : ([] ++ numE s.a.toNat ++ numE s.b.toNat ++ [if s.fz then 1 else 0]).length <= 30 := by simp; omega
  have hfin : ∀ H' ob', WrAt H' H.length ob' ([] ++ numE s.a.toNat ++ numE s.b.toNat ++ [if s.fz then 1 else 0] ++ cellsE s s.n) -> WStep H.length ob3 ob' H3 H' -> Hid (D X (.fn 37 []) [.ptr H.length 0 0] H' = some (.sl (.at H'.length 0 0) (storeE s).length (storeE s).length 1, H' ++ [.cells 0 true (bV (storeE s))]) /\ Q (.sl (.at H'.length 0 0) (storeE s).length (storeE s).length 1, H' ++ [.cells 0 true (bV (storeE s))])) := by
    intro H' ob' hw hst
    have e : [] ++ numE s.a.toNat ++ numE s.b.toNat ++ [if s.fz then 1 else 0] ++ cellsE s s.n = storeE s := by unfold storeE; rw [List.nil_append]
    rw [e] at hw
    have hl := cellsE_len hg s.n
    refine ⟨wBytes_at hw ?_ ?_, hQ'.out _ ⟨H'.length, 0, 1, rfl, .inr rfl, hc_new, ?_, ?_⟩⟩
    · rw [<- e]; simp
    · rw [<- e, List.length_append]; omega
    · have := hst.1.1; have := k3.1; omega
    · refine Keeps.snoc ⟨by have := hst.1.1; have := k3.1; omega, fun i hi _ => ?_⟩ _
      have h4 := (st.trans hst).1.2 i (by simp; omega) (by simp; omega)
      rw [h4, List.getElem?_append_left hi]
  have hfin' := Hid.mk hfin
  have b3' := Hid.mk b3
  have k3' := Hid.mk k3
  have hg' := Hid.mk hg
  have hcl' := Hid.mk hcl
  have w3' := Hid.mk w3
  generalize [] ++ numE s.a.toNat ++ numE s.b.toNat ++ [if s.fz then 1 else 0] = B0 at w3' hfin' hbl
  clear hfin b3 k3 hg hcl w1 w2 w3 s1 s2 s3 st hla hlb hQ'
  (refine Ok.body body35 pin35 ?_; simp only [c35,Try.f35,Option.getD_some,nslot35,List.append_nil,List.map,List.replicate,List.length_cons,List.length_nil,Nat.reduceAdd,Nat.reduceSub,List.cons_append,List.nil_append])
  (repeat' (first | (simp -implicitDefEqProofs (maxSteps := 1000000) (disch := first | assumption | omega | (simp only [ZDI]; omega)) only [*,lenV,G35,Za,Zb,Zc,Zd,Ze,Zf,Zg,Zh,Zi,Zj,Zk,Zl,Zm,Zn,Zo,Ja,Jb,Jc,J6,Jd,Je,J7,J8,Jf,Jg,Jh,Ji,Jj,Jk,J9,Jl,Jm,wr,Jn,JA,JB,Jo,Jp,Jq,Jr,Js,Jt,Ju,Jv,Jw,Jx,Jy,Jz,J0,J1,J2,J3,J4,J5,reduceCtorEq,JC,JD,JE,JF,JG,JH,JI,JJ]) | ((with_reducible (first | apply Ok.br | apply Ok.gd | apply Ok.ld)) <;> (intro g; (try simp only [ZGS] at g); try (exfalso; omega)))))
  refine Ok.loop [BF, BF, BF, BF, BF, BT, BF, BT, BF, BF, BF, BF, BF, BF, BF, BF, BF, BF, BF, BF, BF, BF, BF, BF, BF, BF, BF, BF, BF, BF, BF, BF, BF, BF, BF, BF, BF, BF, BF, BT, BT, BT, BT, BT, BT, BT, BT, BT, BT, BT, BT, BT, BT, BT, BT, BT, BT, BT, BF, BF] (fun n s2 => ∃ (i w : Nat) (q : List V) (ob' : Option Nat), n = s.n - i /\ i <= s.n /\ tv s2.e 39 = .v (.int .i64 i) /\ s2.l = [(w, q)] /\ WrAt s2.h H.length ob' (B0 ++ cellsE s i) /\ WStep H.length ob3 ob' H3 s2.h)
    (fun y s2 => y = .exit 0 /\ ∃ (w : Nat) (q : List V) (ob' : Option Nat), s2.l = [(w, q)] /\ WrAt s2.h H.length ob' (B0 ++ cellsE s s.n) /\ WStep H.length ob3 ob' H3 s2.h)
    (s.n - 0) ⟨0, _, _, ob3, rfl, Nat.zero_le _, rfl, rfl, by rw [cellsE, List.append_nil]; exact w3'.out, WStep.refl _ _ _ (by intro h b e; rw [h] at e; cases e)⟩ ?_ ?_
  · intro n ⟨e', l', G⟩ hW ⟨i, w, q, ob', hm, hi, h39, k2, hwr, hst⟩
    dsimp only at hW h39 k2 hwr hst
    subst l'
    rw [hW.spread]
    simp only [spread_t,spread_f,spread_n,Nat.zero_add,Nat.reduceAdd,h39]
    clear hW
    by_cases hlt : i < s.n
    · have hlt' : (i : Int) < (s.n : Int) := by omega
      have g1 : 0 <= (i : Int) /\ (i : Int) < (s.n : Int) := by omega
      obtain ⟨f1, f2⟩ := hcl'.out.five hlt
      have e5 : i * 5 + 5 <= full.length := by rw [hcl'.out.1]; omega
      have hcG := (hst.keepC k3'.out (Nat.le_refl _) b3'.out).1.2 _ _ _ hc1
      have hL0 := cellsE_len hg'.out i
      have hsz := hg'.out.size i
      have htl := textE_len (s.txt i)
      have m0 := hg'.out.mark i 0
      have m1 := hg'.out.mark i 1
      have m2 := hg'.out.mark i 2
      have m3 := hg'.out.mark i 3
      have n0 := numE_len (n := (s.mrk i 0).toNat) (by omega)
      have n1 := numE_len (n := (s.mrk i 1).toNat) (by omega)
      have n2 := numE_len (n := (s.mrk i 2).toNat) (by omega)
      have n3 := numE_len (n := (s.mrk i 3).toNat) (by omega)
      have u0 := wrapU (n := s.mrk i 0) (by omega)
      have u1 := wrapU (n := s.mrk i 1) (by omega)
      have u2 := wrapU (n := s.mrk i 2) (by omega)
      have u3 := wrapU (n := s.mrk i 3) (by omega)
      obtain ⟨y4, e4, H4, ob4, hy4, w4, s4⟩ := wText_at hwr (s.txt i) (by rw [List.length_append]; omega)
      subst hy4
      obtain ⟨y5, e5', H5, ob5, hy5, w5, s5⟩ := wNum_at w4 (c := s.mrk i 0) (by omega) (by simp only [List.length_append]; omega)
      subst hy5
      obtain ⟨y6, e6, H6, ob6, hy6, w6, s6⟩ := wNum_at w5 (c := s.mrk i 1) (by omega) (by simp only [List.length_append]; omega)
      subst hy6
      obtain ⟨y7, e7, H7, ob7, hy7, w7, s7⟩ := wNum_at w6 (c := s.mrk i 2) (by omega) (by simp only [List.length_append]; omega)
      subst hy7
      obtain ⟨y8, e8, H8, ob8, hy8, w8, s8⟩ := wNum_at w7 (c := s.mrk i 3) (by omega) (by simp only [List.length_append]; omega)
      subst hy8
      have w9 : Hid (WrAt H8 H.length ob8 (B0 ++ cellsE s (i + 1))) := ⟨by rw [cellsE]; unfold cellE; simpa only [List.append_assoc] using w8⟩
      have s9 := Hid.mk ((((hst.trans s4).trans s5).trans s6).trans (s7.trans s8))
      clear w4 w5 w6 w7 w8 s4 s5 s6 s7 s8 hwr hst hL0 hsz htl m0 m1 m2 m3 n0 n1 n2 n3 hc1 hp1 e1 e2 e3
      (repeat' (first | (simp -implicitDefEqProofs (maxSteps := 1000000) (disch := first | assumption | omega | (simp only [ZDI]; omega)) only [*,lenV,indexV,G35,Za,Zb,Zc,Zd,Ze,Zf,Zg,Zh,Zi,Zj,Zk,Zl,Zm,Zn,Zo,Ja,Jb,Jc,J6,Jd,Je,J7,J8,Jf,Jg,Jh,Ji,Jj,Jk,J9,Jl,Jm,wr,Jn,JA,JB,Jo,Jp,Jq,Jr,Js,Jt,Ju,Jv,Jw,Jx,Jy,Jz,J0,J1,J2,J3,J4,J5,reduceCtorEq,JC,JD,JE,JF,JG,JH,JI,JJ]) | ((with_reducible (first | apply Ok.br | apply Ok.gd | apply Ok.ld)) <;> (intro g; (try simp only [ZGS] at g); try (exfalso; omega)))))
      refine Ok.unroll ?_
      (repeat' (first | (simp -implicitDefEqProofs (maxSteps := 1000000) (disch := first | assumption | omega | (simp only [ZDI]; omega)) only [*,lenV,indexV,G35,Za,Zb,Zc,Zd,Ze,Zf,Zg,Zh,Zi,Zj,Zk,Zl,Zm,Zn,Zo,Ja,Jb,Jc,J6,Jd,Je,J7,J8,Jf,Jg,Jh,Ji,Jj,Jk,J9,Jl,Jm,wr,Jn,JA,JB,Jo,Jp,Jq,Jr,Js,Jt,Ju,Jv,Jw,Jx,Jy,Jz,J0,J1,J2,J3,J4,J5,reduceCtorEq,JC,JD,JE,JF,JG,JH,JI,JJ]) | ((with_reducible (first | apply Ok.br | apply Ok.gd | apply Ok.ld)) <;> (intro g; (try simp only [ZGS] at g); try (exfalso; omega)))))
      refine Ok.unroll ?_
      (repeat' (first | (simp -implicitDefEqProofs (maxSteps := 1000000) (disch := first | assumption | omega | (simp only [ZDI]; omega)) only [*,lenV,indexV,G35,Za,Zb,Zc,Zd,Ze,Zf,Zg,Zh,Zi,Zj,Zk,Zl,Zm,Zn,Zo,Ja,Jb,Jc,J6,Jd,Je,J7,J8,Jf,Jg,Jh,Ji,Jj,Jk,J9,Jl,Jm,wr,Jn,JA,JB,Jo,Jp,Jq,Jr,Js,Jt,Ju,Jv,Jw,Jx,Jy,Jz,J0,J1,J2,J3,J4,J5,reduceCtorEq,JC,JD,JE,JF,JG,JH,JI,JJ]) | ((with_reducible (first | apply Ok.br | apply Ok.gd | apply Ok.ld)) <;> (intro g; (try simp only [ZGS] at g); try (exfalso; omega)))))
      refine Ok.unroll ?_
      (repeat' (first | (simp -implicitDefEqProofs (maxSteps := 1000000) (disch := first | assumption | omega | (simp only [ZDI]; omega)) only [*,lenV,indexV,G35,Za,Zb,Zc,Zd,Ze,Zf,Zg,Zh,Zi,Zj,Zk,Zl,Zm,Zn,Zo,Ja,Jb,Jc,J6,Jd,Je,J7,J8,Jf,Jg,Jh,Ji,Jj,Jk,J9,Jl,Jm,wr,Jn,JA,JB,Jo,Jp,Jq,Jr,Js,Jt,Ju,Jv,Jw,Jx,Jy,Jz,J0,J1,J2,J3,J4,J5,reduceCtorEq,JC,JD,JE,JF,JG,JH,JI,JJ]) | ((with_reducible (first | apply Ok.br | apply Ok.gd | apply Ok.ld)) <;> (intro g; (try simp only [ZGS] at g); try (exfalso; omega)))))
      refine Ok.unroll ?_
      (repeat' (first | (simp -implicitDefEqProofs (maxSteps := 1000000) (disch := first | assumption | omega | (simp only [ZDI]; omega)) only [*,lenV,indexV,G35,Za,Zb,Zc,Zd,Ze,Zf,Zg,Zh,Zi,Zj,Zk,Zl,Zm,Zn,Zo,Ja,Jb,Jc,J6,Jd,Je,J7,J8,Jf,Jg,Jh,Ji,Jj,Jk,J9,Jl,Jm,wr,Jn,JA,JB,Jo,Jp,Jq,Jr,Js,Jt,Ju,Jv,Jw,Jx,Jy,Jz,J0,J1,J2,J3,J4,J5,reduceCtorEq,JC,JD,JE,JF,JG,JH,JI,JJ]) | ((with_reducible (first | apply Ok.br | apply Ok.gd | apply Ok.ld)) <;> (intro g; (try simp only [ZGS] at g); try (exfalso; omega)))))
      refine Ok.unroll ?_
      (repeat' (first | (simp -implicitDefEqProofs (maxSteps := 1000000) (disch := first | assumption | omega | (simp only [ZDI]; omega)) only [*,lenV,indexV,G35,Za,Zb,Zc,Zd,Ze,Zf,Zg,Zh,Zi,Zj,Zk,Zl,Zm,Zn,Zo,Ja,Jb,Jc,J6,Jd,Je,J7,J8,Jf,Jg,Jh,Ji,Jj,Jk,J9,Jl,Jm,wr,Jn,JA,JB,Jo,Jp,Jq,Jr,Js,Jt,Ju,Jv,Jw,Jx,Jy,Jz,J0,J1,J2,J3,J4,J5,reduceCtorEq,JC,JD,JE,JF,JG,JH,JI,JJ]) | ((with_reducible (first | apply Ok.br | apply Ok.gd | apply Ok.ld)) <;> (intro g; (try simp only [ZGS] at g); try (exfalso; omega)))))
      exact Turn.next (s.n - (i + 1)) (by omega) ⟨rfl, i + 1, _, _, ob8, rfl, by omega, rfl, rfl, w9.out, s9.out⟩
    · have hlt' : ¬ (i : Int) < (s.n : Int) := by omega
      have hin : i = s.n := by omega
      subst hin
      have w2' := Hid.mk hwr
      have s2' := Hid.mk hst
      clear hwr hst e1 e2 e3
      (repeat' (first | (simp -implicitDefEqProofs (maxSteps := 1000000) (disch := first | assumption | omega | (simp only [ZDI]; omega)) only [*,lenV,indexV,G35,Za,Zb,Zc,Zd,Ze,Zf,Zg,Zh,Zi,Zj,Zk,Zl,Zm,Zn,Zo,Ja,Jb,Jc,J6,Jd,Je,J7,J8,Jf,Jg,Jh,Ji,Jj,Jk,J9,Jl,Jm,wr,Jn,JA,JB,Jo,Jp,Jq,Jr,Js,Jt,Ju,Jv,Jw,Jx,Jy,Jz,J0,J1,J2,J3,J4,J5,reduceCtorEq,JC,JD,JE,JF,JG,JH,JI,JJ]) | ((with_reducible (first | apply Ok.br | apply Ok.gd | apply Ok.ld)) <;> (intro g; (try simp only [ZGS] at g); try (exfalso; omega)))))
      exact Turn.exit ⟨rfl, rfl, w, q, ob', rfl, w2'.out, s2'.out⟩
  · intro y ⟨e', l', G⟩ hW ⟨hy, w, q, ob', k2, hwr, hst⟩
    dsimp only at hW k2 hwr hst
    subst l' hy
    rw [hW.spread]
    clear hW
    simp only [spread_t,spread_f,spread_n,Nat.zero_add,Nat.reduceAdd]
    obtain ⟨hq⟩ := hfin'.out G ob' hwr hst
    obtain ⟨q1, q2⟩ := hq
    have hq2 := Hid.mk q2
    clear hwr hst q2 e1 e2 e3
    (repeat' (first | (simp -implicitDefEqProofs (maxSteps := 1000000) (disch := first | assumption | omega | (simp only [ZDI]; omega)) only [*,G35,Za,Zb,Zc,Zd,Ze,Zf,Zg,Zh,Zi,Zj,Zk,Zl,Zm,Zn,Zo,Ja,Jb,Jc,J6,Jd,Je,J7,J8,Jf,Jg,Jh,Ji,Jj,Jk,J9,Jl,Jm,wr,Jn,JA,JB,Jo,Jp,Jq,Jr,Js,Jt,Ju,Jv,Jw,Jx,Jy,Jz,J0,J1,J2,J3,J4,J5,reduceCtorEq,JC,JD,JE,JF,JG,JH,JI,JJ]) | ((with_reducible (first | apply Ok.br | apply Ok.gd | apply Ok.ld)) <;> (intro g; (try simp only [ZGS] at g); try (exfalso; omega)))))
    exact hq2.out
end Go.Ev
