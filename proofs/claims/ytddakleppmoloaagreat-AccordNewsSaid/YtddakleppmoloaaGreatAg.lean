/-
Texts of this claim, one behind the other.
-/
import Derived.Test.YtddakleppmoloaaGreatAf
set_option linter.unusedSimpArgs false
set_option linter.unusedVariables false
set_option maxRecDepth 100000
set_option maxRecDepth 100000
namespace Go.Ev
open Go.Ev renaming exPure -> Ja, ofValue -> Jb, cellsV -> Jc, load -> Jd, store -> Je, binOp -> Jf, intOp -> Jg, rdV -> Jh, vsame -> Ji, vsames -> Jj, makeSliceV -> Jk, resV -> Jl, isCell -> Jm, nilCheckV -> Jn, allV -> Jo, builtinV -> Jp, lenV -> Jq, indexAddrV -> Jr, unOp -> Js, minmaxV -> Jt, minmax -> Ju, sliceV -> Jv, asInt -> Jw, appendV -> Jx, forkB -> Jy, roY -> Jz, rwB -> J0, copyV -> J1, clearV -> J2, convV -> J3, sliceCells -> J4, shift -> J5
open Bool renaming true -> BT, false -> BF
open Nat renaming reduceEqDiff -> J6, reduceLT -> J7, reduceAdd -> J8, reduceBEq -> J9, reduceSub -> JA, reduceMul -> JB, reduceLeDiff -> JJ
open Int renaming reduceLT -> JC, reduceLE -> JD, reduceAdd -> JE, reduceSub -> JF, reduceNeg -> JG, reduceToNat -> JH, reduceEq -> JI
open Go.Proofs
theorem mayB_dl {x : In} (h : mayB x = true) : x.dl.length <= 5000 /\ x.pl.length <= 5000 := by
  unfold mayB nonB bodB at h
  simp only [Bool.and_eq_true] at h
  obtain ⟨_, h⟩ := h
  by_cases hs : x.st = 0
  · rw [decide_eq_true hs] at h
    simp only [cond_true,Bool.and_eq_true,decide_eq_true_eq] at h
    obtain ⟨⟨_, _, h1⟩, h2⟩ := h
    rw [h1, h2]; simp
  · rw [decide_eq_false hs] at h
    simp only [cond_false,Bool.and_eq_true,decide_eq_true_eq] at h
    obtain ⟨h1, _, h2⟩ := h
    refine ⟨?_, by omega⟩
    unfold mayP at h1
    omega
set_option maxHeartbeats 4000000 in
theorem get_at {h : Heap} {b m : Nat} {L : List In} (ht : TabAt h b m L) (k : RP) :
    ∃ (x : In) (l : List Blk), D X (.fn 42 []) [.ptr b 0 0, .agg [.int .i64 k.1, .int .i64 k.2]] h = some (.tup [.agg (inV x), .bool (isL L k)], h ++ l) /\ x.core = (getL L k).core /\ InAt (h ++ l) x := by
  obtain ⟨ex, es, c, hm, he⟩ := ht.map
  have hlk := fun e l => lookup_tab hm he k true e l
  have hg : InAt h (getL L k) /\ (getL L k).dl.length <= 5000 /\ (getL L k).pl.length <= 5000 := by
    unfold getL
    cases hx : L.find? (fun y => decide (k = y.key)) with
    | none => exact ⟨InAt.z0 h, by decide, by decide⟩
    | some y => exact ht.at_ y (List.mem_of_find?_eq_some hx)
  obtain ⟨x, bl, h1, h2, h3⟩ := own_in hg.1 hg.2.1 hg.2.2 h.length
  refine ⟨x, bl, ?_, h2, h3 _ (KeepC.app _ _) (Nat.le_refl _) fun j hj => by rw [List.getElem?_append_right (by omega), Nat.add_sub_cancel_left]⟩
  have hc := ht.cell
  have hown := own_at h1
  generalize isL L k = is at hlk ⊢
  generalize getL L k = y at hlk hown
  clear h1 h2 h3 hg he hm ht
  simp only [inV,outV,cond_true] at hown hlk ⊢
  refine Ok.eq ?_
  (refine Ok.body body42 pin42 ?_; simp only [c42,Tryz.f42,Option.getD_some,nslot42,List.append_nil,List.map,List.replicate,List.length_cons,List.length_nil,Nat.reduceAdd,Nat.reduceSub,List.cons_append,List.nil_append])
  (repeat' (first | (simp -implicitDefEqProofs (maxSteps := 1000000) (disch := first | assumption | omega | (simp only [ZDI]; omega)) only [*,exOp_lookup,G42,Za,Zb,Zc,Zd,Ze,Zf,Zg,Zh,Zi,Zj,Zk,Zl,Zm,Zn,Zo,Ja,Jb,Jc,J6,Jd,Je,J7,J8,Jf,Jg,Jh,Ji,Jj,Jk,J9,Jl,Jm,wr,Jn,JA,JB,Jo,Jp,Jq,Jr,Js,Jt,Ju,Jv,Jw,Jx,Jy,Jz,J0,J1,J2,J3,J4,J5,reduceCtorEq,JC,JD,JE,JF,JG,JH,JI,JJ]) | ((with_reducible (first | apply Ok.br | apply Ok.gd | apply Ok.ld)) <;> (intro g; (try simp only [ZGS] at g); try (exfalso; omega)))))
theorem len_at {h : Heap} {b m : Nat} {L : List In} (ht : TabAt h b m L) : D X (.fn 58 []) [.ptr b 0 0] h = some (.int .i64 L.length, h) := by
  obtain ⟨ex, es, c, hm, he⟩ := ht.map
  have hc := ht.cell
  rw [<- TabAt.len he]
  clear ht he
  refine Ok.eq ?_
  (refine Ok.body body58 pin58 ?_; simp only [c58,Tryz.f58,Option.getD_some,nslot58,List.append_nil,List.map,List.replicate,List.length_cons,List.length_nil,Nat.reduceAdd,Nat.reduceSub,List.cons_append,List.nil_append])
  (repeat' (first | (simp -implicitDefEqProofs (maxSteps := 1000000) (disch := first | assumption | omega | (simp only [ZDI]; omega)) only [*,lenV,G58,Za,Zb,Zc,Zd,Ze,Zf,Zg,Zh,Zi,Zj,Zk,Zl,Zm,Zn,Zo,Ja,Jb,Jc,J6,Jd,Je,J7,J8,Jf,Jg,Jh,Ji,Jj,Jk,J9,Jl,Jm,wr,Jn,JA,JB,Jo,Jp,Jq,Jr,Js,Jt,Ju,Jv,Jw,Jx,Jy,Jz,J0,J1,J2,J3,J4,J5,reduceCtorEq,JC,JD,JE,JF,JG,JH,JI,JJ]) | ((with_reducible (first | apply Ok.br | apply Ok.gd | apply Ok.ld)) <;> (intro g; (try simp only [ZGS] at g); try (exfalso; omega)))))
def putE (L : List In) (x : In) : Int := if mayB x then (if x.key ∈ L.map In.key \/ L.length < 4096 then 0 else 2) else 1
theorem isL_iff {L : List In} {k : RP} : isL L k = decide (k ∈ L.map In.key) := by
  unfold isL
  by_cases hk : k ∈ L.map In.key
  · rw [decide_eq_true hk]
    obtain ⟨y, hy, he⟩ := List.mem_map.1 hk
    rw [List.find?_isSome]
    exact ⟨y, hy, by simp [he]⟩
  · rw [decide_eq_false hk]
    cases hx : L.find? (fun y => decide (k = y.key)) with
    | none => rfl
    | some y =>
      exfalso
      refine hk (List.mem_map.2 ⟨y, List.mem_of_find?_eq_some hx, ?_⟩)
      have := List.find?_some hx
      simp at this
      exact this.symm
theorem putL_keys (L : List In) (x : In) : (putL L x).map In.key = if x.key ∈ L.map In.key then L.map In.key else L.map In.key ++ [x.key] := by
  unfold putL
  split
  · rw [List.map_map]
    refine List.map_congr_left fun y _ => ?_
    show In.key (if y.key = x.key then x else y) = y.key
    split
    · rename_i h; exact h.symm
    · rfl
  · rw [List.map_append]; rfl
theorem putL_nodup {L : List In} {x : In} (h : (L.map In.key).Nodup) : ((putL L x).map In.key).Nodup := by
  rw [putL_keys]
  split
  · exact h
  · rename_i hn
    exact List.nodup_append.2 ⟨h, by simp, fun a ha b hb => by rw [List.mem_singleton.1 hb]; rintro rfl; exact hn ha⟩
theorem putL_mem {L : List In} {x y : In} (h : y ∈ putL L x) : y = x \/ y ∈ L := by
  unfold putL at h
  split at h
  · obtain ⟨z, hz, he⟩ := List.mem_map.1 h
    split at he
    · exact .inl he.symm
    · exact .inr (he ▸ hz)
  · rcases List.mem_append.1 h with h | h
    · exact .inr h
    · exact .inl (List.mem_singleton.1 h)
set_option maxHeartbeats 8000000 in
theorem put_at {h : Heap} {b m : Nat} {L : List In} (ht : TabAt h b m L) {x : In} (hx : InAt h x) :
    ∃ (h' : Heap) (x' : In), D X (.fn 43 []) [.ptr b 0 0, .agg (inV x)] h = some (.int .i64 (putE L x), h') /\ x'.core = x.core /\ TabAt h' b m (if putE L x = 0 then putL L x' else L) /\ KeepC h h' /\ Keeps [m] h h' := by
  obtain ⟨ex, es, c, hm, he⟩ := ht.map
  have hml := (List.getElem?_eq_some_iff.1 hm).1
  have hmay := mayI_at hx
  cases hmb : mayB x with
  | false =>
    rw [hmb] at hmay
    have hpe : putE L x = 1 := by unfold putE; rw [hmb]; rfl
    rw [hpe]
    refine ⟨h, x, ?_, rfl, by rw [if_neg (by decide)]; exact ht, KeepC.refl h, Keeps.refl _ h⟩
    obtain ⟨a, cap, z, e1⟩ := hx.1.sl
    obtain ⟨a3, cap3, z3, e3⟩ := hx.2.sl
    simp only [inV,e1,e3] at hmay ⊢
    clear e1 e3 hx
    refine Ok.eq ?_
    (refine Ok.body body43 pin43 ?_; simp only [c43,Tryz.f43,Option.getD_some,nslot43,List.append_nil,List.map,List.replicate,List.length_cons,List.length_nil,Nat.reduceAdd,Nat.reduceSub,List.cons_append,List.nil_append])
    (repeat' (first | (simp -implicitDefEqProofs (maxSteps := 1000000) (disch := first | assumption | omega | (simp only [ZDI]; omega)) only [*,G43,Za,Zb,Zc,Zd,Ze,Zf,Zg,Zh,Zi,Zj,Zk,Zl,Zm,Zn,Zo,Ja,Jb,Jc,J6,Jd,Je,J7,J8,Jf,Jg,Jh,Ji,Jj,Jk,J9,Jl,Jm,wr,Jn,JA,JB,Jo,Jp,Jq,Jr,Js,Jt,Ju,Jv,Jw,Jx,Jy,Jz,J0,J1,J2,J3,J4,J5,reduceCtorEq,JC,JD,JE,JF,JG,JH,JI,JJ]) | ((with_reducible (first | apply Ok.br | apply Ok.gd | apply Ok.ld)) <;> (intro g; (try simp only [ZGS] at g); try (exfalso; omega)))))
  | true =>
    rw [hmb] at hmay
    obtain ⟨hd1, hd2⟩ := mayB_dl hmb
    have hlk := fun e l => lookup_tab hm he x.key true e l
    rw [isL_iff] at hlk
    generalize hd : decide (x.key ∈ L.map In.key) = is at hlk
    by_cases hfree : x.key ∈ L.map In.key \/ L.length < 4096
    · have hpe : putE L x = 0 := by unfold putE; rw [hmb, if_pos rfl, if_pos hfree]
      rw [hpe]
      obtain ⟨x', bl, h1, h2, h3⟩ := own_in hx hd1 hd2 h.length
      have hown := own_at h1
      have hkx : x'.key = x.key := by have := congrArg In.key h2; exact this
      have hko := keyOk_ref x.key (TabAt.keysM (h := h) he)
      have hkc : KeepC h ((h ++ bl).set m (.map ex (putM (elt x.key) (.agg (inV x')) es c).1 (putM (elt x.key) (.agg (inV x')) es c).2)) :=
        (KeepC.app h bl).trans (.setMap (by rw [List.getElem?_append_left hml]; exact hm))
      refine ⟨(h ++ bl).set m (.map ex (putM (elt x.key) (.agg (inV x')) es c).1 (putM (elt x.key) (.agg (inV x')) es c).2), x', ?_, h2, ?_, hkc, (Keeps.app [m] h bl).set (.inl (by simp)) _⟩
      · have hc := ht.cell
        have hlen := TabAt.len (L := L) he
        have hmm : ∀ y, (h ++ y)[m]? = some (.map ex es c) := fun y => by rw [List.getElem?_append_left hml]; exact hm
        have hbl := hcells_lt hc
        obtain ⟨a, cap, z, e1⟩ := hx.1.sl
        obtain ⟨a3, cap3, z3, e3⟩ := hx.2.sl
        obtain ⟨pm, hpm⟩ : ∃ pm, putM (elt x.key) (.agg (inV x')) es c = pm := ⟨_, rfl⟩
        rw [hpm]
        unfold elt at hpm hko
        simp only [inV,e1,e3,In.key,outV,cond_true] at hmay hown hlk hpm hko ⊢
        clear e1 e3 hx h1 h2 h3 hd1 hd2 hkc he ht
        generalize getL L (x.l, x.i) = y at hlk
        refine Ok.eq ?_
        by_cases hk : x.key ∈ L.map In.key
        · rw [decide_eq_true hk] at hd
          subst hd
          clear hk hfree
          (refine Ok.body body43 pin43 ?_; simp only [c43,Tryz.f43,Option.getD_some,nslot43,List.append_nil,List.map,List.replicate,List.length_cons,List.length_nil,Nat.reduceAdd,Nat.reduceSub,List.cons_append,List.nil_append])
          (repeat' (first | (simp -implicitDefEqProofs (maxSteps := 1000000) (disch := first | assumption | omega | (simp only [ZDI]; omega)) only [*,exOp_lookup,exOp_mapUpdate,updateV,G43,Za,Zb,Zc,Zd,Ze,Zf,Zg,Zh,Zi,Zj,Zk,Zl,Zm,Zn,Zo,Ja,Jb,Jc,J6,Jd,Je,J7,J8,Jf,Jg,Jh,Ji,Jj,Jk,J9,Jl,Jm,wr,Jn,JA,JB,Jo,Jp,Jq,Jr,Js,Jt,Ju,Jv,Jw,Jx,Jy,Jz,J0,J1,J2,J3,J4,J5,reduceCtorEq,JC,JD,JE,JF,JG,JH,JI,JJ]) | ((with_reducible (first | apply Ok.br | apply Ok.gd | apply Ok.ld)) <;> (intro g; (try simp only [ZGS] at g); try (exfalso; omega)))))
        · rw [decide_eq_false hk] at hd
          subst hd
          have hlt : ¬ (4096 : Int) <= (es.length : Int) := by
            rcases hfree with h | h
            · exact absurd h hk
            · omega
          clear hk hfree
          (refine Ok.body body43 pin43 ?_; simp only [c43,Tryz.f43,Option.getD_some,nslot43,List.append_nil,List.map,List.replicate,List.length_cons,List.length_nil,Nat.reduceAdd,Nat.reduceSub,List.cons_append,List.nil_append])
          (repeat' (first | (simp -implicitDefEqProofs (maxSteps := 1000000) (disch := first | assumption | omega | (simp only [ZDI]; omega)) only [*,exOp_lookup,exOp_mapUpdate,updateV,lenV,G43,Za,Zb,Zc,Zd,Ze,Zf,Zg,Zh,Zi,Zj,Zk,Zl,Zm,Zn,Zo,Ja,Jb,Jc,J6,Jd,Je,J7,J8,Jf,Jg,Jh,Ji,Jj,Jk,J9,Jl,Jm,wr,Jn,JA,JB,Jo,Jp,Jq,Jr,Js,Jt,Ju,Jv,Jw,Jx,Jy,Jz,J0,J1,J2,J3,J4,J5,reduceCtorEq,JC,JD,JE,JF,JG,JH,JI,JJ]) | ((with_reducible (first | apply Ok.br | apply Ok.gd | apply Ok.ld)) <;> (intro g; (try simp only [ZGS] at g); try (exfalso; omega)))))
      · rw [if_pos rfl]
        have hm2 : (((h ++ bl).set m (.map ex (putM (elt x.key) (.agg (inV x')) es c).1 (putM (elt x.key) (.agg (inV x')) es c).2)))[m]? = some (.map ex (putM (elt x.key) (.agg (inV x')) es c).1 (putM (elt x.key) (.agg (inV x')) es c).2) :=
          List.getElem?_set_self (by simp; omega)
        refine ⟨hkc.2 _ _ _ ht.cell, ⟨_, _, _, hm2, ?_⟩, fun y hy => ?_, putL_nodup ht.keys⟩
        · rw [<- hkx]; exact putM_tab he
        · rcases putL_mem hy with rfl | hy
          · have hl1 : y.dl = x.dl := by have := congrArg In.dl h2; exact this
            have hl2 : y.pl = x.pl := by have := congrArg In.pl h2; exact this
            refine ⟨?_, by rw [hl1]; exact hd1, by rw [hl2]; exact hd2⟩
            exact (h3 (h ++ bl) (KeepC.app _ _) (Nat.le_refl _) fun j hj => by rw [List.getElem?_append_right (by omega), Nat.add_sub_cancel_left]).keep (.setMap (by rw [List.getElem?_append_left hml]; exact hm))
          · exact ⟨(ht.at_ y hy).1.keep hkc, (ht.at_ y hy).2⟩
    · have hpe : putE L x = 2 := by unfold putE; rw [hmb, if_pos rfl, if_neg hfree]
      rw [hpe]
      refine ⟨h, x, ?_, rfl, by rw [if_neg (by decide)]; exact ht, KeepC.refl h, Keeps.refl _ h⟩
      have hk : x.key ∉ L.map In.key := fun h => hfree (.inl h)
      rw [decide_eq_false hk] at hd
      subst hd
      have hc := ht.cell
      have hlen := TabAt.len (L := L) he
      have hge : (4096 : Int) <= (es.length : Int) := by
        have : ¬ L.length < 4096 := fun h => hfree (.inr h)
        omega
      obtain ⟨a, cap, z, e1⟩ := hx.1.sl
      obtain ⟨a3, cap3, z3, e3⟩ := hx.2.sl
      simp only [inV,e1,e3,In.key,outV,cond_true] at hmay hlk ⊢
      clear e1 e3 hx hfree he ht hk
      generalize getL L (x.l, x.i) = y at hlk
      refine Ok.eq ?_
      (refine Ok.body body43 pin43 ?_; simp only [c43,Tryz.f43,Option.getD_some,nslot43,List.append_nil,List.map,List.replicate,List.length_cons,List.length_nil,Nat.reduceAdd,Nat.reduceSub,List.cons_append,List.nil_append])
      (repeat' (first | (simp -implicitDefEqProofs (maxSteps := 1000000) (disch := first | assumption | omega | (simp only [ZDI]; omega)) only [*,exOp_lookup,lenV,G43,Za,Zb,Zc,Zd,Ze,Zf,Zg,Zh,Zi,Zj,Zk,Zl,Zm,Zn,Zo,Ja,Jb,Jc,J6,Jd,Je,J7,J8,Jf,Jg,Jh,Ji,Jj,Jk,J9,Jl,Jm,wr,Jn,JA,JB,Jo,Jp,Jq,Jr,Js,Jt,Ju,Jv,Jw,Jx,Jy,Jz,J0,J1,J2,J3,J4,J5,reduceCtorEq,JC,JD,JE,JF,JG,JH,JI,JJ]) | ((with_reducible (first | apply Ok.br | apply Ok.gd | apply Ok.ld)) <;> (intro g; (try simp only [ZGS] at g); try (exfalso; omega)))))
end Go.Ev
set_option maxRecDepth 100000
namespace Go.Ev
open Go.Ev renaming exPure -> Ja, ofValue -> Jb, cellsV -> Jc, load -> Jd, store -> Je, binOp -> Jf, intOp -> Jg, rdV -> Jh, vsame -> Ji, vsames -> Jj, makeSliceV -> Jk, resV -> Jl, isCell -> Jm, nilCheckV -> Jn, allV -> Jo, builtinV -> Jp, lenV -> Jq, indexAddrV -> Jr, unOp -> Js, minmaxV -> Jt, minmax -> Ju, sliceV -> Jv, asInt -> Jw, appendV -> Jx, forkB -> Jy, roY -> Jz, rwB -> J0, copyV -> J1, clearV -> J2, convV -> J3, sliceCells -> J4, shift -> J5
open Bool renaming true -> BT, false -> BF
open Nat renaming reduceEqDiff -> J6, reduceLT -> J7, reduceAdd -> J8, reduceBEq -> J9, reduceSub -> JA, reduceMul -> JB, reduceLeDiff -> JJ
open Int renaming reduceLT -> JC, reduceLE -> JD, reduceAdd -> JE, reduceSub -> JF, reduceNeg -> JG, reduceToNat -> JH, reduceEq -> JI
open Go.Proofs
def flI : List In -> List V
  | [] => []
  | x :: l => .int .i64 x.l :: .int .i64 x.i :: .int .i64 x.bn :: .int .i64 x.bd :: .int .i64 x.vn :: .int .i64 x.vd :: .int .i64 x.st :: .bool x.sm :: .int .i64 x.o :: .int .i64 x.c :: .int .i64 x.q :: .int .i64 x.f :: .int .i64 x.t :: x.dv :: .int .i64 x.sq :: x.pv :: flI l
theorem flI_len : ∀ l : List In, (flI l).length = l.length * 16
  | [] => rfl
  | x :: l => by simp only [flI,List.length_cons,flI_len l]; omega
theorem flI_app : ∀ l m : List In, flI (l ++ m) = flI l ++ flI m
  | [], m => rfl
  | x :: l, m => by simp only [List.cons_append,flI,flI_app l m]
theorem fl_snocI (l : List In) (x : In) : (flI l).take (l.length * 16) ++ [V.int .i64 x.l, .int .i64 x.i, .int .i64 x.bn, .int .i64 x.bd, .int .i64 x.vn, .int .i64 x.vd, .int .i64 x.st, .bool x.sm, .int .i64 x.o, .int .i64 x.c, .int .i64 x.q, .int .i64 x.f, .int .i64 x.t, x.dv, .int .i64 x.sq, x.pv] = flI (l ++ [x]) := by
  rw [flI_app, List.take_of_length_le (by rw [flI_len]; exact Nat.le_refl _)]; rfl
def InsAt (h : Heap) (v : V) (l : List In) : Prop :=
  ∃ a cap z, v = .sl a l.length cap z /\ l.length <= 9223372036854775807 /\ (∀ x ∈ l, InAt h x) /\ (l = [] \/ ∃ b g o rw full, a = .at b g o /\ hcells h b g = some (rw, full) /\ (∀ (i : Nat) (x : In), l[i]? = some x -> (full.drop (o + i * 16)).take 16 = inV x) /\ o + l.length * 16 <= full.length)
theorem InsAt.keep {h h' : Heap} {v : V} {l : List In} (hs : InsAt h v l) (k : KeepC h h') : InsAt h' v l := by
  obtain ⟨a, cap, z, h1, h2, h3, h4⟩ := hs
  refine ⟨a, cap, z, h1, h2, fun x hx => (h3 x hx).keep k, h4.imp id ?_⟩
  rintro ⟨b, g, o, rw, full, e1, e2, e3⟩
  exact ⟨b, g, o, rw, full, e1, k.2 _ _ _ e2, e3⟩
theorem InsAt.sl {h : Heap} {v : V} {l : List In} (hs : InsAt h v l) : ∃ a cap z, v = .sl a l.length cap z := let ⟨a, cap, z, e, _⟩ := hs; ⟨a, cap, z, e⟩
def GroI (h g : Heap) (w : V) (l : List In) : Prop :=
  (l = [] /\ w = .sl .nil 0 0 0) \/ ∃ b q, w = .sl (.at b q 0) l.length l.length 16 /\ h.length <= b /\ hcells g b q = some (true, flI l)
def findL (l : List In) (k : RP) : Int := match l.findIdx? (fun y => decide (y.key = k)) with | some i => i | none => -1
theorem findL_none {l : List In} {k : RP} (h : ∀ y ∈ l, ¬ y.key = k) : findL l k = -1 := by
  unfold findL
  rw [List.findIdx?_eq_none_iff.2 fun y hy => by simp [h y hy]]
theorem findL_some {l : List In} {k : RP} {i : Nat} {y : In} (hy : l[i]? = some y) (hk : y.key = k) (hn : ∀ y ∈ l.take i, ¬ y.key = k) : findL l k = i := by
  unfold findL
  have hi := (List.getElem?_eq_some_iff.1 hy).1
  have : l.findIdx? (fun y => decide (y.key = k)) = some i := by
    rw [List.findIdx?_eq_some_iff_getElem]
    refine ⟨hi, ?_, fun j hj => ?_⟩
    · have := (List.getElem?_eq_some_iff.1 hy).2
      rw [this]; simp [hk]
    · have hm : l[j] ∈ l.take i := by
        rw [List.mem_iff_getElem]
        exact ⟨j, by simp; omega, by simp⟩
      simp [hn _ hm]
  rw [this]
set_option maxHeartbeats 4000000 in
theorem find_at {h : Heap} {v : V} {l : List In} (hr : InsAt h v l) (k : RP) : D X (.fn 13 []) [v, .agg [.int .i64 k.1, .int .i64 k.2]] h = some (.int .i64 (findL l k), h) := by
  refine Ok.eq ?_
  refine Ok.aim fun Q hQ => ?_
  have hQ' := Hid.mk hQ
  clear hQ
  obtain ⟨a, cap, z, rfl, h1, hall, h2⟩ := hr
  clear hall
  obtain ⟨k1, k2⟩ := k
  (refine Ok.body body13 pin13 ?_; simp only [c13,Tryz.f13,Option.getD_some,nslot13,List.append_nil,List.map,List.replicate,List.length_cons,List.length_nil,Nat.reduceAdd,Nat.reduceSub,List.cons_append,List.nil_append])
  (repeat' (first | (simp -implicitDefEqProofs (maxSteps := 1000000) (disch := first | assumption | omega | (simp only [ZDI]; omega)) only [*,lenV,G13,Za,Zb,Zc,Zd,Ze,Zf,Zg,Zh,Zi,Zj,Zk,Zl,Zm,Zn,Zo,Ja,Jb,Jc,J6,Jd,Je,J7,J8,Jf,Jg,Jh,Ji,Jj,Jk,J9,Jl,Jm,wr,Jn,JA,JB,Jo,Jp,Jq,Jr,Js,Jt,Ju,Jv,Jw,Jx,Jy,Jz,J0,J1,J2,J3,J4,J5,reduceCtorEq,JC,JD,JE,JF,JG,JH,JI,JJ]) | ((with_reducible (first | apply Ok.br | apply Ok.gd | apply Ok.ld)) <;> (intro g; (try simp only [ZGS] at g); try (exfalso; omega)))))
  refine Ok.loop [BF, BF, BF, BF, BT, BT, BT, BF, BF, BT, BT, BT, BT, BT, BT, BT, BT, BT, BT, BT] (fun m s2 => ∃ (i w1 : Nat) (q1 : List V), m = l.length - i /\ i <= l.length /\ tv s2.e 9 = .v (.int .i64 i) /\ s2.l = [(1, [.int .i64 k1, .int .i64 k2]), (w1, q1)] /\ s2.h = h /\ ∀ y ∈ l.take i, ¬ y.key = (k1, k2))
    (fun y s2 => s2.h = h /\ (∃ (w1 : Nat) (q1 : List V), s2.l = [(1, [.int .i64 k1, .int .i64 k2]), (w1, q1)]) /\ ((y = .exit 0 /\ findL l (k1, k2) = -1) \/ (y = .ret /\ tv s2.e 4 = .v (.int .i64 (findL l (k1, k2)))))) (l.length - 0) ⟨0, 0, [], rfl, Nat.zero_le _, rfl, rfl, rfl, by simp⟩ ?_ ?_
  · intro n ⟨e', l', H'⟩ hW ⟨i, w1, q1, hm, hi, h9, k2', k3, hno⟩
    dsimp only at hW h9 k2' k3
    subst l' H'
    rw [hW.spread]
    simp only [spread_t,spread_f,spread_n,Nat.zero_add,Nat.reduceAdd,h9]
    clear hW hQ'
    have hno' := Hid.mk hno
    clear hno
    by_cases hlt : i < l.length
    · have hlt' : (i : Int) < (l.length : Int) := by omega
      have g1 : 0 <= (i : Int) /\ (i : Int) < (l.length : Int) := by omega
      rcases h2 with rfl | ⟨b, q, o, rw, full, rfl, hb, hfull, ho⟩
      · simp at hlt
      · obtain ⟨y, hy⟩ : ∃ y, l[i]? = some y := ⟨_, List.getElem?_eq_getElem hlt⟩
        have hf := hfull i y hy
        simp only [inV] at hf
        have hk : (y.key = (k1, k2)) ↔ (y.l = k1 /\ y.i = k2) := by unfold In.key; simp
        have ho2 : o + i * 16 + 16 <= full.length := by omega
        have hk' := Hid.mk hk
        have hy' := Hid.mk hy
        clear hk hy hfull ho
        have hnext : Hid (¬ y.key = (k1, k2) -> ∀ y ∈ l.take (i + 1), ¬ y.key = (k1, k2)) := ⟨fun hn z hz => by
          rw [List.take_add_one, hy'.out] at hz
          rcases List.mem_append.1 hz with hz | hz
          · exact hno'.out z hz
          · simp at hz; rw [hz]; exact hn⟩
        cases hd1 : decide (y.l = k1) with
        | true =>
          cases hd2 : decide (y.i = k2) with
          | true =>
            have hfin := Hid.mk (findL_some hy'.out (hk'.out.2 ⟨of_decide_eq_true hd1, of_decide_eq_true hd2⟩) hno'.out)
            (repeat' (first | (simp -implicitDefEqProofs (maxSteps := 1000000) (disch := first | assumption | omega | (simp only [ZDI]; omega)) only [*,lenV,G13,Za,Zb,Zc,Zd,Ze,Zf,Zg,Zh,Zi,Zj,Zk,Zl,Zm,Zn,Zo,Ja,Jb,Jc,J6,Jd,Je,J7,J8,Jf,Jg,Jh,Ji,Jj,Jk,J9,Jl,Jm,wr,Jn,JA,JB,Jo,Jp,Jq,Jr,Js,Jt,Ju,Jv,Jw,Jx,Jy,Jz,J0,J1,J2,J3,J4,J5,reduceCtorEq,JC,JD,JE,JF,JG,JH,JI,JJ]) | ((with_reducible (first | apply Ok.br | apply Ok.gd | apply Ok.ld)) <;> (intro g; (try simp only [ZGS] at g); try (exfalso; omega)))))
            exact Turn.ret ⟨rfl, rfl, ⟨_, _, rfl⟩, .inr ⟨rfl, by rw [hfin.out]; rfl⟩⟩
          | false =>
            have hnk := hnext.out fun e => of_decide_eq_false hd2 (hk'.out.1 e).2
            have hnk' := Hid.mk hnk
            clear hnk
            (repeat' (first | (simp -implicitDefEqProofs (maxSteps := 1000000) (disch := first | assumption | omega | (simp only [ZDI]; omega)) only [*,lenV,G13,Za,Zb,Zc,Zd,Ze,Zf,Zg,Zh,Zi,Zj,Zk,Zl,Zm,Zn,Zo,Ja,Jb,Jc,J6,Jd,Je,J7,J8,Jf,Jg,Jh,Ji,Jj,Jk,J9,Jl,Jm,wr,Jn,JA,JB,Jo,Jp,Jq,Jr,Js,Jt,Ju,Jv,Jw,Jx,Jy,Jz,J0,J1,J2,J3,J4,J5,reduceCtorEq,JC,JD,JE,JF,JG,JH,JI,JJ]) | ((with_reducible (first | apply Ok.br | apply Ok.gd | apply Ok.ld)) <;> (intro g; (try simp only [ZGS] at g); try (exfalso; omega)))))
            exact Turn.next (l.length - (i + 1)) (by omega) ⟨rfl, i + 1, _, _, rfl, by omega, rfl, rfl, rfl, hnk'.out⟩
        | false =>
          have hnk := hnext.out fun e => of_decide_eq_false hd1 (hk'.out.1 e).1
          have hnk' := Hid.mk hnk
          clear hnk
          (repeat' (first | (simp -implicitDefEqProofs (maxSteps := 1000000) (disch := first | assumption | omega | (simp only [ZDI]; omega)) only [*,lenV,G13,Za,Zb,Zc,Zd,Ze,Zf,Zg,Zh,Zi,Zj,Zk,Zl,Zm,Zn,Zo,Ja,Jb,Jc,J6,Jd,Je,J7,J8,Jf,Jg,Jh,Ji,Jj,Jk,J9,Jl,Jm,wr,Jn,JA,JB,Jo,Jp,Jq,Jr,Js,Jt,Ju,Jv,Jw,Jx,Jy,Jz,J0,J1,J2,J3,J4,J5,reduceCtorEq,JC,JD,JE,JF,JG,JH,JI,JJ]) | ((with_reducible (first | apply Ok.br | apply Ok.gd | apply Ok.ld)) <;> (intro g; (try simp only [ZGS] at g); try (exfalso; omega)))))
          exact Turn.next (l.length - (i + 1)) (by omega) ⟨rfl, i + 1, _, _, rfl, by omega, rfl, rfl, rfl, hnk'.out⟩
    · have hlt' : ¬ (i : Int) < (l.length : Int) := by omega
      (repeat' (first | (simp -implicitDefEqProofs (maxSteps := 1000000) (disch := first | assumption | omega | (simp only [ZDI]; omega)) only [*,lenV,G13,Za,Zb,Zc,Zd,Ze,Zf,Zg,Zh,Zi,Zj,Zk,Zl,Zm,Zn,Zo,Ja,Jb,Jc,J6,Jd,Je,J7,J8,Jf,Jg,Jh,Ji,Jj,Jk,J9,Jl,Jm,wr,Jn,JA,JB,Jo,Jp,Jq,Jr,Js,Jt,Ju,Jv,Jw,Jx,Jy,Jz,J0,J1,J2,J3,J4,J5,reduceCtorEq,JC,JD,JE,JF,JG,JH,JI,JJ]) | ((with_reducible (first | apply Ok.br | apply Ok.gd | apply Ok.ld)) <;> (intro g; (try simp only [ZGS] at g); try (exfalso; omega)))))
      refine Turn.exit ⟨rfl, rfl, ⟨_, _, rfl⟩, .inl ⟨rfl, findL_none ?_⟩⟩
      have := hno'.out
      rwa [List.take_of_length_le (by omega)] at this
  · intro y ⟨e', l', H'⟩ hW ⟨k3, ⟨w1, q1, k2'⟩, hy⟩
    dsimp only at hW k2' k3 hy
    subst l' H'
    rw [hW.spread]
    clear hW
    rcases hy with ⟨rfl, hm⟩ | ⟨rfl, h4⟩
    · simp only [spread_t,spread_f,spread_n,Nat.zero_add,Nat.reduceAdd]
      (repeat' (first | (simp -implicitDefEqProofs (maxSteps := 1000000) (disch := first | assumption | omega | (simp only [ZDI]; omega)) only [*,G13,Za,Zb,Zc,Zd,Ze,Zf,Zg,Zh,Zi,Zj,Zk,Zl,Zm,Zn,Zo,Ja,Jb,Jc,J6,Jd,Je,J7,J8,Jf,Jg,Jh,Ji,Jj,Jk,J9,Jl,Jm,wr,Jn,JA,JB,Jo,Jp,Jq,Jr,Js,Jt,Ju,Jv,Jw,Jx,Jy,Jz,J0,J1,J2,J3,J4,J5,reduceCtorEq,JC,JD,JE,JF,JG,JH,JI,JJ]) | ((with_reducible (first | apply Ok.br | apply Ok.gd | apply Ok.ld)) <;> (intro g; (try simp only [ZGS] at g); try (exfalso; omega)))))
      exact hQ'.out _ (by first | rfl | rw [hm])
    · simp only [spread_t,spread_f,spread_n,Nat.zero_add,Nat.reduceAdd,h4]
      (repeat' (first | (simp -implicitDefEqProofs (maxSteps := 1000000) (disch := first | assumption | omega | (simp only [ZDI]; omega)) only [*,G13,Za,Zb,Zc,Zd,Ze,Zf,Zg,Zh,Zi,Zj,Zk,Zl,Zm,Zn,Zo,Ja,Jb,Jc,J6,Jd,Je,J7,J8,Jf,Jg,Jh,Ji,Jj,Jk,J9,Jl,Jm,wr,Jn,JA,JB,Jo,Jp,Jq,Jr,Js,Jt,Ju,Jv,Jw,Jx,Jy,Jz,J0,J1,J2,J3,J4,J5,reduceCtorEq,JC,JD,JE,JF,JG,JH,JI,JJ]) | ((with_reducible (first | apply Ok.br | apply Ok.gd | apply Ok.ld)) <;> (intro g; (try simp only [ZGS] at g); try (exfalso; omega)))))
      exact hQ'.out _ rfl
end Go.Ev
set_option maxRecDepth 100000
namespace Go.Ev
open Go.Ev renaming exPure -> Ja, ofValue -> Jb, cellsV -> Jc, load -> Jd, store -> Je, binOp -> Jf, intOp -> Jg, rdV -> Jh, vsame -> Ji, vsames -> Jj, makeSliceV -> Jk, resV -> Jl, isCell -> Jm, nilCheckV -> Jn, allV -> Jo, builtinV -> Jp, lenV -> Jq, indexAddrV -> Jr, unOp -> Js, minmaxV -> Jt, minmax -> Ju, sliceV -> Jv, asInt -> Jw, appendV -> Jx, forkB -> Jy, roY -> Jz, rwB -> J0, copyV -> J1, clearV -> J2, convV -> J3, sliceCells -> J4, shift -> J5
open Bool renaming true -> BT, false -> BF
open Nat renaming reduceEqDiff -> J6, reduceLT -> J7, reduceAdd -> J8, reduceBEq -> J9, reduceSub -> JA, reduceMul -> JB, reduceLeDiff -> JJ
open Int renaming reduceLT -> JC, reduceLE -> JD, reduceAdd -> JE, reduceSub -> JF, reduceNeg -> JG, reduceToNat -> JH, reduceEq -> JI
open Go.Proofs
def lightB : Nat -> Nat -> List ByteArray -> Bool
  | _, _, [] => true
  | i, n, s :: r => cond (decide ((100 : Int) < i)) false (cond (decide ((10000 : Int) < s.size)) false (cond (decide ((100000 : Int) < n)) false (lightB (i + 1) (n + s.size) r)))
theorem lightB_drop {i n : Nat} {l : List ByteArray} {s : ByteArray} (h : l[i]? = some s) : lightB i n (l.drop i) = cond (decide ((100 : Int) < i)) false (cond (decide ((10000 : Int) < s.size)) false (cond (decide ((100000 : Int) < n)) false (lightB (i + 1) (n + s.size) (l.drop (i + 1))))) := by
  have hi := (List.getElem?_eq_some_iff.1 h).1
  rw [List.drop_eq_getElem_cons hi]
  have : l[i] = s := by rw [List.getElem?_eq_getElem hi] at h; exact Option.some.inj h
  rw [this, lightB]
theorem light_at {h : Heap} {x : In} (hx : InAt h x) : D X (.fn 10 []) [.agg (inV x)] h = some (.bool (lightB 0 0 x.dl && decide ((x.pl.length : Int) <= 5000)), h) := by
  refine Ok.eq ?_
  refine Ok.aim fun Q hQ => ?_
  have hQ' := Hid.mk hQ
  clear hQ
  obtain ⟨a, cap, z, e1, hl, _, ha⟩ := hx.1
  obtain ⟨a3, cap3, z3, e3, _⟩ := hx.2
  have hh := Hid.mk ha
  clear ha hx
  simp only [inV,e1,e3]
  clear e1 e3
  generalize x.dl = l at hl hh hQ' ⊢
  (refine Ok.body body10 pin10 ?_; simp only [c10,Tryz.f10,Option.getD_some,nslot10,List.append_nil,List.map,List.replicate,List.length_cons,List.length_nil,Nat.reduceAdd,Nat.reduceSub,List.cons_append,List.nil_append])
  simp -implicitDefEqProofs (maxSteps := 1000000) (disch := first | assumption | omega | (simp only [ZDI]; omega)) only [*,lenV,G10,Za,Zb,Zc,Zd,Ze,Zf,Zg,Zh,Zi,Zj,Zk,Zl,Zm,Zn,Zo,Ja,Jb,Jc,J6,Jd,Je,J7,J8,Jf,Jg,Jh,Ji,Jj,Jk,J9,Jl,Jm,wr,Jn,JA,JB,Jo,Jp,Jq,Jr,Js,Jt,Ju,Jv,Jw,Jx,Jy,Jz,J0,J1,J2,J3,J4,J5,reduceCtorEq,JC,JD,JE,JF,JG,JH,JI,JJ]
  refine Ok.loop [BF, BF, BT, BT, BT, BT, BF, BF, BF, BF, BT, BT, BT, BT, BT, BT, BT, BT, BT, BT, BT, BT, BT, BT, BT, BT, BT, BT, BT, BT, BT, BF, BF, BF, BF] (fun n s => ∃ i m : Nat, n = l.length - i /\ i <= l.length /\ m <= 110000 /\ tv s.e 10 = .v (.int .i64 i) /\ tv s.e 3 = .v (.int .i64 m) /\ s.l = [(1, [.int .i64 x.l, .int .i64 x.i, .int .i64 x.bn, .int .i64 x.bd, .int .i64 x.vn, .int .i64 x.vd, .int .i64 x.st, .bool x.sm, .int .i64 x.o, .int .i64 x.c, .int .i64 x.q, .int .i64 x.f, .int .i64 x.t, .sl a l.length cap z, .int .i64 x.sq, .sl a3 x.pl.length cap3 z3])] /\ s.h = h /\ lightB 0 0 l = lightB i m (l.drop i))
    (fun xx s => s.l = [(1, [.int .i64 x.l, .int .i64 x.i, .int .i64 x.bn, .int .i64 x.bd, .int .i64 x.vn, .int .i64 x.vd, .int .i64 x.st, .bool x.sm, .int .i64 x.o, .int .i64 x.c, .int .i64 x.q, .int .i64 x.f, .int .i64 x.t, .sl a l.length cap z, .int .i64 x.sq, .sl a3 x.pl.length cap3 z3])] /\ s.h = h /\ ((xx = .exit 0 /\ lightB 0 0 l = true) \/ (xx = .ret /\ lightB 0 0 l = false /\ tv s.e 2 = .v (.bool false)))) (l.length - 0) ⟨0, 0, rfl, by omega, by omega, rfl, rfl, rfl, rfl, rfl⟩ ?_ ?_
  · intro n ⟨e', l', h'⟩ hW ⟨i, m, hn, hi, hm, h9, h3, h1, h2, hno⟩
    dsimp only at hW h9 h3 h1 h2
    subst l' h'
    rw [hW.spread]
    simp only [spread_t,spread_f,spread_n,Nat.zero_add,Nat.reduceAdd,h9,h3]
    by_cases hlt : i < l.length
    · rcases hh.out with rfl | ⟨b, g, oo, rw, full, rfl, hb, hfull⟩
      · simp at hlt
      · obtain ⟨s, hs⟩ : ∃ s, l[i]? = some s := ⟨_, List.getElem?_eq_getElem hlt⟩
        have hf := hfull i s hs
        have hno' := hno
        rw [lightB_drop hs] at hno'
        have hno2 := Hid.mk hno'
        clear hno hno' hfull
        (repeat' (first | (simp -implicitDefEqProofs (maxSteps := 1000000) (disch := first | assumption | omega | (simp only [ZDI]; omega)) only [*,Int.ofNat_lt,Int.natCast_nonneg,lenV,Int.natCast_zero,G10,Za,Zb,Zc,Zd,Ze,Zf,Zg,Zh,Zi,Zj,Zk,Zl,Zm,Zn,Zo,Ja,Jb,Jc,J6,Jd,Je,J7,J8,Jf,Jg,Jh,Ji,Jj,Jk,J9,Jl,Jm,wr,Jn,JA,JB,Jo,Jp,Jq,Jr,Js,Jt,Ju,Jv,Jw,Jx,Jy,Jz,J0,J1,J2,J3,J4,J5,reduceCtorEq,JC,JD,JE,JF,JG,JH,JI,JJ]) | ((with_reducible (first | apply Ok.br | apply Ok.gd | apply Ok.ld)) <;> (intro g; (try simp only [ZGS] at g); try (exfalso; omega)))))
        all_goals first
          | (refine Turn.ret ⟨rfl, rfl, rfl, .inr ⟨rfl, ?_, rfl⟩⟩; rw [hno2.out]; simp only [*,decide_true,decide_false,cond_true,cond_false]; done)
          | (refine Turn.next (l.length - (i + 1)) (by omega) ⟨rfl, i + 1, m + s.size, rfl, by omega, by omega, rfl, rfl, rfl, rfl, ?_⟩; rw [hno2.out]; simp only [*,decide_false,cond_false])
    · simp -implicitDefEqProofs (maxSteps := 1000000) (disch := first | assumption | omega | (simp only [ZDI]; omega)) only [*,Int.ofNat_lt,G10,Za,Zb,Zc,Zd,Ze,Zf,Zg,Zh,Zi,Zj,Zk,Zl,Zm,Zn,Zo,Ja,Jb,Jc,J6,Jd,Je,J7,J8,Jf,Jg,Jh,Ji,Jj,Jk,J9,Jl,Jm,wr,Jn,JA,JB,Jo,Jp,Jq,Jr,Js,Jt,Ju,Jv,Jw,Jx,Jy,Jz,J0,J1,J2,J3,J4,J5,reduceCtorEq,JC,JD,JE,JF,JG,JH,JI,JJ]
      refine Turn.exit ⟨rfl, rfl, rfl, .inl ⟨rfl, ?_⟩⟩
      rw [List.drop_of_length_le (by omega), lightB]
  · intro xx ⟨e', l', h'⟩ hW ⟨h1, h2, hE⟩
    dsimp only at hW h1 h2 hE
    subst l' h'
    rw [hW.spread]
    rcases hE with ⟨rfl, hany⟩ | ⟨rfl, hany, h4⟩
    · simp only [spread_t,spread_f,spread_n,Nat.zero_add,Nat.reduceAdd]
      simp -implicitDefEqProofs (maxSteps := 1000000) (disch := first | assumption | omega | (simp only [ZDI]; omega)) only [*,lenV,G10,Za,Zb,Zc,Zd,Ze,Zf,Zg,Zh,Zi,Zj,Zk,Zl,Zm,Zn,Zo,Ja,Jb,Jc,J6,Jd,Je,J7,J8,Jf,Jg,Jh,Ji,Jj,Jk,J9,Jl,Jm,wr,Jn,JA,JB,Jo,Jp,Jq,Jr,Js,Jt,Ju,Jv,Jw,Jx,Jy,Jz,J0,J1,J2,J3,J4,J5,reduceCtorEq,JC,JD,JE,JF,JG,JH,JI,JJ]
      exact hQ'.out _ (by rw [hany]; simp)
    · simp only [spread_t,spread_f,spread_n,Nat.zero_add,Nat.reduceAdd,h4]
      simp -implicitDefEqProofs (maxSteps := 1000000) (disch := first | assumption | omega | (simp only [ZDI]; omega)) only [*,lenV,G10,Za,Zb,Zc,Zd,Ze,Zf,Zg,Zh,Zi,Zj,Zk,Zl,Zm,Zn,Zo,Ja,Jb,Jc,J6,Jd,Je,J7,J8,Jf,Jg,Jh,Ji,Jj,Jk,J9,Jl,Jm,wr,Jn,JA,JB,Jo,Jp,Jq,Jr,Js,Jt,Ju,Jv,Jw,Jx,Jy,Jz,J0,J1,J2,J3,J4,J5,reduceCtorEq,JC,JD,JE,JF,JG,JH,JI,JJ]
      exact hQ'.out _ (by rw [hany]; simp)
end Go.Ev
set_option maxRecDepth 100000
namespace Go.Ev
open Go.Proofs
theorem Ext.of_keeps {h a b : Heap} {F : List Nat} (he : Ext h a) (k : Keeps F a b) (hF : ∀ i ∈ F, h.length <= i) : Ext h b := by
  have hl := he.len
  obtain ⟨l, rfl⟩ := he
  refine ⟨b.drop h.length, ?_⟩
  apply List.ext_getElem?
  intro i
  by_cases hi : i < h.length
  · rw [List.getElem?_append_left hi]
    have := k.2 i (by simp; omega) (fun hm => by have := hF i hm; omega)
    rw [this, List.getElem?_append_left hi]
  · rw [List.getElem?_append_right (by omega), List.getElem?_drop]
    congr 1; omega
theorem Ext.keepC {h g : Heap} (k : Ext h g) : KeepC h g := by
  obtain ⟨l, rfl⟩ := k
  exact KeepC.app h l
end Go.Ev
set_option maxRecDepth 100000
namespace Go.Ev
open Go.Ev renaming exPure -> Ja, ofValue -> Jb, cellsV -> Jc, load -> Jd, store -> Je, binOp -> Jf, intOp -> Jg, rdV -> Jh, vsame -> Ji, vsames -> Jj, makeSliceV -> Jk, resV -> Jl, isCell -> Jm, nilCheckV -> Jn, allV -> Jo, builtinV -> Jp, lenV -> Jq, indexAddrV -> Jr, unOp -> Js, minmaxV -> Jt, minmax -> Ju, sliceV -> Jv, asInt -> Jw, appendV -> Jx, forkB -> Jy, roY -> Jz, rwB -> J0, copyV -> J1, clearV -> J2, convV -> J3, sliceCells -> J4, shift -> J5
open Bool renaming true -> BT, false -> BF
open Nat renaming reduceEqDiff -> J6, reduceLT -> J7, reduceAdd -> J8, reduceBEq -> J9, reduceSub -> JA, reduceMul -> JB, reduceLeDiff -> JJ
open Int renaming reduceLT -> JC, reduceLE -> JD, reduceAdd -> JE, reduceSub -> JF, reduceNeg -> JG, reduceToNat -> JH, reduceEq -> JI
open Go.Proofs
theorem cloneN_at {h : Heap} {d d' : V} {bl : List Blk} (hr : ownSl h h.length 1 d = some (d', bl)) : D X (.fn 40 []) [d] h = some (d', h ++ bl) := by
  refine Ok.eq ?_
  rcases ownSl_cases hr with ⟨n, c, y, rfl, rfl, rfl⟩ | ⟨a, c, y, rfl, ha, rfl, rfl⟩ | ⟨b, g, o, n, c, y, rw, full, rfl, h0, h1, hc, hf, rfl, rfl⟩
  · (refine Ok.body body40 pin40 ?_; simp only [c40,Tryz.f40,Option.getD_some,nslot40,List.append_nil,List.map,List.replicate,List.length_cons,List.length_nil,Nat.reduceAdd,Nat.reduceSub,List.cons_append,List.nil_append])
    (repeat' (first | (simp -implicitDefEqProofs (maxSteps := 1000000) (disch := first | assumption | omega | (simp only [ZDI]; omega)) only [*,List.append_nil,G40,Za,Zb,Zc,Zd,Ze,Zf,Zg,Zh,Zi,Zj,Zk,Zl,Zm,Zn,Zo,Ja,Jb,Jc,J6,Jd,Je,J7,J8,Jf,Jg,Jh,Ji,Jj,Jk,J9,Jl,Jm,wr,Jn,JA,JB,Jo,Jp,Jq,Jr,Js,Jt,Ju,Jv,Jw,Jx,Jy,Jz,J0,J1,J2,J3,J4,J5,reduceCtorEq,JC,JD,JE,JF,JG,JH,JI,JJ]) | ((with_reducible (first | apply Ok.br | apply Ok.gd | apply Ok.ld)) <;> (intro g; (try simp only [ZGS] at g); try (exfalso; omega)))))
  · cases a with
    | nil => exact absurd rfl ha
    | any =>
      (refine Ok.body body40 pin40 ?_; simp only [c40,Tryz.f40,Option.getD_some,nslot40,List.append_nil,List.map,List.replicate,List.length_cons,List.length_nil,Nat.reduceAdd,Nat.reduceSub,List.cons_append,List.nil_append])
      (repeat' (first | (simp -implicitDefEqProofs (maxSteps := 1000000) (disch := first | assumption | omega | (simp only [ZDI]; omega)) only [*,appendV,sliceCells,G40,Za,Zb,Zc,Zd,Ze,Zf,Zg,Zh,Zi,Zj,Zk,Zl,Zm,Zn,Zo,Ja,Jb,Jc,J6,Jd,Je,J7,J8,Jf,Jg,Jh,Ji,Jj,Jk,J9,Jl,Jm,wr,Jn,JA,JB,Jo,Jp,Jq,Jr,Js,Jt,Ju,Jv,Jw,Jx,Jy,Jz,J0,J1,J2,J3,J4,J5,reduceCtorEq,JC,JD,JE,JF,JG,JH,JI,JJ]) | ((with_reducible (first | apply Ok.br | apply Ok.gd | apply Ok.ld)) <;> (intro g; (try simp only [ZGS] at g); try (exfalso; omega)))))
    | «at» b g o =>
      (refine Ok.body body40 pin40 ?_; simp only [c40,Tryz.f40,Option.getD_some,nslot40,List.append_nil,List.map,List.replicate,List.length_cons,List.length_nil,Nat.reduceAdd,Nat.reduceSub,List.cons_append,List.nil_append])
      (repeat' (first | (simp -implicitDefEqProofs (maxSteps := 1000000) (disch := first | assumption | omega | (simp only [ZDI]; omega)) only [*,appendV,sliceCells,G40,Za,Zb,Zc,Zd,Ze,Zf,Zg,Zh,Zi,Zj,Zk,Zl,Zm,Zn,Zo,Ja,Jb,Jc,J6,Jd,Je,J7,J8,Jf,Jg,Jh,Ji,Jj,Jk,J9,Jl,Jm,wr,Jn,JA,JB,Jo,Jp,Jq,Jr,Js,Jt,Ju,Jv,Jw,Jx,Jy,Jz,J0,J1,J2,J3,J4,J5,reduceCtorEq,JC,JD,JE,JF,JG,JH,JI,JJ]) | ((with_reducible (first | apply Ok.br | apply Ok.gd | apply Ok.ld)) <;> (intro g; (try simp only [ZGS] at g); try (exfalso; omega)))))
  · have hb := hcells_lt hc
    have hn0 : ¬ n = 0 := by omega
    have hg : n * 8 <= 35184372088832 /\ n <= 35184372088832 := by omega
    have hg1 : ¬ n <= 0 := by omega
    (refine Ok.body body40 pin40 ?_; simp only [c40,Tryz.f40,Option.getD_some,nslot40,List.append_nil,List.map,List.replicate,List.length_cons,List.length_nil,Nat.reduceAdd,Nat.reduceSub,List.cons_append,List.nil_append])
    (repeat' (first | (simp -implicitDefEqProofs (maxSteps := 1000000) (disch := first | assumption | omega | (simp only [ZDI]; omega)) only [*,appendV,sliceCells,newBlk,List.append_assoc,Nat.zero_add,Nat.mul_one,G40,Za,Zb,Zc,Zd,Ze,Zf,Zg,Zh,Zi,Zj,Zk,Zl,Zm,Zn,Zo,Ja,Jb,Jc,J6,Jd,Je,J7,J8,Jf,Jg,Jh,Ji,Jj,Jk,J9,Jl,Jm,wr,Jn,JA,JB,Jo,Jp,Jq,Jr,Js,Jt,Ju,Jv,Jw,Jx,Jy,Jz,J0,J1,J2,J3,J4,J5,reduceCtorEq,JC,JD,JE,JF,JG,JH,JI,JJ]) | ((with_reducible (first | apply Ok.br | apply Ok.gd | apply Ok.ld)) <;> (intro g; (try simp only [ZGS] at g); try (exfalso; omega)))))
theorem ownSl_ints {h : Heap} {v : V} {l : List Int} (hs : IntsAt h v l) (hl : l.length <= 5000) (nx : Nat) : ∃ v' bl, ownSl h nx 1 v = some (v', bl) := by
  obtain ⟨a, cap, z, rfl, h1, h2⟩ := hs
  rcases h2 with rfl | ⟨b, g, o, rw, full, rfl, hc, hf⟩
  · cases a with
    | nil => exact ⟨_, _, rfl⟩
    | any => exact ⟨_, _, rfl⟩
    | «at» b g o => exact ⟨_, _, rfl⟩
  · by_cases h0 : l.length = 0
    · obtain rfl : l = [] := List.length_eq_zero_iff.1 h0
      exact ⟨_, _, rfl⟩
    · have hlen : o + l.length * 1 <= full.length := by
        have := hf (l.length - 1) _ (List.getElem?_eq_getElem (by omega))
        have := (List.getElem?_eq_some_iff.1 this).1
        omega
      exact ⟨_, _, ownSl_at (by omega) hl hc hlen⟩
theorem ownSl_sl {h : Heap} {nx z : Nat} {v v' : V} {bl : List Blk} (hr : ownSl h nx z v = some (v', bl)) : ∃ a n c y, v' = .sl a n c y := by
  rcases ownSl_cases hr with ⟨n, c, y, rfl, rfl, rfl⟩ | ⟨a, c, y, rfl, ha, rfl, rfl⟩ | ⟨b, g, o, n, c, y, rw, full, rfl, h0, h1, hc, hf, rfl, rfl⟩ <;> exact ⟨_, _, _, _, rfl⟩
def okL (ms : List Int) : List RP -> List In -> Bool
  | _, [] => true
  | K, x :: r => !decide (x.key ∈ K) && decide (x.l ∈ ms) && mayB x && okL ms (K ++ [x.key]) r
theorem okL_step {ms : List Int} {l : List In} {i : Nat} {x : In} (hx : l[i]? = some x) : okL ms ((l.take i).map In.key) (l.drop i) = (!decide (x.key ∈ (l.take i).map In.key) && decide (x.l ∈ ms) && mayB x && okL ms ((l.take (i + 1)).map In.key) (l.drop (i + 1))) := by
  have hi := (List.getElem?_eq_some_iff.1 hx).1
  rw [List.drop_eq_getElem_cons hi]
  have e : l[i] = x := by rw [List.getElem?_eq_getElem hi] at hx; exact Option.some.inj hx
  rw [e, okL, List.take_add_one, hx, List.map_append]
  rfl
theorem okL_end {ms : List Int} {K : List RP} {l : List In} {i : Nat} (h : l.length <= i) : okL ms K (l.drop i) = true := by
  rw [List.drop_of_length_le h, okL]
def newB (self : Int) (ms : List Int) (l : List In) : Bool := risN none ms && decide ((ms.length : Int) % 2 = 1) && decide (self ∈ ms) && okL ms [] l
def RepAt (g : Heap) (rb b : Nat) : Prop := ∃ c0 c1 c2 rest, hcells g rb 0 = some (true, c0 :: c1 :: c2 :: .ptr b 0 0 :: rest)
set_option maxHeartbeats 8000000 in
theorem newR_at {h : Heap} {mv lv : V} {ms : List Int} {l : List In} (hm : IntsAt h mv ms) (hml : ms.length <= 5000) (hr : InsAt h lv l) (hll : l.length <= 4000) (self shard : Int) :
    Ev.Ok (D X (.fn 14 []) [.int .i64 self, .int .i64 shard, mv, lv] h) fun y => ∃ g, Ext h g /\
      ((newB self ms l = false /\ y = (.tup [.nilp, .int .i64 1], g)) \/
       (newB self ms l = true /\ ∃ rb b m L, y = (.tup [.ptr rb 0 0, .int .i64 0], g) /\ RepAt g rb b /\ TabAt g b m L /\ L.length = l.length)) := by
  refine Ok.aim fun Q hQ => ?_
  have hQ' := Hid.mk hQ
  clear hQ
  have hmem := isMembers_at hm
  have hcon := containsN_at hm self
  obtain ⟨mv', bl, hown⟩ := ownSl_ints hm hml h.length
  have hcl := cloneN_at hown
  obtain ⟨a9, n9, c9, y9, rfl⟩ := ownSl_sl hown
  have hnew := fun h => newT_at h
  have hm' := Hid.mk hm
  obtain ⟨ma, mc, mz, rfl⟩ := hm.sl
  obtain ⟨a, cap, z, rfl, h1, hall, h2⟩ := hr
  clear hm hown
  have hB : newB self ms l = ((risN none ms && decide ((ms.length : Int) % 2 = 1)) && decide (self ∈ ms) && okL ms [] l) := rfl
  have hB' := Hid.mk hB
  clear hB
  generalize (risN none ms && decide ((ms.length : Int) % 2 = 1)) = b1 at hmem hB'
  generalize decide (self ∈ ms) = b2 at hcon hB'
  cases b1 with
  | false =>
    (refine Ok.body body14 pin14 ?_; simp only [c14,Tryz.f14,Option.getD_some,nslot14,List.append_nil,List.map,List.replicate,List.length_cons,List.length_nil,Nat.reduceAdd,Nat.reduceSub,List.cons_append,List.nil_append])
    (repeat' (first | (simp -implicitDefEqProofs (maxSteps := 1000000) (disch := first | assumption | omega | (simp only [ZDI]; omega)) only [*,lenV,G14,Za,Zb,Zc,Zd,Ze,Zf,Zg,Zh,Zi,Zj,Zk,Zl,Zm,Zn,Zo,Ja,Jb,Jc,J6,Jd,Je,J7,J8,Jf,Jg,Jh,Ji,Jj,Jk,J9,Jl,Jm,wr,Jn,JA,JB,Jo,Jp,Jq,Jr,Js,Jt,Ju,Jv,Jw,Jx,Jy,Jz,J0,J1,J2,J3,J4,J5,reduceCtorEq,JC,JD,JE,JF,JG,JH,JI,JJ]) | ((with_reducible (first | apply Ok.br | apply Ok.gd | apply Ok.ld)) <;> (intro g; (try simp only [ZGS] at g); try (exfalso; omega)))))
    exact hQ'.out _ ⟨_, .refl _, .inl ⟨by rw [hB'.out]; rfl, rfl⟩⟩
  | true =>
  cases b2 with
  | false =>
    (refine Ok.body body14 pin14 ?_; simp only [c14,Tryz.f14,Option.getD_some,nslot14,List.append_nil,List.map,List.replicate,List.length_cons,List.length_nil,Nat.reduceAdd,Nat.reduceSub,List.cons_append,List.nil_append])
    (repeat' (first | (simp -implicitDefEqProofs (maxSteps := 1000000) (disch := first | assumption | omega | (simp only [ZDI]; omega)) only [*,lenV,G14,Za,Zb,Zc,Zd,Ze,Zf,Zg,Zh,Zi,Zj,Zk,Zl,Zm,Zn,Zo,Ja,Jb,Jc,J6,Jd,Je,J7,J8,Jf,Jg,Jh,Ji,Jj,Jk,J9,Jl,Jm,wr,Jn,JA,JB,Jo,Jp,Jq,Jr,Js,Jt,Ju,Jv,Jw,Jx,Jy,Jz,J0,J1,J2,J3,J4,J5,reduceCtorEq,JC,JD,JE,JF,JG,JH,JI,JJ]) | ((with_reducible (first | apply Ok.br | apply Ok.gd | apply Ok.ld)) <;> (intro g; (try simp only [ZGS] at g); try (exfalso; omega)))))
    exact hQ'.out _ ⟨_, .refl _, .inl ⟨by rw [hB'.out]; rfl, rfl⟩⟩
  | true =>
  (refine Ok.body body14 pin14 ?_; simp only [c14,Tryz.f14,Option.getD_some,nslot14,List.append_nil,List.map,List.replicate,List.length_cons,List.length_nil,Nat.reduceAdd,Nat.reduceSub,List.cons_append,List.nil_append])
  (repeat' (first | (simp -implicitDefEqProofs (maxSteps := 1000000) (disch := first | assumption | omega | (simp only [ZDI]; omega)) only [*,lenV,exOp_makeMap,makeMapV,List.append_assoc,G14,Za,Zb,Zc,Zd,Ze,Zf,Zg,Zh,Zi,Zj,Zk,Zl,Zm,Zn,Zo,Ja,Jb,Jc,J6,Jd,Je,J7,J8,Jf,Jg,Jh,Ji,Jj,Jk,J9,Jl,Jm,wr,Jn,JA,JB,Jo,Jp,Jq,Jr,Js,Jt,Ju,Jv,Jw,Jx,Jy,Jz,J0,J1,J2,J3,J4,J5,reduceCtorEq,JC,JD,JE,JF,JG,JH,JI,JJ]) | ((with_reducible (first | apply Ok.br | apply Ok.gd | apply Ok.ld)) <;> (intro g; (try simp only [ZGS] at g); try (exfalso; omega)))))
  clear hmem hcon hcl hnew
  obtain ⟨b, hb⟩ : ∃ b, List.length h + bl.length + 1 = b := ⟨_, rfl⟩
  obtain ⟨m, hm⟩ : ∃ m, List.length h + bl.length = m := ⟨_, rfl⟩
  obtain ⟨rb, hrb⟩ : ∃ rb, List.length h + (bl.length + 5) = rb := ⟨_, rfl⟩
  generalize hH0 : h ++ (bl ++ _) = H0
  have hx0 : Ext h H0 := ⟨_, hH0.symm⟩
  have ht0 : TabAt H0 b m [] := by
    refine ⟨?_, ⟨true, [], 0, ?_, rfl⟩, (fun x hx => nomatch hx), List.nodup_nil⟩
    · rw [<- hH0, <- hb, <- hm, <- List.append_assoc, hcells_ge (by rw [List.length_append]; omega)]
      simp only [List.length_append,Nat.add_sub_cancel_left]
      exact grd_t rfl _
    · rw [<- hH0, <- hm, <- List.append_assoc, List.getElem?_append_right (by simp)]
      simp
  have hr0 : hcells H0 rb 0 = some (true, [.int .i64 self, .int .i64 shard, .sl a9 n9 c9 y9, .ptr b 0 0, .map (List.length h + (bl.length + 2)), .map (List.length h + (bl.length + 3)), .map (List.length h + (bl.length + 4)), .int .i64 0, .sl .nil 0 0 0, .sl .nil 0 0 0]) := by
    rw [<- hH0, <- hb, <- hrb, <- List.append_assoc, hcells_ge (by rw [List.length_append]; omega)]
    simp only [List.length_append,<- Nat.add_assoc,Nat.add_sub_cancel_left]
    exact grd_t rfl _
  have hmh : h.length <= m := by omega
  clear hH0
  rw [hrb]
  generalize List.length h + (bl.length + 2) = m1 at hr0 ⊢
  generalize List.length h + (bl.length + 3) = m2 at hr0 ⊢
  generalize List.length h + (bl.length + 4) = m3 at hr0 ⊢
  have hx0' := Hid.mk hx0
  have ht0' := Hid.mk ht0
  have hr0' := Hid.mk hr0
  have hmh' := Hid.mk hmh
  have hall' := Hid.mk hall
  clear hx0 ht0 hr0 hmh hall hb hm hrb
  have hB2 : Hid (newB self ms l = okL ms [] l) := ⟨by rw [hB'.out]; simp⟩
  clear hB'
  refine Ok.loop [BF, BF, BF, BF, BF, BF, BF, BF, BT, BT, BF, BF, BT, BT, BT, BF, BF, BF, BF, BF, BF, BF, BF, BF, BF, BF, BF, BF, BF, BF, BF, BF, BF, BF, BF, BF, BT, BT, BT, BT, BT, BT, BT, BT, BT, BT, BT, BT, BT, BT, BT, BT, BT, BT, BT, BT, BT, BT, BT, BT, BT, BT, BT, BT, BT, BT, BT, BT, BT, BF] (fun n s2 => ∃ (i w0 w1 : Nat) (q0 q1 : List V) (L : List In), n = l.length - i /\ i <= l.length /\ tv s2.e 36 = .v (.int .i64 i) /\ s2.l = [(w0, q0), (w1, q1)] /\ Ext h s2.h /\ TabAt s2.h b m L /\ hcells s2.h rb 0 = some (true, [.int .i64 self, .int .i64 shard, .sl a9 n9 c9 y9, .ptr b 0 0, .map m1, .map m2, .map m3, .int .i64 0, .sl .nil 0 0 0, .sl .nil 0 0 0]) /\ L.map In.key = (l.take i).map In.key /\ newB self ms l = okL ms ((l.take i).map In.key) (l.drop i))
    (fun y s2 => Ext h s2.h /\ (∃ (w0 w1 : Nat) (q0 q1 : List V), s2.l = [(w0, q0), (w1, q1)]) /\ ((y = .exit 0 /\ newB self ms l = true /\ hcells s2.h rb 0 = some (true, [.int .i64 self, .int .i64 shard, .sl a9 n9 c9 y9, .ptr b 0 0, .map m1, .map m2, .map m3, .int .i64 0, .sl .nil 0 0 0, .sl .nil 0 0 0]) /\ ∃ L : List In, TabAt s2.h b m L /\ L.length = l.length) \/ (y = .ret /\ newB self ms l = false /\ tv s2.e 8 = .v .nilp /\ tv s2.e 9 = .v (.int .i64 1)))) (l.length - 0) ⟨0, 0, 0, [], [], [], rfl, Nat.zero_le _, rfl, rfl, hx0'.out, ht0'.out, hr0'.out, rfl, hB2.out⟩ ?_ ?_
  · intro n ⟨e', l', g⟩ hW ⟨i, w0, w1, q0, q1, L, hmm, hi, h9, k2, hx, ht, hc, hk, hno⟩
    dsimp only at hW h9 k2 hx ht hc
    subst l'
    rw [hW.spread]
    simp only [spread_t,spread_f,spread_n,Nat.zero_add,Nat.reduceAdd,h9]
    clear hW hQ' hx0' ht0' hr0' hB2
    by_cases hlt : i < l.length
    · have hlt' : (i : Int) < (l.length : Int) := by omega
      have g1 : 0 <= (i : Int) /\ (i : Int) < (l.length : Int) := by omega
      rcases h2 with rfl | ⟨bb, q, o, rw, full, rfl, hb, hfull, ho⟩
      · simp at hlt
      · have hb2 := hx.cells hb
        obtain ⟨x, hy⟩ : ∃ y, l[i]? = some y := ⟨_, List.getElem?_eq_getElem hlt⟩
        have hf := hfull i x hy
        have ho2 : o + i * 16 + 16 <= full.length := by omega
        have hxa : InAt g x := (hall'.out x (List.mem_of_getElem? hy)).keep hx.keepC
        have hbl := hcells_lt hb2
        rw [okL_step hy] at hno
        obtain ⟨x', bl2, hget, _, _⟩ := get_at ht x.key
        rw [isL_iff, hk] at hget
        have hxg : Ext h (g ++ bl2) := hx.app bl2
        have hcon := containsN_at (hm'.out.keep hxg.keepC) x.l
        have hml2 : m < g.length := by
          obtain ⟨_, _, _, hmm, _⟩ := ht.map
          exact (List.getElem?_eq_some_iff.1 hmm).1
        have ht2 := ht.keep (KeepC.app g bl2) (List.getElem?_append_left hml2)
        have hc2 := (KeepC.app g bl2).2 _ _ _ hc
        have hxa2 := hxa.keep (KeepC.app g bl2)
        have hk1 : (l.take (i + 1)).map In.key = (l.take i).map In.key ++ [x.key] := by rw [List.take_add_one, hy, List.map_append]; rfl
        have hnk := Hid.mk (show x.key ∈ (l.take i).map In.key ↔ decide (x.key ∈ (l.take i).map In.key) = true from by simp)
        generalize hd1 : decide (x.key ∈ (l.take i).map In.key) = is at hget hno
        generalize hd2 : decide (x.l ∈ ms) = ib at hcon hno
        have hd1' := Hid.mk hd1
        clear hd1 hd2
        have hxg' := Hid.mk hxg
        have hxx := Hid.mk hx
        have hxa2' := Hid.mk hxa2
        have ht2' := Hid.mk ht2
        have hk1' := Hid.mk hk1
        have hk' := Hid.mk hk
        have hmem : Hid (x ∈ l) := ⟨List.mem_of_getElem? hy⟩
        have hLl : L.length <= 4000 := by
          have := congrArg List.length hk
          simp at this
          omega
        clear hxg hx hxa hxa2 ht ht2 hk hk1 hy hfull ho hb
        cases is with
        | true =>
          have hno' := Hid.mk hno
          simp only [inV,In.key] at hf hget hcon
          clear hno
          (repeat' (first | (simp -implicitDefEqProofs (maxSteps := 1000000) (disch := first | assumption | omega | (simp only [ZDI]; omega)) only [*,lenV,G14,Za,Zb,Zc,Zd,Ze,Zf,Zg,Zh,Zi,Zj,Zk,Zl,Zm,Zn,Zo,Ja,Jb,Jc,J6,Jd,Je,J7,J8,Jf,Jg,Jh,Ji,Jj,Jk,J9,Jl,Jm,wr,Jn,JA,JB,Jo,Jp,Jq,Jr,Js,Jt,Ju,Jv,Jw,Jx,Jy,Jz,J0,J1,J2,J3,J4,J5,reduceCtorEq,JC,JD,JE,JF,JG,JH,JI,JJ]) | ((with_reducible (first | apply Ok.br | apply Ok.gd | apply Ok.ld)) <;> (intro g; (try simp only [ZGS] at g); try (exfalso; omega)))))
          exact Turn.ret ⟨rfl, hxg'.out, ⟨_, _, _, _, rfl⟩, .inr ⟨rfl, by rw [hno'.out]; rfl, rfl, rfl⟩⟩
        | false =>
        cases ib with
        | false =>
          have hno' := Hid.mk hno
          simp only [inV,In.key] at hf hget hcon
          clear hno
          (repeat' (first | (simp -implicitDefEqProofs (maxSteps := 1000000) (disch := first | assumption | omega | (simp only [ZDI]; omega)) only [*,lenV,G14,Za,Zb,Zc,Zd,Ze,Zf,Zg,Zh,Zi,Zj,Zk,Zl,Zm,Zn,Zo,Ja,Jb,Jc,J6,Jd,Je,J7,J8,Jf,Jg,Jh,Ji,Jj,Jk,J9,Jl,Jm,wr,Jn,JA,JB,Jo,Jp,Jq,Jr,Js,Jt,Ju,Jv,Jw,Jx,Jy,Jz,J0,J1,J2,J3,J4,J5,reduceCtorEq,JC,JD,JE,JF,JG,JH,JI,JJ]) | ((with_reducible (first | apply Ok.br | apply Ok.gd | apply Ok.ld)) <;> (intro g; (try simp only [ZGS] at g); try (exfalso; omega)))))
          exact Turn.ret ⟨rfl, hxg'.out, ⟨_, _, _, _, rfl⟩, .inr ⟨rfl, by rw [hno'.out]; rfl, rfl, rfl⟩⟩
        | true =>
          obtain ⟨g3, x3, hput, hx3, ht3, hkc3, hks3⟩ := put_at ht2'.out hxa2'.out
          have hxg3 : Ext h g3 := hxg'.out.of_keeps hks3 fun j hj => by rw [List.mem_singleton.1 hj]; exact hmh'.out
          have hc3 := hkc3.2 _ _ _ hc2
          cases hmb : mayB x with
          | false =>
            have hpe : putE L x = 1 := by unfold putE; rw [hmb]; rfl
            rw [hpe] at hput
            rw [hmb] at hno
            have hno' := Hid.mk hno
            have hxg3' := Hid.mk hxg3
            simp only [inV,In.key] at hf hget hcon hput
            clear hno hx3 ht3 hkc3 hks3 hxg3 hmb hpe hc3
            (repeat' (first | (simp -implicitDefEqProofs (maxSteps := 1000000) (disch := first | assumption | omega | (simp only [ZDI]; omega)) only [*,lenV,G14,Za,Zb,Zc,Zd,Ze,Zf,Zg,Zh,Zi,Zj,Zk,Zl,Zm,Zn,Zo,Ja,Jb,Jc,J6,Jd,Je,J7,J8,Jf,Jg,Jh,Ji,Jj,Jk,J9,Jl,Jm,wr,Jn,JA,JB,Jo,Jp,Jq,Jr,Js,Jt,Ju,Jv,Jw,Jx,Jy,Jz,J0,J1,J2,J3,J4,J5,reduceCtorEq,JC,JD,JE,JF,JG,JH,JI,JJ]) | ((with_reducible (first | apply Ok.br | apply Ok.gd | apply Ok.ld)) <;> (intro g; (try simp only [ZGS] at g); try (exfalso; omega)))))
            exact Turn.ret ⟨rfl, hxg3'.out, ⟨_, _, _, _, rfl⟩, .inr ⟨rfl, by rw [hno'.out]; rfl, rfl, rfl⟩⟩
          | true =>
            have hpe : putE L x = 0 := by unfold putE; rw [hmb, if_pos rfl, if_pos (.inr (by omega))]
            rw [hpe] at hput ht3
            rw [if_pos rfl] at ht3
            rw [hmb] at hno
            have hkx : x3.key = x.key := by have := congrArg In.key hx3; exact this
            have hnm : ¬ x.key ∈ L.map In.key := by rw [hk'.out]; exact of_decide_eq_false hd1'.out
            have hk3 : (putL L x3).map In.key = (l.take (i + 1)).map In.key := by rw [putL_keys, hkx, if_neg hnm, hk1'.out, hk'.out]
            have hno' := Hid.mk hno
            have hxg3' := Hid.mk hxg3
            have ht3' := Hid.mk ht3
            have hk3' := Hid.mk hk3
            have hc3' := Hid.mk hc3
            simp only [inV,In.key] at hf hget hcon hput
            clear hno hx3 ht3 hkc3 hks3 hxg3 hmb hpe hk3 hnm hkx hc3
            (repeat' (first | (simp -implicitDefEqProofs (maxSteps := 1000000) (disch := first | assumption | omega | (simp only [ZDI]; omega)) only [*,lenV,G14,Za,Zb,Zc,Zd,Ze,Zf,Zg,Zh,Zi,Zj,Zk,Zl,Zm,Zn,Zo,Ja,Jb,Jc,J6,Jd,Je,J7,J8,Jf,Jg,Jh,Ji,Jj,Jk,J9,Jl,Jm,wr,Jn,JA,JB,Jo,Jp,Jq,Jr,Js,Jt,Ju,Jv,Jw,Jx,Jy,Jz,J0,J1,J2,J3,J4,J5,reduceCtorEq,JC,JD,JE,JF,JG,JH,JI,JJ]) | ((with_reducible (first | apply Ok.br | apply Ok.gd | apply Ok.ld)) <;> (intro g; (try simp only [ZGS] at g); try (exfalso; omega)))))
            exact Turn.next (l.length - (i + 1)) (by omega) ⟨rfl, i + 1, _, _, _, _, _, rfl, by omega, rfl, rfl, hxg3'.out, ht3'.out, hc3'.out, hk3'.out, by rw [hno'.out]; rfl⟩
    · have hlt' : ¬ (i : Int) < (l.length : Int) := by omega
      rw [okL_end (by omega)] at hno
      have hLl : L.length = l.length := by
        have := congrArg List.length hk
        rw [List.take_of_length_le (by omega)] at this
        simpa using this
      have hno' := Hid.mk hno
      have hx' := Hid.mk hx
      have ht' := Hid.mk ht
      have hc' := Hid.mk hc
      clear hno hx ht hk
      (repeat' (first | (simp -implicitDefEqProofs (maxSteps := 1000000) (disch := first | assumption | omega | (simp only [ZDI]; omega)) only [*,lenV,G14,Za,Zb,Zc,Zd,Ze,Zf,Zg,Zh,Zi,Zj,Zk,Zl,Zm,Zn,Zo,Ja,Jb,Jc,J6,Jd,Je,J7,J8,Jf,Jg,Jh,Ji,Jj,Jk,J9,Jl,Jm,wr,Jn,JA,JB,Jo,Jp,Jq,Jr,Js,Jt,Ju,Jv,Jw,Jx,Jy,Jz,J0,J1,J2,J3,J4,J5,reduceCtorEq,JC,JD,JE,JF,JG,JH,JI,JJ]) | ((with_reducible (first | apply Ok.br | apply Ok.gd | apply Ok.ld)) <;> (intro g; (try simp only [ZGS] at g); try (exfalso; omega)))))
      exact Turn.exit ⟨rfl, hx'.out, ⟨_, _, _, _, rfl⟩, .inl ⟨rfl, hno'.out, hc'.out, L, ht'.out, hLl⟩⟩
  · intro y ⟨e', l', g⟩ hW ⟨hx, ⟨w0, w1, q0, q1, k2⟩, hy⟩
    dsimp only at hW k2 hx hy
    subst l'
    rw [hW.spread]
    clear hW
    have hx' := Hid.mk hx
    clear hx
    rcases hy with ⟨rfl, hn, hc, L, ht, hL⟩ | ⟨rfl, hn, h8, h9⟩
    · simp only [spread_t,spread_f,spread_n,Nat.zero_add,Nat.reduceAdd]
      have hn' := Hid.mk hn
      have hc' := Hid.mk hc
      have ht' := Hid.mk ht
      have hL' := Hid.mk hL
      clear hn hc ht hL
      (repeat' (first | (simp -implicitDefEqProofs (maxSteps := 1000000) (disch := first | assumption | omega | (simp only [ZDI]; omega)) only [*,lenV,G14,Za,Zb,Zc,Zd,Ze,Zf,Zg,Zh,Zi,Zj,Zk,Zl,Zm,Zn,Zo,Ja,Jb,Jc,J6,Jd,Je,J7,J8,Jf,Jg,Jh,Ji,Jj,Jk,J9,Jl,Jm,wr,Jn,JA,JB,Jo,Jp,Jq,Jr,Js,Jt,Ju,Jv,Jw,Jx,Jy,Jz,J0,J1,J2,J3,J4,J5,reduceCtorEq,JC,JD,JE,JF,JG,JH,JI,JJ]) | ((with_reducible (first | apply Ok.br | apply Ok.gd | apply Ok.ld)) <;> (intro g; (try simp only [ZGS] at g); try (exfalso; omega)))))
      exact hQ'.out _ ⟨_, hx'.out, .inr ⟨hn'.out, rb, b, m, L, rfl, ⟨_, _, _, _, hc'.out⟩, ht'.out, hL'.out⟩⟩
    · simp only [spread_t,spread_f,spread_n,Nat.zero_add,Nat.reduceAdd,h8,h9]
      have hn' := Hid.mk hn
      clear hn
      (repeat' (first | (simp -implicitDefEqProofs (maxSteps := 1000000) (disch := first | assumption | omega | (simp only [ZDI]; omega)) only [*,lenV,G14,Za,Zb,Zc,Zd,Ze,Zf,Zg,Zh,Zi,Zj,Zk,Zl,Zm,Zn,Zo,Ja,Jb,Jc,J6,Jd,Je,J7,J8,Jf,Jg,Jh,Ji,Jj,Jk,J9,Jl,Jm,wr,Jn,JA,JB,Jo,Jp,Jq,Jr,Js,Jt,Ju,Jv,Jw,Jx,Jy,Jz,J0,J1,J2,J3,J4,J5,reduceCtorEq,JC,JD,JE,JF,JG,JH,JI,JJ]) | ((with_reducible (first | apply Ok.br | apply Ok.gd | apply Ok.ld)) <;> (intro g; (try simp only [ZGS] at g); try (exfalso; omega)))))
      exact hQ'.out _ ⟨_, hx'.out, .inl ⟨hn'.out, rfl⟩⟩
end Go.Ev
set_option maxRecDepth 100000
namespace Go.Ev
open Go.Ev renaming exPure -> Ja, ofValue -> Jb, cellsV -> Jc, load -> Jd, store -> Je, binOp -> Jf, intOp -> Jg, rdV -> Jh, vsame -> Ji, vsames -> Jj, makeSliceV -> Jk, resV -> Jl, isCell -> Jm, nilCheckV -> Jn, allV -> Jo, builtinV -> Jp, lenV -> Jq, indexAddrV -> Jr, unOp -> Js, minmaxV -> Jt, minmax -> Ju, sliceV -> Jv, asInt -> Jw, appendV -> Jx, forkB -> Jy, roY -> Jz, rwB -> J0, copyV -> J1, clearV -> J2, convV -> J3, sliceCells -> J4, shift -> J5
open Bool renaming true -> BT, false -> BF
open Nat renaming reduceEqDiff -> J6, reduceLT -> J7, reduceAdd -> J8, reduceBEq -> J9, reduceSub -> JA, reduceMul -> JB, reduceLeDiff -> JJ
open Int renaming reduceLT -> JC, reduceLE -> JD, reduceAdd -> JE, reduceSub -> JF, reduceNeg -> JG, reduceToNat -> JH, reduceEq -> JI
open Go.Proofs
theorem getL_mem {L : List In} {k : RP} (h : k ∈ L.map In.key) : getL L k ∈ L /\ (getL L k).key = k := by
  unfold getL
  obtain ⟨y, hy, he⟩ := List.mem_map.1 h
  cases hx : L.find? (fun y => decide (k = y.key)) with
  | none =>
    have := List.find?_eq_none.1 hx y hy
    simp [he] at this
  | some z =>
    refine ⟨List.mem_of_find?_eq_some hx, ?_⟩
    have := List.find?_some hx
    simp at this
    exact this.symm
structure SeqOf (H1 : Heap) (L S : List In) : Prop where
  keys : S.map In.key = addsR [] (L.map In.key)
  at_ : ∀ x ∈ S, InAt H1 x
  core : ∀ x ∈ S, ∃ y ∈ L, y.core = x.core
  len : S.length = L.length
set_option maxHeartbeats 8000000 in
theorem each_at {pb b m lp : Nat} {H0 : Heap} {L : List In} (hpb : hcells H0 pb 0 = some (true, [.ptr b 0 0])) (ht : TabAt H0 b m L) (hl : L.length <= 5000) (Inv : Heap -> List In -> Nat -> Heap -> Prop)
    (h0 : ∀ l S, SeqOf (H0 ++ l) L S -> Inv (H0 ++ l) S 0 (H0 ++ l))
    (hI : ∀ H1 S k H, Inv H1 S k H -> KeepC H1 H /\ ∀ i, H0.length <= i -> i < H1.length -> H[i]? = H1[i]?)
    (hy : ∀ l S k x H, SeqOf (H0 ++ l) L S -> S[k]? = some x -> Inv (H0 ++ l) S k H -> InAt H x -> Ev.Ok (D X (.yld lp) [.agg (inV x)] H) fun r => ∃ H', r = (.bool true, H') /\ Inv (H0 ++ l) S (k + 1) H') :
    Ev.Ok (D X (.fn 103 [.ptr pb 0 0]) [.yld lp] H0) fun r => ∃ l S H', r = (.tup [], H') /\ SeqOf (H0 ++ l) L S /\ Inv (H0 ++ l) S S.length H' := by
  refine Ok.aim fun Q hQ => ?_
  obtain ⟨l1, L', hclone, ht', hcore⟩ := clone_at ht
  have hkk : L'.map In.key = L.map In.key := by
    have := congrArg (List.map In.key) hcore
    rw [List.map_map, List.map_map] at this
    exact this
  have hlen' : L'.length = L.length := by have := congrArg List.length hcore; simpa using this
  obtain ⟨v, l2, hrefs, hrow⟩ := refs_at ht' (by omega)
  rw [hkk] at hrow
  have hl0 : H0.length <= (H0 ++ l1).length := by simp
  obtain ⟨lc, hlc⟩ : ∃ lc, H0.length = lc := ⟨_, rfl⟩
  obtain ⟨ex, es, c, hm0, _⟩ := ht'.map
  have hm1 := (List.getElem?_eq_some_iff.1 hm0).1
  have ht1 : TabAt (H0 ++ l1 ++ l2) (H0.length + 1) H0.length L' := ht'.keep (KeepC.app _ _) (by rw [List.getElem?_append_left hm1])
  obtain ⟨S, hS⟩ : ∃ S, S = (addsR [] (L.map In.key)).map (getL L') := ⟨_, rfl⟩
  have hmem : ∀ k ∈ addsR [] (L.map In.key), k ∈ L'.map In.key := fun k hk => by rw [hkk]; rw [addsR_mem] at hk; simpa using hk
  have hseq : SeqOf (H0 ++ l1 ++ l2) L S := by
    refine ⟨?_, fun x hx => ?_, fun x hx => ?_, ?_⟩
    · rw [hS, List.map_map]
      conv => rhs; rw [<- List.map_id (addsR [] (L.map In.key))]
      exact List.map_congr_left fun k hk => (getL_mem (hmem k hk)).2
    · rw [hS] at hx
      obtain ⟨k, hk, rfl⟩ := List.mem_map.1 hx
      exact (ht1.at_ _ (getL_mem (hmem k hk)).1).1
    · rw [hS] at hx
      obtain ⟨k, hk, rfl⟩ := List.mem_map.1 hx
      have h1 : (getL L' k).core ∈ L'.map In.core := List.mem_map.2 ⟨_, (getL_mem (hmem k hk)).1, rfl⟩
      rw [hcore] at h1
      obtain ⟨y, hy, he⟩ := List.mem_map.1 h1
      exact ⟨y, hy, he⟩
    · rw [hS, List.length_map, addsR_nodup_len ht.keys, List.length_map]
  have hSg : ∀ i k, (addsR [] (L.map In.key))[i]? = some k -> S[i]? = some (getL L' k) := fun i k hk => by rw [hS, List.getElem?_map, hk]; rfl
  rw [List.append_assoc] at hseq ht1 hrefs hrow
  have hSl : S.length = (addsR [] (L.map In.key)).length := by rw [hS]; simp
  have hInv0 := h0 _ S hseq
  have hy1 := fun k x H => hy (l1 ++ l2) S k x H hseq
  have hfin : ∀ H', Inv (H0 ++ (l1 ++ l2)) S S.length H' -> Q (.tup [], H') := fun H' h => hQ _ ⟨_, S, H', rfl, hseq, h⟩
  have hI1 := fun k H => hI (H0 ++ (l1 ++ l2)) S k H
  have hfin' := Hid.mk hfin
  have hy' := Hid.mk hy1
  have hI' := Hid.mk hI1
  have hInv0' := Hid.mk hInv0
  have ht1' := Hid.mk ht1
  have hSg' := Hid.mk hSg
  clear hfin hy hy1 hI hI1 h0 hInv0 ht1 hSg hseq hS hmem hQ ht' hcore hkk hlen' ht hm0 hm1
  obtain ⟨a, cap, z, rfl, h1, h1', h2⟩ := hrow
  generalize addsR [] (L.map In.key) = r at hSl hSg' hrefs h1 h1' h2 ⊢
  generalize hH1 : H0 ++ (l1 ++ l2) = H1 at *
  have hH1l : H0.length <= H1.length := by rw [<- hH1]; simp
  simp only [hlc] at *
  have hSl' := Hid.mk hSl
  clear hSl
  have hmH : lc < H1.length := by
    obtain ⟨_, _, _, hmm, _⟩ := ht1'.out.map
    exact (List.getElem?_eq_some_iff.1 hmm).1
  clear hH1
  (refine Ok.body body103 pin103 ?_; simp only [c103,Tryz.f103,Option.getD_some,nslot103,List.append_nil,List.map,List.replicate,List.length_cons,List.length_nil,Nat.reduceAdd,Nat.reduceSub,List.cons_append,List.nil_append])
  (repeat' (first | (simp -implicitDefEqProofs (maxSteps := 1000000) (disch := first | assumption | omega | (simp only [ZDI]; omega)) only [*,lenV,G103,Za,Zb,Zc,Zd,Ze,Zf,Zg,Zh,Zi,Zj,Zk,Zl,Zm,Zn,Zo,Ja,Jb,Jc,J6,Jd,Je,J7,J8,Jf,Jg,Jh,Ji,Jj,Jk,J9,Jl,Jm,wr,Jn,JA,JB,Jo,Jp,Jq,Jr,Js,Jt,Ju,Jv,Jw,Jx,Jy,Jz,J0,J1,J2,J3,J4,J5,reduceCtorEq,JC,JD,JE,JF,JG,JH,JI,JJ]) | ((with_reducible (first | apply Ok.br | apply Ok.gd | apply Ok.ld)) <;> (intro g; (try simp only [ZGS] at g); try (exfalso; omega)))))
  clear hclone hrefs hpb
  refine Ok.loop [BF, BF, BF, BF, BF, BT, BF, BF, BF, BF, BF, BT, BT, BT, BT, BT, BT, BT, BT, BT, BT, BT, BT, BT, BT] (fun n s2 => ∃ (i w1 : Nat) (q1 : List V), n = r.length - i /\ i <= r.length /\ tv s2.e 11 = .v (.int .i64 i) /\ s2.l = [(w1, q1)] /\ Inv H1 S i s2.h)
    (fun y s2 => y = .exit 0 /\ (∃ (w1 : Nat) (q1 : List V), s2.l = [(w1, q1)]) /\ Inv H1 S S.length s2.h) (r.length - 0) ⟨0, 0, [], rfl, Nat.zero_le _, rfl, rfl, hInv0'.out⟩ ?_ ?_
  · intro n ⟨e', l', g⟩ hW ⟨i, w1, q1, hm, hi, h9, k2, hinv⟩
    dsimp only at hW h9 k2 hinv
    subst l'
    rw [hW.spread]
    simp only [spread_t,spread_f,spread_n,Nat.zero_add,Nat.reduceAdd,h9]
    clear hW hfin' hInv0'
    obtain ⟨hkc, hkn⟩ := hI'.out _ _ hinv
    by_cases hlt : i < r.length
    · have hlt' : (i : Int) < (r.length : Int) := by omega
      have g1 : 0 <= (i : Int) /\ (i : Int) < (r.length : Int) := by omega
      rcases h2 with rfl | ⟨bb, q, o, rw, full, rfl, hbc, hfull, ho⟩
      · simp at hlt
      · obtain ⟨⟨y1, y2⟩, hyk⟩ : ∃ y, r[i]? = some y := ⟨_, List.getElem?_eq_getElem hlt⟩
        have hf := hfull i _ hyk
        dsimp only at hf
        have ho2 : o + i * 2 + 2 <= full.length := by omega
        have hbg := hkc.2 _ _ _ hbc
        have htg : TabAt g (lc + 1) lc L' := ht1'.out.keep hkc (hkn lc (Nat.le_refl _) hmH)
        obtain ⟨ex, es, c, hmg, heg⟩ := htg.map
        have hlk := fun e l => lookup_tab hmg heg (y1, y2) false e l
        have hcg := htg.cell
        have hsx := hSg'.out i _ hyk
        have hxat : InAt g (getL L' (y1, y2)) := by
          unfold getL
          cases hx : L'.find? (fun y => decide ((y1, y2) = y.key)) with
          | none => exact InAt.z0 g
          | some y => exact (htg.at_ y (List.mem_of_find?_eq_some hx)).1
        obtain ⟨⟨vv, g2⟩, hyld, H2, he2, hinv2⟩ := hy'.out i _ g hsx hinv hxat
        cases he2
        have hinv3 := Hid.mk hinv2
        have hcg2 := (hI'.out _ _ hinv2).1
        have htg2 : TabAt g2 (lc + 1) lc L' := ht1'.out.keep hcg2 ((hI'.out _ _ hinv2).2 lc (Nat.le_refl _) hmH)
        have hcg3 := htg2.cell
        generalize getL L' (y1, y2) = x at hlk hyld
        simp only [outV,cond_false,inV] at hlk hyld
        clear hfull ho hkc hkn htg heg hmg hsx hxat hinv hinv2 hcg2 htg2 hyk hbc
        (repeat' (first | (simp -implicitDefEqProofs (maxSteps := 1000000) (disch := first | assumption | omega | (simp only [ZDI]; omega)) only [*,lenV,exOp_lookup,G103,Za,Zb,Zc,Zd,Ze,Zf,Zg,Zh,Zi,Zj,Zk,Zl,Zm,Zn,Zo,Ja,Jb,Jc,J6,Jd,Je,J7,J8,Jf,Jg,Jh,Ji,Jj,Jk,J9,Jl,Jm,wr,Jn,JA,JB,Jo,Jp,Jq,Jr,Js,Jt,Ju,Jv,Jw,Jx,Jy,Jz,J0,J1,J2,J3,J4,J5,reduceCtorEq,JC,JD,JE,JF,JG,JH,JI,JJ]) | ((with_reducible (first | apply Ok.br | apply Ok.gd | apply Ok.ld)) <;> (intro g; (try simp only [ZGS] at g); try (exfalso; omega)))))
        exact Turn.next (r.length - (i + 1)) (by omega) ⟨rfl, i + 1, _, _, rfl, by omega, rfl, rfl, hinv3.out⟩
    · have hlt' : ¬ (i : Int) < (r.length : Int) := by omega
      have e : i = S.length := by have := hSl'.out; omega
      rw [e] at hinv
      have hinv3 := Hid.mk hinv
      clear hinv hkc hkn e
      (repeat' (first | (simp -implicitDefEqProofs (maxSteps := 1000000) (disch := first | assumption | omega | (simp only [ZDI]; omega)) only [*,lenV,G103,Za,Zb,Zc,Zd,Ze,Zf,Zg,Zh,Zi,Zj,Zk,Zl,Zm,Zn,Zo,Ja,Jb,Jc,J6,Jd,Je,J7,J8,Jf,Jg,Jh,Ji,Jj,Jk,J9,Jl,Jm,wr,Jn,JA,JB,Jo,Jp,Jq,Jr,Js,Jt,Ju,Jv,Jw,Jx,Jy,Jz,J0,J1,J2,J3,J4,J5,reduceCtorEq,JC,JD,JE,JF,JG,JH,JI,JJ]) | ((with_reducible (first | apply Ok.br | apply Ok.gd | apply Ok.ld)) <;> (intro g; (try simp only [ZGS] at g); try (exfalso; omega)))))
      exact Turn.exit ⟨rfl, rfl, ⟨_, _, rfl⟩, hinv3.out⟩
  · intro y ⟨e', l', g⟩ hW ⟨hyy, ⟨w1, q1, k2⟩, hinv⟩
    dsimp only at hW k2 hinv
    subst l' hyy
    rw [hW.spread]
    clear hW
    simp only [spread_t,spread_f,spread_n,Nat.zero_add,Nat.reduceAdd]
    have hinv3 := Hid.mk hinv
    clear hinv hInv0'
    (repeat' (first | (simp -implicitDefEqProofs (maxSteps := 1000000) (disch := first | assumption | omega | (simp only [ZDI]; omega)) only [*,G103,Za,Zb,Zc,Zd,Ze,Zf,Zg,Zh,Zi,Zj,Zk,Zl,Zm,Zn,Zo,Ja,Jb,Jc,J6,Jd,Je,J7,J8,Jf,Jg,Jh,Ji,Jj,Jk,J9,Jl,Jm,wr,Jn,JA,JB,Jo,Jp,Jq,Jr,Js,Jt,Ju,Jv,Jw,Jx,Jy,Jz,J0,J1,J2,J3,J4,J5,reduceCtorEq,JC,JD,JE,JF,JG,JH,JI,JJ]) | ((with_reducible (first | apply Ok.br | apply Ok.gd | apply Ok.ld)) <;> (intro g; (try simp only [ZGS] at g); try (exfalso; omega)))))
    exact hfin'.out _ hinv3.out
end Go.Ev
set_option maxRecDepth 100000
namespace Go.Ev
open Go.Ev renaming exPure -> Ja, ofValue -> Jb, cellsV -> Jc, load -> Jd, store -> Je, binOp -> Jf, intOp -> Jg, rdV -> Jh, vsame -> Ji, vsames -> Jj, makeSliceV -> Jk, resV -> Jl, isCell -> Jm, nilCheckV -> Jn, allV -> Jo, builtinV -> Jp, lenV -> Jq, indexAddrV -> Jr, unOp -> Js, minmaxV -> Jt, minmax -> Ju, sliceV -> Jv, asInt -> Jw, appendV -> Jx, forkB -> Jy, roY -> Jz, rwB -> J0, copyV -> J1, clearV -> J2, convV -> J3, sliceCells -> J4, shift -> J5
open Bool renaming true -> BT, false -> BF
open Nat renaming reduceEqDiff -> J6, reduceLT -> J7, reduceAdd -> J8, reduceBEq -> J9, reduceSub -> JA, reduceMul -> JB, reduceLeDiff -> JJ
open Int renaming reduceLT -> JC, reduceLE -> JD, reduceAdd -> JE, reduceSub -> JF, reduceNeg -> JG, reduceToNat -> JH, reduceEq -> JI
open Go.Proofs
structure InsRec (r : LoopR) : Prop where
  state : r.state = 0
  pending : r.pending = none
  fn : r.fn = 35
  params : r.params = [11]
  code : (rangesOf c35)[0]? = some (r.assign, r.body)
  lent : r.lent = false
  len : r.e.length = 17
  t2 : tv r.e 2 = .lp 0 1 0
set_option maxHeartbeats 8000000 in
theorem ins_round {H H1 : Heap} {lp : Nat} {r : LoopR} (hL : loopAt H lp = some r) (hr : InsRec r) {dv : V} {x3 x14 : Nat × List V} {dl : List In}
    (hl : r.l = [(1, [dv]), x3, x14]) (hlp : lp < H1.length) (hH : H1.length <= H.length) (hG : GroI H1 H dv dl) (hdl : dl.length <= 10000) (x : In) :
    Ev.Ok (D X (.yld lp) [.agg (inV x)] H) fun y => ∃ H' dv' x3' x14', y = (.bool true, H') /\
      loopAt H' lp = some { r with l := [(1, [dv']), x3', x14'] } /\
      GroI H1 H' dv' (dl ++ [x]) /\ H.length <= H'.length /\ ∀ i, i < H1.length -> i ≠ lp -> H'[i]? = H[i]? := by
  refine Ok.aim fun Q hQ => ?_
  have hLl := loopAt_lt hL
  obtain ⟨st, pe, fn, e, l, ps, asg, bd, le⟩ := r
  obtain ⟨k1, k2, k3, k4, k5, k6, k7, k8⟩ := hr
  dsimp only at k1 k2 k3 k4 k5 k6 k7 k8 hl
  subst k1 k2 k3 k4 k6 hl
  have hfin : ∀ H' dv' x3' x14',
      loopAt H' lp = some ⟨0, none, 35, e, [(1, [dv']), x3', x14'], [11], asg, bd, false⟩ ->
      GroI H1 H' dv' (dl ++ [x]) -> H.length <= H'.length -> (∀ i, i < H1.length -> i ≠ lp -> H'[i]? = H[i]?) -> Q (.bool true, H') := by
    intro H' dv' x3' x14' e3 e4 e5 e6
    exact hQ _ ⟨H', dv', x3', x14', rfl, e3, e4, e5, e6⟩
  have hfin' := Hid.mk hfin
  clear hQ hfin
  simp only [c35,Tryz.f35,Option.getD_some,rangesOf,List.nil_append,List.append_nil,List.cons_append,List.getElem?_cons_zero,List.getElem?_cons_succ,Option.some.injEq,Prod.mk.injEq] at k5
  obtain ⟨rfl, rfl⟩ := k5
  have he := congrArg (fun e => setArgs e [11] [.agg (inV x)]) (expand' k7)
  simp only [List.replicate,spread_t,spread_f,spread_n,Nat.zero_add,Nat.reduceAdd,setArgs,List.set_cons_zero,List.set_cons_succ,k8] at he
  refine Ok.round hL rfl rfl ?_
  simp only [setArgs]
  rw [he]
  clear he
  simp only [inV]
  have hG' := Hid.mk hG
  clear hG
  have hLb : (dl.length + 2) * 160 <= 35184372088832 /\ dl.length + 2 <= 35184372088832 := by omega
  have hLb1 : (dl.length + 1) * 160 <= 35184372088832 /\ dl.length + 1 <= 35184372088832 := by omega
  have hn1 : ¬ (dl.length + 1 <= dl.length) := by omega
  have hlp' := Hid.mk hlp
  have hH' := Hid.mk hH
  clear hlp hH hdl
  rcases hG'.out with ⟨rfl, rfl⟩ | ⟨b3, q3, rfl, hbl, hcl⟩
  · clear hG'
    (repeat' (first | (simp -implicitDefEqProofs (maxSteps := 1000000) (disch := first | assumption | omega | (simp only [ZDI]; omega)) only [*,flI_len,fl_snocI,List.drop_zero,Nat.zero_add,List.length_append,List.length_cons,List.length_nil,G35,Za,Zb,Zc,Zd,Ze,Zf,Zg,Zh,Zi,Zj,Zk,Zl,Zm,Zn,Zo,Ja,Jb,Jc,J6,Jd,Je,J7,J8,Jf,Jg,Jh,Ji,Jj,Jk,J9,Jl,Jm,wr,Jn,JA,JB,Jo,Jp,Jq,Jr,Js,Jt,Ju,Jv,Jw,Jx,Jy,Jz,J0,J1,J2,J3,J4,J5,reduceCtorEq,JC,JD,JE,JF,JG,JH,JI,JJ]) | ((with_reducible (first | apply Ok.br | apply Ok.gd | apply Ok.ld)) <;> (intro g; (try simp only [ZGS] at g); try (exfalso; omega)))))
    exact hfin'.out _ _ _ _ (by rw [loopAt_app (by simpa using hLl)]; exact loopAt_set_eq hLl) (.inr ⟨H.length, _, rfl, hH'.out, by rw [hcells_at (by simp)]; exact grd_t rfl _⟩) (by simp) fun i h1 h2 => by rw [List.getElem?_append_left (by simp; have := hH'.out; omega), List.getElem?_set_ne (Ne.symm h2)]
  · clear hG'
    have hcl2 := hcells_lt hcl
    have hne : b3 ≠ lp := by have := hlp'.out; omega
    have hbl' := Hid.mk hbl
    clear hbl
    (repeat' (first | (simp -implicitDefEqProofs (maxSteps := 1000000) (disch := first | assumption | omega | (simp only [ZDI]; omega)) only [*,flI_len,fl_snocI,List.drop_zero,Nat.zero_add,List.length_append,List.length_cons,List.length_nil,G35,Za,Zb,Zc,Zd,Ze,Zf,Zg,Zh,Zi,Zj,Zk,Zl,Zm,Zn,Zo,Ja,Jb,Jc,J6,Jd,Je,J7,J8,Jf,Jg,Jh,Ji,Jj,Jk,J9,Jl,Jm,wr,Jn,JA,JB,Jo,Jp,Jq,Jr,Js,Jt,Ju,Jv,Jw,Jx,Jy,Jz,J0,J1,J2,J3,J4,J5,reduceCtorEq,JC,JD,JE,JF,JG,JH,JI,JJ]) | ((with_reducible (first | apply Ok.br | apply Ok.gd | apply Ok.ld)) <;> (intro g; (try simp only [ZGS] at g); try (exfalso; omega)))))
    exact hfin'.out _ (.sl (.at b3 (q3 + 1) 0) (dl.length + 1) (dl.length + 1) 16) _ _ (loopAt_set_eq (by simpa using hLl)) (.inr ⟨b3, q3 + 1, by simp, hbl'.out, by rw [hcells_set_ne hne]; exact hcells_set_eq (by simpa using hcl2)⟩) (by simp) fun i h1 h2 => by rw [List.getElem?_set_ne (Ne.symm h2), List.getElem?_set_ne (by have := hbl'.out; omega), List.getElem?_set_ne (Ne.symm h2)]
structure InsI (lp : Nat) (r : LoopR) (H1 : Heap) (S : List In) (k : Nat) (H : Heap) : Prop where
  len : H1.length <= H.length
  old : ∀ i, i < H1.length -> i ≠ lp -> H[i]? = H1[i]?
  lp1 : loopAt H1 lp = some r
  all : ∃ dv x3 x14, loopAt H lp = some { r with l := [(1, [dv]), x3, x14] } /\ GroI H1 H dv (S.take k)
theorem InsI.keep {lp : Nat} {r : LoopR} {H1 H : Heap} {S : List In} {k : Nat} (h : InsI lp r H1 S k H) : KeepC H1 H := by
  refine ⟨h.len, fun i g p hc => ?_⟩
  have hi := hcells_lt hc
  have hne : i ≠ lp := by
    rintro rfl
    have := loopAt_get h.lp1
    unfold hcells at hc
    rw [this] at hc; cases hc
  unfold hcells at hc ⊢
  rw [h.old i hi hne]; exact hc
theorem ins_loop {pb b m lp : Nat} {H0 : Heap} {L : List In} {r : LoopR} (hpb : hcells H0 pb 0 = some (true, [.ptr b 0 0])) (ht : TabAt H0 b m L) (hl : L.length <= 5000) (hL : loopAt H0 lp = some r) (hr : InsRec r)
    {x3 x14 : Nat × List V} (hrl : r.l = [(1, [.sl .nil 0 0 0]), x3, x14]) :
    Ev.Ok (D X (.fn 103 [.ptr pb 0 0]) [.yld lp] H0) fun y => ∃ H' dv x3' x14' cap z a, y = (.tup [], H') /\
      loopAt H' lp = some { r with l := [(1, [dv]), x3', x14'] } /\ dv = .sl a L.length cap z := by
  have hlp := loopAt_lt hL
  refine (each_at hpb ht hl (InsI lp r) ?_ ?_ ?_).mono ?_
  · intro l S hS
    refine ⟨Nat.le_refl _, fun _ _ _ => rfl, by rw [loopAt_app hlp]; exact hL, .sl .nil 0 0 0, x3, x14, ?_, .inl ⟨rfl, rfl⟩⟩
    rw [loopAt_app hlp, hL]
    obtain ⟨st, pe, fn, e, l, ps, asg, bd, le⟩ := r
    dsimp only at hrl
    subst hrl
    rfl
  · intro H1 S k H h
    exact ⟨h.keep, fun i h1 h2 => h.old i h2 (by omega)⟩
  · intro l S k x H hS hx h hxa
    obtain ⟨h1, h2, h3, dv, y4, y5, h4, h5⟩ := h
    have hkl : (S.take k).length <= 10000 := by
      have h6 := hS.len
      rw [List.length_take]
      omega
    have hl1 : lp < (H0 ++ l).length := by rw [List.length_append]; omega
    refine (ins_round h4 ⟨hr.state, hr.pending, hr.fn, hr.params, hr.code, hr.lent, hr.len, hr.t2⟩ rfl hl1 h1 h5 hkl x).mono ?_
    rintro y ⟨H', dv', z4, z5, rfl, g1, g2, g3, g4⟩
    refine ⟨H', rfl, by omega, fun i i1 i2 => by rw [g4 i i1 i2, h2 i i1 i2], h3, dv', z4, z5, g1, ?_⟩
    rw [List.take_add_one, hx]; exact g2
  · rintro y ⟨l, S, H', rfl, hS, h⟩
    obtain ⟨h1, h2, h3, dv, y4, y5, h4, h5⟩ := h
    rw [List.take_length] at h5
    have hSl := hS.len
    rcases h5 with ⟨e1, rfl⟩ | ⟨b, q, rfl, _⟩
    · have : L.length = 0 := by rw [<- hSl, e1]; rfl
      exact ⟨H', _, y4, y5, 0, 0, .nil, rfl, h4, by rw [this]⟩
    · exact ⟨H', _, y4, y5, S.length, 16, .at b q 0, rfl, h4, by rw [hSl]⟩
theorem eachF_at (b : Nat) (h : Heap) : D X (.fn 69 []) [.ptr b 0 0] h = some (.fn 103 [.ptr h.length 0 0], h ++ [.cells 0 true [.ptr b 0 0]]) := by
  refine Ok.eq ?_
  (refine Ok.body body69 pin69 ?_; simp only [c69,Tryz.f69,Option.getD_some,nslot69,List.append_nil,List.map,List.replicate,List.length_cons,List.length_nil,Nat.reduceAdd,Nat.reduceSub,List.cons_append,List.nil_append])
  (repeat' (first | (simp -implicitDefEqProofs (maxSteps := 1000000) (disch := first | assumption | omega | (simp only [ZDI]; omega)) only [*,G69,Za,Zb,Zc,Zd,Ze,Zf,Zg,Zh,Zi,Zj,Zk,Zl,Zm,Zn,Zo,Ja,Jb,Jc,J6,Jd,Je,J7,J8,Jf,Jg,Jh,Ji,Jj,Jk,J9,Jl,Jm,wr,Jn,JA,JB,Jo,Jp,Jq,Jr,Js,Jt,Ju,Jv,Jw,Jx,Jy,Jz,J0,J1,J2,J3,J4,J5,reduceCtorEq,JC,JD,JE,JF,JG,JH,JI,JJ]) | ((with_reducible (first | apply Ok.br | apply Ok.gd | apply Ok.ld)) <;> (intro g; (try simp only [ZGS] at g); try (exfalso; omega)))))
set_option maxHeartbeats 8000000 in
theorem rInsts_at {h : Heap} {rb b m : Nat} {L : List In} (hrp : RepAt h rb b) (ht : TabAt h b m L) (hl : L.length <= 5000) :
    Ev.Ok (D X (.fn 35 []) [.ptr rb 0 0] h) fun y => ∃ a cap z g, y = (.sl a L.length cap z, g) := by
  refine Ok.aim fun Q hQ => ?_
  have hQ' := Hid.mk hQ
  have ht' := Hid.mk ht
  clear hQ ht
  obtain ⟨c0, c1, c2, rest, hrp⟩ := hrp
  (refine Ok.body body35 pin35 ?_; simp only [c35,Tryz.f35,Option.getD_some,nslot35,List.append_nil,List.map,List.replicate,List.length_cons,List.length_nil,Nat.reduceAdd,Nat.reduceSub,List.cons_append,List.nil_append])
  have hef := eachF_at b h
  (repeat' (first | (simp -implicitDefEqProofs (maxSteps := 1000000) (disch := first | assumption | omega | (simp only [ZDI]; omega)) only [*,G35,Za,Zb,Zc,Zd,Ze,Zf,Zg,Zh,Zi,Zj,Zk,Zl,Zm,Zn,Zo,Ja,Jb,Jc,J6,Jd,Je,J7,J8,Jf,Jg,Jh,Ji,Jj,Jk,J9,Jl,Jm,wr,Jn,JA,JB,Jo,Jp,Jq,Jr,Js,Jt,Ju,Jv,Jw,Jx,Jy,Jz,J0,J1,J2,J3,J4,J5,reduceCtorEq,JC,JD,JE,JF,JG,JH,JI,JJ]) | ((with_reducible (first | apply Ok.br | apply Ok.gd | apply Ok.ld)) <;> (intro g; (try simp only [ZGS] at g); try (exfalso; omega)))))
  clear hef
  have hm := Hid.mk ht'.out.map
  refine Ok.bnd2 (ins_loop (lp := h.length + 1) (pb := h.length) (b := b) (m := m) (L := L) (r := ?rr) (x3 := ?x4) (x14 := ?x5) ?hpb (ht'.out.keep (KeepC.app h _) ?hmm) hl ?hL ?hr ?hl) ?_
  case hpb => rw [hcells_ge (Nat.le_refl _), Nat.sub_self]; exact grd_t rfl _
  case hmm =>
    obtain ⟨_, _, _, h2, _⟩ := hm.out
    exact List.getElem?_append_left (List.getElem?_eq_some_iff.1 h2).1
  case hL => rw [loopAt_ge (by omega)]; simp only [Nat.add_sub_cancel_left]; rfl
  case hr => exact ⟨rfl, rfl, rfl, rfl, by simp only [c35,Tryz.f35,Option.getD_some,rangesOf,List.nil_append,List.append_nil,List.cons_append,List.getElem?_cons_zero], rfl, rfl, rfl⟩
  case hl => rfl
  rintro v' H2 ⟨H3, dv, y4, y5, cap, z, a, e3, hrec, hG⟩
  simp only [Prod.mk.injEq] at e3
  obtain ⟨rfl, rfl⟩ := e3
  subst hG
  have hQ2 : Hid (∀ g, Q (.sl a L.length cap z, g)) := ⟨fun g => hQ'.out _ ⟨_, _, _, g, rfl⟩⟩
  clear hQ' ht' hm
  simp -implicitDefEqProofs (maxSteps := 1000000) (disch := first | assumption | omega | (simp only [ZDI]; omega)) only [*,G35,Za,Zb,Zc,Zd,Ze,Zf,Zg,Zh,Zi,Zj,Zk,Zl,Zm,Zn,Zo,Ja,Jb,Jc,J6,Jd,Je,J7,J8,Jf,Jg,Jh,Ji,Jj,Jk,J9,Jl,Jm,wr,Jn,JA,JB,Jo,Jp,Jq,Jr,Js,Jt,Ju,Jv,Jw,Jx,Jy,Jz,J0,J1,J2,J3,J4,J5,reduceCtorEq,JC,JD,JE,JF,JG,JH,JI,JJ]
  exact hQ2.out _
end Go.Ev
set_option maxRecDepth 100000
namespace Go.Ev
open Go.Ev renaming exPure -> Ja, ofValue -> Jb, cellsV -> Jc, load -> Jd, store -> Je, binOp -> Jf, intOp -> Jg, rdV -> Jh, vsame -> Ji, vsames -> Jj, makeSliceV -> Jk, resV -> Jl, isCell -> Jm, nilCheckV -> Jn, allV -> Jo, builtinV -> Jp, lenV -> Jq, indexAddrV -> Jr, unOp -> Js, minmaxV -> Jt, minmax -> Ju, sliceV -> Jv, asInt -> Jw, appendV -> Jx, forkB -> Jy, roY -> Jz, rwB -> J0, copyV -> J1, clearV -> J2, convV -> J3, sliceCells -> J4, shift -> J5
open Bool renaming true -> BT, false -> BF
open Nat renaming reduceEqDiff -> J6, reduceLT -> J7, reduceAdd -> J8, reduceBEq -> J9, reduceSub -> JA, reduceMul -> JB, reduceLeDiff -> JJ
open Int renaming reduceLT -> JC, reduceLE -> JD, reduceAdd -> JE, reduceSub -> JF, reduceNeg -> JG, reduceToNat -> JH, reduceEq -> JI
open Go.Proofs
theorem tries_nil (h : Heap) : D X (.fn 21 []) [.nilp] h = some (.int .i64 0, h) := by
  refine Ok.eq ?_
  (refine Ok.body body21 pin21 ?_; simp only [c21,Tryz.f21,Option.getD_some,nslot21,List.append_nil,List.map,List.replicate,List.length_cons,List.length_nil,Nat.reduceAdd,Nat.reduceSub,List.cons_append,List.nil_append])
  (repeat' (first | (simp -implicitDefEqProofs (maxSteps := 1000000) (disch := first | assumption | omega | (simp only [ZDI]; omega)) only [*,lenV,G21,Za,Zb,Zc,Zd,Ze,Zf,Zg,Zh,Zi,Zj,Zk,Zl,Zm,Zn,Zo,Ja,Jb,Jc,J6,Jd,Je,J7,J8,Jf,Jg,Jh,Ji,Jj,Jk,J9,Jl,Jm,wr,Jn,JA,JB,Jo,Jp,Jq,Jr,Js,Jt,Ju,Jv,Jw,Jx,Jy,Jz,J0,J1,J2,J3,J4,J5,reduceCtorEq,JC,JD,JE,JF,JG,JH,JI,JJ]) | ((with_reducible (first | apply Ok.br | apply Ok.gd | apply Ok.ld)) <;> (intro g; (try simp only [ZGS] at g); try (exfalso; omega)))))
theorem rInsts_nil (h : Heap) : D X (.fn 35 []) [.nilp] h = some (.sl .nil 0 0 0, h) := by
  refine Ok.eq ?_
  (refine Ok.body body35 pin35 ?_; simp only [c35,Tryz.f35,Option.getD_some,nslot35,List.append_nil,List.map,List.replicate,List.length_cons,List.length_nil,Nat.reduceAdd,Nat.reduceSub,List.cons_append,List.nil_append])
  (repeat' (first | (simp -implicitDefEqProofs (maxSteps := 1000000) (disch := first | assumption | omega | (simp only [ZDI]; omega)) only [*,lenV,G35,Za,Zb,Zc,Zd,Ze,Zf,Zg,Zh,Zi,Zj,Zk,Zl,Zm,Zn,Zo,Ja,Jb,Jc,J6,Jd,Je,J7,J8,Jf,Jg,Jh,Ji,Jj,Jk,J9,Jl,Jm,wr,Jn,JA,JB,Jo,Jp,Jq,Jr,Js,Jt,Ju,Jv,Jw,Jx,Jy,Jz,J0,J1,J2,J3,J4,J5,reduceCtorEq,JC,JD,JE,JF,JG,JH,JI,JJ]) | ((with_reducible (first | apply Ok.br | apply Ok.gd | apply Ok.ld)) <;> (intro g; (try simp only [ZGS] at g); try (exfalso; omega)))))
theorem tick_nil (h : Heap) : D X (.fn 30 []) [.nilp, .sl .nil 0 0 0] h = some (.agg [.sl .nil 0 0 0, .sl .nil 0 0 0], h) := by
  refine Ok.eq ?_
  (refine Ok.body body30 pin30 ?_; simp only [c30,Tryz.f30,Option.getD_some,nslot30,List.append_nil,List.map,List.replicate,List.length_cons,List.length_nil,Nat.reduceAdd,Nat.reduceSub,List.cons_append,List.nil_append])
  (repeat' (first | (simp -implicitDefEqProofs (maxSteps := 1000000) (disch := first | assumption | omega | (simp only [ZDI]; omega)) only [*,lenV,G30,Za,Zb,Zc,Zd,Ze,Zf,Zg,Zh,Zi,Zj,Zk,Zl,Zm,Zn,Zo,Ja,Jb,Jc,J6,Jd,Je,J7,J8,Jf,Jg,Jh,Ji,Jj,Jk,J9,Jl,Jm,wr,Jn,JA,JB,Jo,Jp,Jq,Jr,Js,Jt,Ju,Jv,Jw,Jx,Jy,Jz,J0,J1,J2,J3,J4,J5,reduceCtorEq,JC,JD,JE,JF,JG,JH,JI,JJ]) | ((with_reducible (first | apply Ok.br | apply Ok.gd | apply Ok.ld)) <;> (intro g; (try simp only [ZGS] at g); try (exfalso; omega)))))
theorem propose_nil (h : Heap) (m0 m1 m2 m3 m4 m5 : V) : D X (.fn 22 []) [.nilp, .agg [m0, m1, m2, m3, m4, m5]] h = some (.tup [.agg [.int .i64 0, .int .i64 0], .agg [.sl .nil 0 0 0, .sl .nil 0 0 0], .int .i64 8], h) := by
  refine Ok.eq ?_
  (refine Ok.body body22 pin22 ?_; simp only [c22,Tryz.f22,Option.getD_some,nslot22,List.append_nil,List.map,List.replicate,List.length_cons,List.length_nil,Nat.reduceAdd,Nat.reduceSub,List.cons_append,List.nil_append])
  (repeat' (first | (simp -implicitDefEqProofs (maxSteps := 1000000) (disch := first | assumption | omega | (simp only [ZDI]; omega)) only [*,lenV,G22,Za,Zb,Zc,Zd,Ze,Zf,Zg,Zh,Zi,Zj,Zk,Zl,Zm,Zn,Zo,Ja,Jb,Jc,J6,Jd,Je,J7,J8,Jf,Jg,Jh,Ji,Jj,Jk,J9,Jl,Jm,wr,Jn,JA,JB,Jo,Jp,Jq,Jr,Js,Jt,Ju,Jv,Jw,Jx,Jy,Jz,J0,J1,J2,J3,J4,J5,reduceCtorEq,JC,JD,JE,JF,JG,JH,JI,JJ]) | ((with_reducible (first | apply Ok.br | apply Ok.gd | apply Ok.ld)) <;> (intro g; (try simp only [ZGS] at g); try (exfalso; omega)))))
theorem hear_nil (h : Heap) (m0 m1 m2 m3 m4 m5 m6 m7 m8 m9 m10 m11 m12 m13 m14 m15 m16 m17 m18 m19 m20 m21 m22 m23 m24 m25 m26 m27 : V) :
    D X (.fn 15 []) [.nilp, .agg [m0, m1, m2, m3, m4, m5, m6, m7, m8, m9, m10, m11, m12, m13, m14, m15, m16, m17, m18, m19, m20, m21, m22, m23, m24, m25, m26, m27]] h = some (.agg [.sl .nil 0 0 0, .sl .nil 0 0 0], h) := by
  refine Ok.eq ?_
  (refine Ok.body body15 pin15 ?_; simp only [c15,Tryz.f15,Option.getD_some,nslot15,List.append_nil,List.map,List.replicate,List.length_cons,List.length_nil,Nat.reduceAdd,Nat.reduceSub,List.cons_append,List.nil_append])
  (repeat' (first | (simp -implicitDefEqProofs (maxSteps := 1000000) (disch := first | assumption | omega | (simp only [ZDI]; omega)) only [*,lenV,G15,Za,Zb,Zc,Zd,Ze,Zf,Zg,Zh,Zi,Zj,Zk,Zl,Zm,Zn,Zo,Ja,Jb,Jc,J6,Jd,Je,J7,J8,Jf,Jg,Jh,Ji,Jj,Jk,J9,Jl,Jm,wr,Jn,JA,JB,Jo,Jp,Jq,Jr,Js,Jt,Ju,Jv,Jw,Jx,Jy,Jz,J0,J1,J2,J3,J4,J5,reduceCtorEq,JC,JD,JE,JF,JG,JH,JI,JJ]) | ((with_reducible (first | apply Ok.br | apply Ok.gd | apply Ok.ld)) <;> (intro g; (try simp only [ZGS] at g); try (exfalso; omega)))))
end Go.Ev
set_option maxRecDepth 100000
namespace Go.Ev
open Go.Ev renaming exPure -> Ja, ofValue -> Jb, cellsV -> Jc, load -> Jd, store -> Je, binOp -> Jf, intOp -> Jg, rdV -> Jh, vsame -> Ji, vsames -> Jj, makeSliceV -> Jk, resV -> Jl, isCell -> Jm, nilCheckV -> Jn, allV -> Jo, builtinV -> Jp, lenV -> Jq, indexAddrV -> Jr, unOp -> Js, minmaxV -> Jt, minmax -> Ju, sliceV -> Jv, asInt -> Jw, appendV -> Jx, forkB -> Jy, roY -> Jz, rwB -> J0, copyV -> J1, clearV -> J2, convV -> J3, sliceCells -> J4, shift -> J5
open Bool renaming true -> BT, false -> BF
open Nat renaming reduceEqDiff -> J6, reduceLT -> J7, reduceAdd -> J8, reduceBEq -> J9, reduceSub -> JA, reduceMul -> JB, reduceLeDiff -> JJ
open Int renaming reduceLT -> JC, reduceLE -> JD, reduceAdd -> JE, reduceSub -> JF, reduceNeg -> JG, reduceToNat -> JH, reduceEq -> JI
open Go.Proofs
theorem optArr_s {α : Type} (a : α) : (some a).toArray = #[a] := rfl
theorem optArr_n {α : Type} : (none : Option α).toArray = #[] := rfl
theorem findL_lt {L : List In} {k : RP} : decide (findL L k < 0) = !decide (k ∈ L.map In.key) := by
  unfold findL
  cases h : L.findIdx? (fun y => decide (y.key = k)) with
  | none =>
    have h1 : ¬ k ∈ L.map In.key := fun hk => by
      obtain ⟨y, hy, e⟩ := List.mem_map.1 hk
      have := List.findIdx?_eq_none_iff.1 h y hy
      simp [e] at this
    rw [decide_eq_false h1]; rfl
  | some i =>
    obtain ⟨hi, h1, _⟩ := List.findIdx?_eq_some_iff_getElem.1 h
    have h2 : k ∈ L.map In.key := List.mem_map.2 ⟨L[i], List.getElem_mem _, of_decide_eq_true h1⟩
    rw [decide_eq_true h2]
    have : ¬ ((i : Int) < 0) := by omega
    simp [this]
theorem mem_step {k y : Int} {l : List Int} {i : Nat} (hy : l[i]? = some y) : decide (k ∈ l.drop i) = (decide (y = k) || decide (k ∈ l.drop (i + 1))) := by
  have hi := (List.getElem?_eq_some_iff.1 hy).1
  rw [List.drop_eq_getElem_cons hi]
  have e : l[i] = y := by rw [List.getElem?_eq_getElem hi] at hy; exact Option.some.inj hy
  rw [e, <- Bool.decide_or]
  refine decide_eq_decide.2 ?_
  rw [List.mem_cons]
  exact ⟨fun h => h.imp Eq.symm id, fun h => h.imp Eq.symm id⟩
theorem mem_end {k : Int} {l : List Int} {i : Nat} (h : l.length <= i) : decide (k ∈ l.drop i) = false := by
  rw [List.drop_of_length_le h]; simp
set_option maxHeartbeats 16000000 in
theorem accordNews_at {h : Heap} {mv lv : V} {ms : List Int} {l : List In} (hm : IntsAt h mv ms) (hr : InsAt h lv l) (hcap : ∃ a n cap z, lv = .sl a n cap z /\ n <= cap) (self : Int) :
    Ev.Ok (D X (.fn 9 []) [.int .i64 self, mv, lv] h) fun r => r.1 = .bool true := by
  refine Ok.aim fun Q hQ => ?_
  have hQ' := Hid.mk hQ
  clear hQ
  have hlv := D_pin (X := X) (f := 11) (b := true) rfl
  have hm' := Hid.mk hm
  have hr' := Hid.mk hr
  obtain ⟨ma, mc, mz, rfl, hm1, hm2⟩ := hm
  obtain ⟨a, cap, z, rfl, h1, hall, h2⟩ := hr
  have hcap' : l.length <= cap := by
    obtain ⟨_, _, _, _, e, hc⟩ := hcap
    cases e; exact hc
  have hall' := Hid.mk hall
  clear hcap hall
  by_cases h20 : 20 < ms.length
  · have h20' : (20 : Int) < (ms.length : Int) := by omega
    (refine Ok.body body9 pin9 ?_; simp only [c9,Tryz.f9,Option.getD_some,nslot9,List.append_nil,List.map,List.replicate,List.length_cons,List.length_nil,Nat.reduceAdd,Nat.reduceSub,List.cons_append,List.nil_append])
    (repeat' (first | (simp -implicitDefEqProofs (maxSteps := 1000000) (disch := first | assumption | omega | (simp only [ZDI]; omega)) only [*,lenV,G9,Za,Zb,Zc,Zd,Ze,Zf,Zg,Zh,Zi,Zj,Zk,Zl,Zm,Zn,Zo,Ja,Jb,Jc,J6,Jd,Je,J7,J8,Jf,Jg,Jh,Ji,Jj,Jk,J9,Jl,Jm,wr,Jn,JA,JB,Jo,Jp,Jq,Jr,Js,Jt,Ju,Jv,Jw,Jx,Jy,Jz,J0,J1,J2,J3,J4,J5,reduceCtorEq,JC,JD,JE,JF,JG,JH,JI,JJ]) | ((with_reducible (first | apply Ok.br | apply Ok.gd | apply Ok.ld)) <;> (intro g; (try simp only [ZGS] at g); try (exfalso; omega)))))
    exact hQ'.out _ rfl
  have h20' : ¬ (20 : Int) < (ms.length : Int) := by omega
  by_cases h60 : 60 < l.length
  · have h60' : (60 : Int) < (l.length : Int) := by omega
    (refine Ok.body body9 pin9 ?_; simp only [c9,Tryz.f9,Option.getD_some,nslot9,List.append_nil,List.map,List.replicate,List.length_cons,List.length_nil,Nat.reduceAdd,Nat.reduceSub,List.cons_append,List.nil_append])
    (repeat' (first | (simp -implicitDefEqProofs (maxSteps := 1000000) (disch := first | assumption | omega | (simp only [ZDI]; omega)) only [*,lenV,G9,Za,Zb,Zc,Zd,Ze,Zf,Zg,Zh,Zi,Zj,Zk,Zl,Zm,Zn,Zo,Ja,Jb,Jc,J6,Jd,Je,J7,J8,Jf,Jg,Jh,Ji,Jj,Jk,J9,Jl,Jm,wr,Jn,JA,JB,Jo,Jp,Jq,Jr,Js,Jt,Ju,Jv,Jw,Jx,Jy,Jz,J0,J1,J2,J3,J4,J5,reduceCtorEq,JC,JD,JE,JF,JG,JH,JI,JJ]) | ((with_reducible (first | apply Ok.br | apply Ok.gd | apply Ok.ld)) <;> (intro g; (try simp only [ZGS] at g); try (exfalso; omega)))))
    exact hQ'.out _ rfl
  have h60' : ¬ (60 : Int) < (l.length : Int) := by omega
  obtain ⟨odd, hodd⟩ : ∃ b, decide ((ms.length : Int) % 2 = 1) = b := ⟨_, rfl⟩
  have hodd2 : decide ((ms.length : Int).tmod 2 = 1) = odd := by rw [Int.tmod_eq_emod_of_nonneg (Int.natCast_nonneg _)]; exact hodd
  have hodd' := Hid.mk hodd
  clear hodd
  have hm2' := Hid.mk hm2
  have h2' := Hid.mk h2
  clear hm2 h2
  (refine Ok.body body9 pin9 ?_; simp only [c9,Tryz.f9,Option.getD_some,nslot9,List.append_nil,List.map,List.replicate,List.length_cons,List.length_nil,Nat.reduceAdd,Nat.reduceSub,List.cons_append,List.nil_append])
  (repeat' (first | (simp -implicitDefEqProofs (maxSteps := 1000000) (disch := first | assumption | omega | (simp only [ZDI]; omega)) only [*,lenV,G9,Za,Zb,Zc,Zd,Ze,Zf,Zg,Zh,Zi,Zj,Zk,Zl,Zm,Zn,Zo,Ja,Jb,Jc,J6,Jd,Je,J7,J8,Jf,Jg,Jh,Ji,Jj,Jk,J9,Jl,Jm,wr,Jn,JA,JB,Jo,Jp,Jq,Jr,Js,Jt,Ju,Jv,Jw,Jx,Jy,Jz,J0,J1,J2,J3,J4,J5,reduceCtorEq,JC,JD,JE,JF,JG,JH,JI,JJ]) | ((with_reducible (first | apply Ok.br | apply Ok.gd | apply Ok.ld)) <;> (intro g; (try simp only [ZGS] at g); try (exfalso; omega)))))
  refine Ok.loop [BF, BF, BF, BF, BF, BF, BF, BT, BT, BT, BT, BF, BF, BF, BF, BF, BF, BF, BF, BF, BF, BF, BF, BF, BF, BF, BF, BF, BF, BF, BF, BF, BF, BF, BF, BF, BF, BT, BT, BT, BT, BT, BT, BT, BT, BT, BT, BT, BT, BT, BT, BT, BT, BT, BT, BT, BT, BT, BT, BT, BT, BT, BT, BT, BT, BT, BT, BT, BT, BT, BT, BF, BF, BF, BF, BF, BF, BF, BF, BF, BF, BF, BF, BF, BF, BF, BF, BF, BF, BF, BF, BF, BF, BF, BF, BF, BF, BF, BF, BF, BF, BF, BF, BF, BF, BF, BF, BF, BF, BF, BF, BF, BF, BF, BF, BF, BF, BF, BF, BF, BF, BF, BF, BF, BF, BF, BF, BF, BF, BF, BF, BF, BF, BF, BF, BF, BF, BF, BF, BF, BF, BF, BF, BF, BF, BF, BF, BF, BF, BF, BF, BF, BF, BF, BF, BF, BF, BF, BF, BF, BF, BF, BF, BF, BF, BF, BF, BF, BF, BF, BF, BF, BF, BF, BF, BF, BF, BF, BF, BF, BF, BF, BF, BF, BF, BF, BF, BF, BF, BF, BF, BF, BF, BF, BF, BF, BF, BF, BF, BF, BF] (fun n s2 => ∃ (i : Nat) (rb ib : Bool), n = ms.length - i /\ i <= ms.length /\ tv s2.e 37 = .v (.int .i64 i) /\ tv s2.e 7 = .v (.bool rb) /\ tv s2.e 8 = .v (.bool ib) /\ s2.l = [(0, []), (0, []), (0, [])] /\ s2.h = h /\ (odd && risN none ms) = (rb && risN (prvI ms i) (ms.drop i)) /\ decide (self ∈ ms) = (ib || decide (self ∈ ms.drop i)))
    (fun y s2 => y = .exit 0 /\ tv s2.e 7 = .v (.bool (odd && risN none ms)) /\ tv s2.e 8 = .v (.bool (decide (self ∈ ms))) /\ s2.l = [(0, []), (0, []), (0, [])] /\ s2.h = h) (ms.length - 0) ⟨0, odd, false, rfl, Nat.zero_le _, rfl, rfl, rfl, rfl, rfl, rfl, rfl⟩ ?_ ?_
  · intro n ⟨e', l', g⟩ hW ⟨i, rb, ib, hmm, hi, h9, h7, h8, k2, k3, hno, hno2⟩
    dsimp only at hW h9 h7 h8 k2 k3
    subst l' g
    rw [hW.spread]
    simp only [spread_t,spread_f,spread_n,Nat.zero_add,Nat.reduceAdd,h9,h7,h8]
    clear hW hQ'
    by_cases hlt : i < ms.length
    · have hlt' : (i : Int) < (ms.length : Int) := by omega
      have g1 : 0 <= (i : Int) /\ (i : Int) < (ms.length : Int) := by omega
      rcases hm2'.out with rfl | ⟨b, q, o, rw, full, rfl, hb, hfull⟩
      · simp at hlt
      · obtain ⟨y, hy⟩ : ∃ y, ms[i]? = some y := ⟨_, List.getElem?_eq_getElem hlt⟩
        have hf := hfull i y hy
        rw [risN_step hy] at hno
        rw [mem_step hy] at hno2
        have hno' := Hid.mk hno
        have hno2' := Hid.mk hno2
        clear hno hno2
        by_cases h0 : i = 0
        · have hp : prvN (prvI ms i) y = true := by unfold prvI; rw [if_pos h0]; rfl
          have g0 : decide ((i : Int) = 0) = true := decide_eq_true (by omega)
          have hp' := Hid.mk hp
          clear hy hfull hp h0
          cases ib <;> cases rb
          rotate_left
          · by_cases hy0 : 0 <= y <;> by_cases hy7 : y < 7
            all_goals
              (repeat' (first | (simp -implicitDefEqProofs (maxSteps := 1000000) (disch := first | assumption | omega | (simp only [ZDI]; omega)) only [*,lenV,G9,Za,Zb,Zc,Zd,Ze,Zf,Zg,Zh,Zi,Zj,Zk,Zl,Zm,Zn,Zo,Ja,Jb,Jc,J6,Jd,Je,J7,J8,Jf,Jg,Jh,Ji,Jj,Jk,J9,Jl,Jm,wr,Jn,JA,JB,Jo,Jp,Jq,Jr,Js,Jt,Ju,Jv,Jw,Jx,Jy,Jz,J0,J1,J2,J3,J4,J5,reduceCtorEq,JC,JD,JE,JF,JG,JH,JI,JJ]) | ((with_reducible (first | apply Ok.br | apply Ok.gd | apply Ok.ld)) <;> (intro g; (try simp only [ZGS] at g); try (exfalso; omega)))))
              exact Turn.next (ms.length - (i + 1)) (by omega) ⟨rfl, i + 1, _, _, rfl, by omega, rfl, rfl, rfl, rfl, rfl, by rw [hno'.out, hp'.out]; simp [*], by rw [hno2'.out]; simp [*]⟩
          rotate_left
          · by_cases hy0 : 0 <= y <;> by_cases hy7 : y < 7
            all_goals
              (repeat' (first | (simp -implicitDefEqProofs (maxSteps := 1000000) (disch := first | assumption | omega | (simp only [ZDI]; omega)) only [*,lenV,G9,Za,Zb,Zc,Zd,Ze,Zf,Zg,Zh,Zi,Zj,Zk,Zl,Zm,Zn,Zo,Ja,Jb,Jc,J6,Jd,Je,J7,J8,Jf,Jg,Jh,Ji,Jj,Jk,J9,Jl,Jm,wr,Jn,JA,JB,Jo,Jp,Jq,Jr,Js,Jt,Ju,Jv,Jw,Jx,Jy,Jz,J0,J1,J2,J3,J4,J5,reduceCtorEq,JC,JD,JE,JF,JG,JH,JI,JJ]) | ((with_reducible (first | apply Ok.br | apply Ok.gd | apply Ok.ld)) <;> (intro g; (try simp only [ZGS] at g); try (exfalso; omega)))))
              exact Turn.next (ms.length - (i + 1)) (by omega) ⟨rfl, i + 1, _, _, rfl, by omega, rfl, rfl, rfl, rfl, rfl, by rw [hno'.out, hp'.out]; simp [*], by rw [hno2'.out]; simp [*]⟩
          all_goals
            (repeat' (first | (simp -implicitDefEqProofs (maxSteps := 1000000) (disch := first | assumption | omega | (simp only [ZDI]; omega)) only [*,lenV,G9,Za,Zb,Zc,Zd,Ze,Zf,Zg,Zh,Zi,Zj,Zk,Zl,Zm,Zn,Zo,Ja,Jb,Jc,J6,Jd,Je,J7,J8,Jf,Jg,Jh,Ji,Jj,Jk,J9,Jl,Jm,wr,Jn,JA,JB,Jo,Jp,Jq,Jr,Js,Jt,Ju,Jv,Jw,Jx,Jy,Jz,J0,J1,J2,J3,J4,J5,reduceCtorEq,JC,JD,JE,JF,JG,JH,JI,JJ]) | ((with_reducible (first | apply Ok.br | apply Ok.gd | apply Ok.ld)) <;> (intro g; (try simp only [ZGS] at g); try (exfalso; omega)))))
            exact Turn.next (ms.length - (i + 1)) (by omega) ⟨rfl, i + 1, _, _, rfl, by omega, rfl, rfl, rfl, rfl, rfl, by rw [hno'.out, hp'.out]; simp [*], by rw [hno2'.out]; simp [*]⟩
        · obtain ⟨x, hx⟩ : ∃ x, ms[i - 1]? = some x := ⟨_, List.getElem?_eq_getElem (by omega)⟩
          have hf2 := hfull (i - 1) _ hx
          have hp : prvN (prvI ms i) y = decide (x < y) := by unfold prvI; rw [if_neg h0, hx]; rfl
          have e1 : (i : Int) - 1 = ((i - 1 : Nat) : Int) := by omega
          have g0 : ¬ (i : Int) = 0 := by omega
          have g2 : 0 <= ((i - 1 : Nat) : Int) /\ ((i - 1 : Nat) : Int) < (ms.length : Int) := by omega
          have hp' := Hid.mk hp
          clear hy hfull hp hx h0
          cases ib <;> cases rb
          rotate_left
          · by_cases hy0 : 0 <= y <;> by_cases hy7 : y < 7 <;> by_cases hxy : x < y
            all_goals
              (repeat' (first | (simp -implicitDefEqProofs (maxSteps := 1000000) (disch := first | assumption | omega | (simp only [ZDI]; omega)) only [*,lenV,G9,Za,Zb,Zc,Zd,Ze,Zf,Zg,Zh,Zi,Zj,Zk,Zl,Zm,Zn,Zo,Ja,Jb,Jc,J6,Jd,Je,J7,J8,Jf,Jg,Jh,Ji,Jj,Jk,J9,Jl,Jm,wr,Jn,JA,JB,Jo,Jp,Jq,Jr,Js,Jt,Ju,Jv,Jw,Jx,Jy,Jz,J0,J1,J2,J3,J4,J5,reduceCtorEq,JC,JD,JE,JF,JG,JH,JI,JJ]) | ((with_reducible (first | apply Ok.br | apply Ok.gd | apply Ok.ld)) <;> (intro g; (try simp only [ZGS] at g); try (exfalso; omega)))))
              exact Turn.next (ms.length - (i + 1)) (by omega) ⟨rfl, i + 1, _, _, rfl, by omega, rfl, rfl, rfl, rfl, rfl, by rw [hno'.out, hp'.out]; simp [*], by rw [hno2'.out]; simp [*]⟩
          rotate_left
          · by_cases hy0 : 0 <= y <;> by_cases hy7 : y < 7 <;> by_cases hxy : x < y
            all_goals
              (repeat' (first | (simp -implicitDefEqProofs (maxSteps := 1000000) (disch := first | assumption | omega | (simp only [ZDI]; omega)) only [*,lenV,G9,Za,Zb,Zc,Zd,Ze,Zf,Zg,Zh,Zi,Zj,Zk,Zl,Zm,Zn,Zo,Ja,Jb,Jc,J6,Jd,Je,J7,J8,Jf,Jg,Jh,Ji,Jj,Jk,J9,Jl,Jm,wr,Jn,JA,JB,Jo,Jp,Jq,Jr,Js,Jt,Ju,Jv,Jw,Jx,Jy,Jz,J0,J1,J2,J3,J4,J5,reduceCtorEq,JC,JD,JE,JF,JG,JH,JI,JJ]) | ((with_reducible (first | apply Ok.br | apply Ok.gd | apply Ok.ld)) <;> (intro g; (try simp only [ZGS] at g); try (exfalso; omega)))))
              exact Turn.next (ms.length - (i + 1)) (by omega) ⟨rfl, i + 1, _, _, rfl, by omega, rfl, rfl, rfl, rfl, rfl, by rw [hno'.out, hp'.out]; simp [*], by rw [hno2'.out]; simp [*]⟩
          all_goals
            (repeat' (first | (simp -implicitDefEqProofs (maxSteps := 1000000) (disch := first | assumption | omega | (simp only [ZDI]; omega)) only [*,lenV,G9,Za,Zb,Zc,Zd,Ze,Zf,Zg,Zh,Zi,Zj,Zk,Zl,Zm,Zn,Zo,Ja,Jb,Jc,J6,Jd,Je,J7,J8,Jf,Jg,Jh,Ji,Jj,Jk,J9,Jl,Jm,wr,Jn,JA,JB,Jo,Jp,Jq,Jr,Js,Jt,Ju,Jv,Jw,Jx,Jy,Jz,J0,J1,J2,J3,J4,J5,reduceCtorEq,JC,JD,JE,JF,JG,JH,JI,JJ]) | ((with_reducible (first | apply Ok.br | apply Ok.gd | apply Ok.ld)) <;> (intro g; (try simp only [ZGS] at g); try (exfalso; omega)))))
            exact Turn.next (ms.length - (i + 1)) (by omega) ⟨rfl, i + 1, _, _, rfl, by omega, rfl, rfl, rfl, rfl, rfl, by rw [hno'.out, hp'.out]; simp [*], by rw [hno2'.out]; simp [*]⟩
    · have hlt' : ¬ (i : Int) < (ms.length : Int) := by omega
      rw [risN_end (by omega)] at hno
      rw [mem_end (by omega)] at hno2
      have hno' := Hid.mk hno
      have hno2' := Hid.mk hno2
      clear hno hno2
      (repeat' (first | (simp -implicitDefEqProofs (maxSteps := 1000000) (disch := first | assumption | omega | (simp only [ZDI]; omega)) only [*,lenV,G9,Za,Zb,Zc,Zd,Ze,Zf,Zg,Zh,Zi,Zj,Zk,Zl,Zm,Zn,Zo,Ja,Jb,Jc,J6,Jd,Je,J7,J8,Jf,Jg,Jh,Ji,Jj,Jk,J9,Jl,Jm,wr,Jn,JA,JB,Jo,Jp,Jq,Jr,Js,Jt,Ju,Jv,Jw,Jx,Jy,Jz,J0,J1,J2,J3,J4,J5,reduceCtorEq,JC,JD,JE,JF,JG,JH,JI,JJ]) | ((with_reducible (first | apply Ok.br | apply Ok.gd | apply Ok.ld)) <;> (intro g; (try simp only [ZGS] at g); try (exfalso; omega)))))
      exact Turn.exit ⟨rfl, rfl, by rw [hno'.out]; simp; rfl, by rw [hno2'.out]; simp; rfl, rfl, rfl⟩
  · intro y ⟨e', l', g⟩ hW ⟨hy, h7, h8, k2, k3⟩
    dsimp only at hW h7 h8 k2 k3
    subst l' g hy
    rw [hW.spread]
    clear hW
    simp only [spread_t,spread_f,spread_n,Nat.zero_add,Nat.reduceAdd,h7,h8]
    have hB : newB self ms l = ((odd && risN none ms) && decide (self ∈ ms) && okL ms [] l) := by
      unfold newB
      rw [hodd'.out, Bool.and_comm (risN none ms)]
    generalize (odd && risN none ms) = b1 at hB ⊢
    generalize decide (self ∈ ms) = b2 at hB ⊢
    have hB' := Hid.mk hB
    clear hB
    cases b1
    all_goals
      (repeat' (first | (simp -implicitDefEqProofs (maxSteps := 1000000) (disch := first | assumption | omega | (simp only [ZDI]; omega)) only [*,lenV,G9,Za,Zb,Zc,Zd,Ze,Zf,Zg,Zh,Zi,Zj,Zk,Zl,Zm,Zn,Zo,Ja,Jb,Jc,J6,Jd,Je,J7,J8,Jf,Jg,Jh,Ji,Jj,Jk,J9,Jl,Jm,wr,Jn,JA,JB,Jo,Jp,Jq,Jr,Js,Jt,Ju,Jv,Jw,Jx,Jy,Jz,J0,J1,J2,J3,J4,J5,reduceCtorEq,JC,JD,JE,JF,JG,JH,JI,JJ]) | ((with_reducible (first | apply Ok.br | apply Ok.gd | apply Ok.ld)) <;> (intro g; (try simp only [ZGS] at g); try (exfalso; omega)))))
      refine Ok.loop [BF, BF, BF, BF, BF, BF, BT, BT, BF, BF, BF, BT, BT, BT, BF, BT, BF, BF, BF, BF, BF, BF, BF, BF, BF, BF, BF, BF, BF, BF, BF, BF, BF, BF, BF, BF, BF, BF, BF, BF, BF, BF, BF, BF, BF, BF, BF, BF, BF, BF, BF, BF, BF, BF, BF, BF, BF, BF, BF, BF, BF, BF, BF, BF, BF, BF, BF, BF, BF, BF, BF, BF, BF, BF, BF, BF, BF, BT, BT, BT, BT, BT, BT, BT, BT, BT, BT, BT, BT, BT, BT, BT, BT, BT, BT, BT, BT, BT, BT, BT, BT, BT, BT, BT, BT, BT, BT, BT, BT, BT, BT, BT, BT, BT, BT, BT, BT, BT, BT, BF, BF, BF, BF, BF, BF, BF, BF, BF, BF, BF, BF, BF, BF, BF, BF, BF, BF, BF, BF, BF, BF, BF, BF, BF, BF, BF, BF, BF, BF, BF, BF, BF, BF, BF, BF, BF, BF, BF, BF, BF, BF, BF, BF, BF, BF, BF, BF, BF, BF, BF, BF, BF, BF, BF, BF, BF, BF, BF, BF, BF, BF, BF, BF, BF, BF, BF, BF, BF, BF, BF, BF, BF, BF, BF, BF, BF, BF, BF, BF, BF, BF] (fun n s2 => ∃ (i w0 : Nat) (q0 : List V) (rb : Bool), n = l.length - i /\ i <= l.length /\ tv s2.e 77 = .v (.int .i64 i) /\ tv s2.e 7 = .v (.bool rb) /\ s2.l = [(w0, q0), (0, []), (0, [])] /\ s2.h = h /\ newB self ms l = (rb && okL ms ((l.take i).map In.key) (l.drop i)))
        (fun y s2 => s2.h = h /\ (∃ (w0 : Nat) (q0 : List V), s2.l = [(w0, q0), (0, []), (0, [])]) /\ ((y = .exit 2 /\ tv s2.e 7 = .v (.bool (newB self ms l))) \/ (y = .ret /\ tv s2.e 6 = .v (.bool true)))) (l.length - 0) ⟨0, 0, [], _, rfl, Nat.zero_le _, rfl, rfl, rfl, rfl, by rw [hB'.out]; simp⟩ ?_ ?_
      · intro n ⟨e', l', g⟩ hW ⟨i, w0, q0, rb, hmm, hi, h9, h7, k2, k3, hno⟩
        dsimp only at hW h9 h7 k2 k3
        subst l' g
        rw [hW.spread]
        simp only [spread_t,spread_f,spread_n,Nat.zero_add,Nat.reduceAdd,h9,h7]
        clear hW hQ' hB'
        by_cases hlt : i < l.length
        · have hlt' : (i : Int) < (l.length : Int) := by omega
          have g1 : 0 <= (i : Int) /\ (i : Int) < (l.length : Int) := by omega
          rcases h2'.out with rfl | ⟨bb, q, o, rw, full, rfl, hb, hfull, ho⟩
          · simp at hlt
          · obtain ⟨x, hx⟩ : ∃ y, l[i]? = some y := ⟨_, List.getElem?_eq_getElem hlt⟩
            have hf := hfull i x hx
            have ho2 : o + i * 16 + 16 <= full.length := by omega
            have hxa : InAt h x := hall'.out x (List.mem_of_getElem? hx)
            have hbl := hcells_lt hb
            rw [okL_step hx] at hno
            have hlight := light_at hxa
            generalize (lightB 0 0 x.dl && decide ((x.pl.length : Int) <= 5000)) = lb at hlight
            cases lb with
            | false =>
              simp only [inV] at hf hlight
              clear hno hx hfull ho hxa
              (repeat' (first | (simp -implicitDefEqProofs (maxSteps := 1000000) (disch := first | assumption | omega | (simp only [ZDI]; omega)) only [*,lenV,G9,Za,Zb,Zc,Zd,Ze,Zf,Zg,Zh,Zi,Zj,Zk,Zl,Zm,Zn,Zo,Ja,Jb,Jc,J6,Jd,Je,J7,J8,Jf,Jg,Jh,Ji,Jj,Jk,J9,Jl,Jm,wr,Jn,JA,JB,Jo,Jp,Jq,Jr,Js,Jt,Ju,Jv,Jw,Jx,Jy,Jz,J0,J1,J2,J3,J4,J5,reduceCtorEq,JC,JD,JE,JF,JG,JH,JI,JJ]) | ((with_reducible (first | apply Ok.br | apply Ok.gd | apply Ok.ld)) <;> (intro g; (try simp only [ZGS] at g); try (exfalso; omega)))))
              exact Turn.ret ⟨rfl, rfl, ⟨_, _, rfl⟩, .inr ⟨rfl, rfl⟩⟩
            | true =>
              have hmay := rMayI_at hxa
              have hsl : InsAt h (.sl (.at bb q o) i cap z) (l.take i) := by
                have hlen : (l.take i).length = i := by rw [List.length_take]; omega
                refine ⟨_, _, _, by rw [hlen], by omega, fun y hy => hall'.out y (List.mem_of_mem_take hy), .inr ⟨bb, q, o, rw, full, rfl, hb, fun j y hy => ?_, by rw [hlen]; omega⟩⟩
                have hj := (List.getElem?_eq_some_iff.1 hy).1
                rw [List.getElem?_take, if_pos (by omega)] at hy
                exact hfull j y hy
              have hfind := find_at hsl x.key
              have hfl := findL_lt (L := l.take i) (k := x.key)
              rw [<- Bool.not_not (decide (x.key ∈ (l.take i).map In.key)), <- hfl] at hno
              generalize findL (l.take i) x.key = fi at hfind hno
              generalize mayB x = mb at hmay hno
              obtain ⟨mbb, hmbb⟩ : ∃ mbb, decide (x.l ∈ ms) = mbb := ⟨_, rfl⟩
              rw [hmbb] at hno
              have hmbb' := Hid.mk hmbb
              have hno' := Hid.mk hno
              clear hno hx hfull ho hxa hsl hfl hmbb
              have hic : (i : Int) <= (cap : Int) := by omega
              have hil : i <= cap := by omega
              simp only [inV,In.key] at hf hlight hmay hfind
              (repeat' (first | (simp -implicitDefEqProofs (maxSteps := 1000000) (disch := first | assumption | omega | (simp only [ZDI]; omega)) only [*,lenV,G9,Za,Zb,Zc,Zd,Ze,Zf,Zg,Zh,Zi,Zj,Zk,Zl,Zm,Zn,Zo,Ja,Jb,Jc,J6,Jd,Je,J7,J8,Jf,Jg,Jh,Ji,Jj,Jk,J9,Jl,Jm,wr,Jn,JA,JB,Jo,Jp,Jq,Jr,Js,Jt,Ju,Jv,Jw,Jx,Jy,Jz,J0,J1,J2,J3,J4,J5,reduceCtorEq,JC,JD,JE,JF,JG,JH,JI,JJ]) | ((with_reducible (first | apply Ok.br | apply Ok.gd | apply Ok.ld)) <;> (intro g; (try simp only [ZGS] at g); try (exfalso; omega)))))
              refine Ok.loop [BF, BF, BF, BF, BF, BF, BF, BF, BF, BF, BF, BF, BF, BT, BF, BT, BF, BF, BF, BF, BF, BF, BF, BF, BF, BF, BF, BF, BF, BF, BF, BF, BF, BF, BF, BF, BF, BF, BF, BF, BF, BF, BF, BF, BF, BF, BF, BF, BF, BF, BF, BF, BF, BF, BF, BF, BF, BF, BF, BF, BF, BF, BF, BF, BF, BF, BF, BF, BF, BF, BF, BF, BF, BF, BF, BF, BF, BF, BF, BF, BF, BF, BF, BF, BF, BF, BF, BF, BT, BT, BT, BT, BT, BT, BT, BT, BT, BT, BT, BT, BT, BF, BF, BF, BF, BF, BF, BF, BF, BF, BF, BF, BF, BF, BF, BF, BF, BF, BF, BF, BF, BF, BF, BF, BF, BF, BF, BF, BF, BF, BF, BF, BF, BF, BF, BF, BF, BF, BF, BF, BF, BF, BF, BF, BF, BF, BF, BF, BF, BF, BF, BF, BF, BF, BF, BF, BF, BF, BF, BF, BF, BF, BF, BF, BF, BF, BF, BF, BF, BF, BF, BF, BF, BF, BF, BF, BF, BF, BF, BF, BF, BF, BF, BF, BF, BF, BF, BF, BF, BF, BF, BF, BF, BF, BF, BF, BF, BF, BF, BF, BF] (fun n s2 => ∃ (j : Nat) (mb' : Bool), n = ms.length - j /\ j <= ms.length /\ tv s2.e 88 = .v (.int .i64 j) /\ tv s2.e 13 = .v (.bool mb') /\ s2.l = [(w0 + 1, [.int .i64 x.l, .int .i64 x.i, .int .i64 x.bn, .int .i64 x.bd, .int .i64 x.vn, .int .i64 x.vd, .int .i64 x.st, .bool x.sm, .int .i64 x.o, .int .i64 x.c, .int .i64 x.q, .int .i64 x.f, .int .i64 x.t, x.dv, .int .i64 x.sq, x.pv]), (0, []), (0, [])] /\ s2.h = h /\ mbb = (mb' || decide (x.l ∈ ms.drop j)))
                (fun y s2 => y = .exit 4 /\ tv s2.e 13 = .v (.bool mbb) /\ s2.l = [(w0 + 1, [.int .i64 x.l, .int .i64 x.i, .int .i64 x.bn, .int .i64 x.bd, .int .i64 x.vn, .int .i64 x.vd, .int .i64 x.st, .bool x.sm, .int .i64 x.o, .int .i64 x.c, .int .i64 x.q, .int .i64 x.f, .int .i64 x.t, x.dv, .int .i64 x.sq, x.pv]), (0, []), (0, [])] /\ s2.h = h) (ms.length - 0) ⟨0, false, rfl, Nat.zero_le _, rfl, rfl, rfl, rfl, hmbb'.out.symm⟩ ?_ ?_
              · intro n2 ⟨e2, l2, g2⟩ hW ⟨j, mb2, hmm2, hj, j9, j13, k2, k3, hno2⟩
                dsimp only at hW j9 j13 k2 k3
                subst l2 g2
                rw [hW.spread]
                simp only [spread_t,spread_f,spread_n,Nat.zero_add,Nat.reduceAdd,j9,j13]
                clear hW hlight hmay hfind hno' hf hb
                by_cases hlj : j < ms.length
                · have hlj' : (j : Int) < (ms.length : Int) := by omega
                  have gj : 0 <= (j : Int) /\ (j : Int) < (ms.length : Int) := by omega
                  rcases hm2'.out with rfl | ⟨cb, cq, co, crw, cfull, rfl, hcb, hcf⟩
                  · simp at hlj
                  · obtain ⟨y, hy⟩ : ∃ y, ms[j]? = some y := ⟨_, List.getElem?_eq_getElem hlj⟩
                    have hfy := hcf j y hy
                    rw [mem_step hy] at hno2
                    have hno2' := Hid.mk hno2
                    clear hno2 hcf hy
                    cases mb2 with
                    | true =>
                      (repeat' (first | (simp -implicitDefEqProofs (maxSteps := 1000000) (disch := first | assumption | omega | (simp only [ZDI]; omega)) only [*,lenV,G9,Za,Zb,Zc,Zd,Ze,Zf,Zg,Zh,Zi,Zj,Zk,Zl,Zm,Zn,Zo,Ja,Jb,Jc,J6,Jd,Je,J7,J8,Jf,Jg,Jh,Ji,Jj,Jk,J9,Jl,Jm,wr,Jn,JA,JB,Jo,Jp,Jq,Jr,Js,Jt,Ju,Jv,Jw,Jx,Jy,Jz,J0,J1,J2,J3,J4,J5,reduceCtorEq,JC,JD,JE,JF,JG,JH,JI,JJ]) | ((with_reducible (first | apply Ok.br | apply Ok.gd | apply Ok.ld)) <;> (intro g; (try simp only [ZGS] at g); try (exfalso; omega)))))
                      exact Turn.next (ms.length - (j + 1)) (by omega) ⟨rfl, j + 1, _, rfl, by omega, rfl, rfl, rfl, rfl, by rw [hno2'.out]; simp⟩
                    | false =>
                      (repeat' (first | (simp -implicitDefEqProofs (maxSteps := 1000000) (disch := first | assumption | omega | (simp only [ZDI]; omega)) only [*,lenV,G9,Za,Zb,Zc,Zd,Ze,Zf,Zg,Zh,Zi,Zj,Zk,Zl,Zm,Zn,Zo,Ja,Jb,Jc,J6,Jd,Je,J7,J8,Jf,Jg,Jh,Ji,Jj,Jk,J9,Jl,Jm,wr,Jn,JA,JB,Jo,Jp,Jq,Jr,Js,Jt,Ju,Jv,Jw,Jx,Jy,Jz,J0,J1,J2,J3,J4,J5,reduceCtorEq,JC,JD,JE,JF,JG,JH,JI,JJ]) | ((with_reducible (first | apply Ok.br | apply Ok.gd | apply Ok.ld)) <;> (intro g; (try simp only [ZGS] at g); try (exfalso; omega)))))
                      exact Turn.next (ms.length - (j + 1)) (by omega) ⟨rfl, j + 1, _, rfl, by omega, rfl, rfl, rfl, rfl, by rw [hno2'.out]; simp⟩
                · have hlj' : ¬ (j : Int) < (ms.length : Int) := by omega
                  rw [mem_end (by omega), Bool.or_false] at hno2
                  subst hno2
                  (repeat' (first | (simp -implicitDefEqProofs (maxSteps := 1000000) (disch := first | assumption | omega | (simp only [ZDI]; omega)) only [*,lenV,G9,Za,Zb,Zc,Zd,Ze,Zf,Zg,Zh,Zi,Zj,Zk,Zl,Zm,Zn,Zo,Ja,Jb,Jc,J6,Jd,Je,J7,J8,Jf,Jg,Jh,Ji,Jj,Jk,J9,Jl,Jm,wr,Jn,JA,JB,Jo,Jp,Jq,Jr,Js,Jt,Ju,Jv,Jw,Jx,Jy,Jz,J0,J1,J2,J3,J4,J5,reduceCtorEq,JC,JD,JE,JF,JG,JH,JI,JJ]) | ((with_reducible (first | apply Ok.br | apply Ok.gd | apply Ok.ld)) <;> (intro g; (try simp only [ZGS] at g); try (exfalso; omega)))))
                  exact Turn.exit ⟨rfl, rfl, rfl, rfl, rfl⟩
              · intro y2 ⟨e2, l2, g2⟩ hW ⟨hy2, j13, k2, k3⟩
                dsimp only at hW j13 k2 k3
                subst l2 g2 hy2
                rw [hW.spread]
                clear hW hmbb'
                simp only [spread_t,spread_f,spread_n,Nat.zero_add,Nat.reduceAdd,j13]
                have hcz : ¬ cap = 0 := by omega
                cases rb <;> cases mbb <;> cases mb
                rotate_right
                · by_cases hz : z = 0
                  · subst hz
                    (repeat' (first | (simp -implicitDefEqProofs (maxSteps := 1000000) (disch := first | assumption | omega | (simp only [ZDI]; omega)) only [*,lenV,optArr_s,optArr_n,Array.append_empty,Array.empty_append,List.nil_append,Array.toList_append,SA.add,Nat.sub_zero,G9,Za,Zb,Zc,Zd,Ze,Zf,Zg,Zh,Zi,Zj,Zk,Zl,Zm,Zn,Zo,Ja,Jb,Jc,J6,Jd,Je,J7,J8,Jf,Jg,Jh,Ji,Jj,Jk,J9,Jl,Jm,wr,Jn,JA,JB,Jo,Jp,Jq,Jr,Js,Jt,Ju,Jv,Jw,Jx,Jy,Jz,J0,J1,J2,J3,J4,J5,reduceCtorEq,JC,JD,JE,JF,JG,JH,JI,JJ]) | ((with_reducible (first | apply Ok.br | apply Ok.gd | apply Ok.ld)) <;> (intro g; (try simp only [ZGS] at g); try (exfalso; omega)))))
                    exact Turn.next (l.length - (i + 1)) (by omega) ⟨rfl, i + 1, _, _, _, rfl, by omega, rfl, rfl, rfl, rfl, by rw [hno'.out]; simp⟩
                  · (repeat' (first | (simp -implicitDefEqProofs (maxSteps := 1000000) (disch := first | assumption | omega | (simp only [ZDI]; omega)) only [*,lenV,optArr_s,optArr_n,Array.append_empty,Array.empty_append,List.nil_append,Array.toList_append,G9,Za,Zb,Zc,Zd,Ze,Zf,Zg,Zh,Zi,Zj,Zk,Zl,Zm,Zn,Zo,Ja,Jb,Jc,J6,Jd,Je,J7,J8,Jf,Jg,Jh,Ji,Jj,Jk,J9,Jl,Jm,wr,Jn,JA,JB,Jo,Jp,Jq,Jr,Js,Jt,Ju,Jv,Jw,Jx,Jy,Jz,J0,J1,J2,J3,J4,J5,reduceCtorEq,JC,JD,JE,JF,JG,JH,JI,JJ]) | ((with_reducible (first | apply Ok.br | apply Ok.gd | apply Ok.ld)) <;> (intro g; (try simp only [ZGS] at g); try (exfalso; omega)))))
                    exact Turn.next (l.length - (i + 1)) (by omega) ⟨rfl, i + 1, _, _, _, rfl, by omega, rfl, rfl, rfl, rfl, by rw [hno'.out]; simp⟩
                all_goals
                  (repeat' (first | (simp -implicitDefEqProofs (maxSteps := 1000000) (disch := first | assumption | omega | (simp only [ZDI]; omega)) only [*,lenV,G9,Za,Zb,Zc,Zd,Ze,Zf,Zg,Zh,Zi,Zj,Zk,Zl,Zm,Zn,Zo,Ja,Jb,Jc,J6,Jd,Je,J7,J8,Jf,Jg,Jh,Ji,Jj,Jk,J9,Jl,Jm,wr,Jn,JA,JB,Jo,Jp,Jq,Jr,Js,Jt,Ju,Jv,Jw,Jx,Jy,Jz,J0,J1,J2,J3,J4,J5,reduceCtorEq,JC,JD,JE,JF,JG,JH,JI,JJ]) | ((with_reducible (first | apply Ok.br | apply Ok.gd | apply Ok.ld)) <;> (intro g; (try simp only [ZGS] at g); try (exfalso; omega)))))
                  exact Turn.next (l.length - (i + 1)) (by omega) ⟨rfl, i + 1, _, _, _, rfl, by omega, rfl, rfl, rfl, rfl, by rw [hno'.out]; simp⟩
        · have hlt' : ¬ (i : Int) < (l.length : Int) := by omega
          rw [okL_end (by omega), Bool.and_true] at hno
          have hno' := Hid.mk hno
          clear hno
          (repeat' (first | (simp -implicitDefEqProofs (maxSteps := 1000000) (disch := first | assumption | omega | (simp only [ZDI]; omega)) only [*,lenV,G9,Za,Zb,Zc,Zd,Ze,Zf,Zg,Zh,Zi,Zj,Zk,Zl,Zm,Zn,Zo,Ja,Jb,Jc,J6,Jd,Je,J7,J8,Jf,Jg,Jh,Ji,Jj,Jk,J9,Jl,Jm,wr,Jn,JA,JB,Jo,Jp,Jq,Jr,Js,Jt,Ju,Jv,Jw,Jx,Jy,Jz,J0,J1,J2,J3,J4,J5,reduceCtorEq,JC,JD,JE,JF,JG,JH,JI,JJ]) | ((with_reducible (first | apply Ok.br | apply Ok.gd | apply Ok.ld)) <;> (intro g; (try simp only [ZGS] at g); try (exfalso; omega)))))
          exact Turn.exit ⟨rfl, rfl, ⟨_, _, rfl⟩, .inl ⟨rfl, by rw [hno'.out]; rfl⟩⟩
      · intro y ⟨e', l', g⟩ hW ⟨k3, ⟨w0, q0, k2⟩, hy⟩
        dsimp only at hW k2 k3 hy
        subst l' g
        rw [hW.spread]
        clear hW hB'
        rcases hy with ⟨rfl, j7⟩ | ⟨rfl, j6⟩
        · simp only [spread_t,spread_f,spread_n,Nat.zero_add,Nat.reduceAdd,j7]
          obtain ⟨yy, hnew, g, hxg, hcase⟩ := newR_at hm'.out (by omega) hr'.out (by omega) self 3
          have p1 := fun h => propose_nil h (.int .i64 0) (.int .i64 0) (.int .i64 0) (.int .i64 0) (.int .i64 0) (.sl .nil 0 0 0)
          have p2 := fun h => hear_nil h
          have p3 := fun h => tick_nil h
          have p4 := fun h => tries_nil h
          have p5 := fun h => rInsts_nil h
          rcases hcase with ⟨hb, rfl⟩ | ⟨hb, rb, b, m, L, rfl, hrep, htab, hL⟩
          · rw [hb]
            clear hxg hb
            (repeat' (first | (simp -implicitDefEqProofs (maxSteps := 1000000) (disch := first | assumption | omega | (simp only [ZDI]; omega)) only [*,lenV,List.append_eq,G9,Za,Zb,Zc,Zd,Ze,Zf,Zg,Zh,Zi,Zj,Zk,Zl,Zm,Zn,Zo,Ja,Jb,Jc,J6,Jd,Je,J7,J8,Jf,Jg,Jh,Ji,Jj,Jk,J9,Jl,Jm,wr,Jn,JA,JB,Jo,Jp,Jq,Jr,Js,Jt,Ju,Jv,Jw,Jx,Jy,Jz,J0,J1,J2,J3,J4,J5,reduceCtorEq,JC,JD,JE,JF,JG,JH,JI,JJ]) | ((with_reducible (first | apply Ok.br | apply Ok.gd | apply Ok.ld)) <;> (intro g; (try simp only [ZGS] at g); try (exfalso; omega)))))
            exact hQ'.out _ rfl
          · rw [hb]
            obtain ⟨yy2, hins, a2, cap2, z2, g2, rfl⟩ := rInsts_at hrep htab (by omega)
            rw [hL] at hins
            clear hxg hb hrep htab hL
            (repeat' (first | (simp -implicitDefEqProofs (maxSteps := 1000000) (disch := first | assumption | omega | (simp only [ZDI]; omega)) only [*,lenV,List.append_eq,G9,Za,Zb,Zc,Zd,Ze,Zf,Zg,Zh,Zi,Zj,Zk,Zl,Zm,Zn,Zo,Ja,Jb,Jc,J6,Jd,Je,J7,J8,Jf,Jg,Jh,Ji,Jj,Jk,J9,Jl,Jm,wr,Jn,JA,JB,Jo,Jp,Jq,Jr,Js,Jt,Ju,Jv,Jw,Jx,Jy,Jz,J0,J1,J2,J3,J4,J5,reduceCtorEq,JC,JD,JE,JF,JG,JH,JI,JJ]) | ((with_reducible (first | apply Ok.br | apply Ok.gd | apply Ok.ld)) <;> (intro g; (try simp only [ZGS] at g); try (exfalso; omega)))))
            exact hQ'.out _ rfl
        · simp only [spread_t,spread_f,spread_n,Nat.zero_add,Nat.reduceAdd,j6]
          (repeat' (first | (simp -implicitDefEqProofs (maxSteps := 1000000) (disch := first | assumption | omega | (simp only [ZDI]; omega)) only [*,lenV,G9,Za,Zb,Zc,Zd,Ze,Zf,Zg,Zh,Zi,Zj,Zk,Zl,Zm,Zn,Zo,Ja,Jb,Jc,J6,Jd,Je,J7,J8,Jf,Jg,Jh,Ji,Jj,Jk,J9,Jl,Jm,wr,Jn,JA,JB,Jo,Jp,Jq,Jr,Js,Jt,Ju,Jv,Jw,Jx,Jy,Jz,J0,J1,J2,J3,J4,J5,reduceCtorEq,JC,JD,JE,JF,JG,JH,JI,JJ]) | ((with_reducible (first | apply Ok.br | apply Ok.gd | apply Ok.ld)) <;> (intro g; (try simp only [ZGS] at g); try (exfalso; omega)))))
          exact hQ'.out _ rfl
end Go.Ev
set_option maxRecDepth 100000
namespace Go.Ev
open Go.Proofs
section
variable {T : TypeId -> TI} {h : Heap} {d : Nat} {t u w : TypeId} {xss : List (List V)}
theorem FitsAll.one (hf : FitsAll T h d [t] xss) : ∃ x, xss = [x] /\ Fits T h d t x := by
  match xss, hf with
  | [x], hf => exact ⟨x, rfl, hf.1⟩
theorem FitsAll.three (hf : FitsAll T h d [t, u, w] xss) : ∃ x y z, xss = [x, y, z] /\ Fits T h d t x /\ Fits T h d u y /\ Fits T h d w z := by
  match xss, hf with
  | [x, y, z], hf => exact ⟨x, y, z, rfl, hf.1, hf.2.1, hf.2.2.1⟩
end
theorem Strs.at' {h : Heap} {v : V} {l : List ByteArray} (hs : Strs h v l) : StrsAt h v l := hs.at
theorem fits_bool {h : Heap} {d : Nat} {cs : List V} (hf : Fits X.ty h (d + 1) 4 cs) : ∃ b, cs = [.bool b] := by
  unfold Fits at hf
  rw [ty4] at hf
  exact hf
theorem fits_ref {h : Heap} {d : Nat} {cs : List V} (hf : Fits X.ty h (d + 2) 24 cs) : ∃ a b, cs = [.int .i64 a, .int .i64 b] /\ In64 a /\ In64 b := by
  unfold Fits at hf
  rw [ty24] at hf
  obtain ⟨hl, hf⟩ := hf
  match cs, hl with
  | [c0, c1], _ =>
    obtain ⟨a, h0, i0⟩ := fits_int (hf (0, 3) (by simp))
    obtain ⟨b, h1, i1⟩ := fits_int (hf (1, 3) (by simp))
    simp [ty3] at h0 h1
    subst h0 h1
    exact ⟨a, b, rfl, i0, i1⟩
theorem fits_refs {h : Heap} {d : Nat} {cs : List V} (hf : Fits X.ty h (d + 3) 30 cs) : ∃ v L, cs = [v] /\ RowAt h v L := by
  unfold Fits at hf
  rw [ty30] at hf
  have hmax : maxLen = 9223372036854775807 := by decide
  rw [hmax] at hf
  rcases hf with rfl | rfl | ⟨b, len, cap, full, rfl, h1, h2, h3, h4, h5, h6⟩
  · exact ⟨_, [], rfl, .nil, 0, 0, rfl, by simp, by decide, .inl rfl⟩
  · exact ⟨_, [], rfl, .any, 0, 1, rfl, by simp, by decide, .inl rfl⟩
  · have hsz : (X.ty 24).size = 2 := by rw [ty24]
    rw [hsz] at h5 h6
    have hx : ∀ i, ∃ x : RP, i < cap -> (full.drop (i * 2)).take 2 = [.int .i64 x.1, .int .i64 x.2] := by
      intro i
      by_cases hi : i < cap
      · obtain ⟨a, b, e, _, _⟩ := fits_ref (h6 i hi)
        exact ⟨(a, b), fun _ => e⟩
      · exact ⟨(0, 0), fun h' => absurd h' hi⟩
    obtain ⟨g, hg⟩ := Classical.axiomOfChoice hx
    have hlen : ((List.range len).map g).length = len := by rw [List.length_map, List.length_range]
    refine ⟨_, (List.range len).map g, rfl, .at b 0 0, cap, 0, by rw [hlen], by rw [hlen]; omega, by omega, .inr ⟨b, 0, 0, false, full, rfl, ?_, ?_, ?_⟩⟩
    · unfold hcells; rw [h4]; exact grd_t rfl _
    · intro i x hi
      rw [List.getElem?_map] at hi
      cases hr : (List.range len)[i]? with
      | none => rw [hr] at hi; cases hi
      | some j =>
        rw [hr] at hi
        have hj : i < len := by have := (List.getElem?_eq_some_iff.1 hr).1; simpa using this
        have : j = i := by rw [List.getElem?_range hj] at hr; exact (Option.some.inj hr).symm
        subst this
        simp only [Option.map_some,Option.some.injEq] at hi
        subst hi
        rw [Nat.zero_add]
        exact hg j (by omega)
    · rw [hlen, h5, Nat.zero_add]
      exact Nat.mul_le_mul_right 2 (by omega)
theorem fits_ballot {h : Heap} {d : Nat} {cs : List V} (hf : Fits X.ty h (d + 2) 26 cs) : ∃ a b, cs = [.int .i64 a, .int .i64 b] /\ In64 a /\ In64 b := by
  unfold Fits at hf
  rw [ty26] at hf
  obtain ⟨hl, hf⟩ := hf
  match cs, hl with
  | [c0, c1], _ =>
    obtain ⟨a, h0, i0⟩ := fits_int (hf (0, 3) (by simp))
    obtain ⟨b, h1, i1⟩ := fits_int (hf (1, 3) (by simp))
    simp [ty3] at h0 h1
    subst h0 h1
    exact ⟨a, b, rfl, i0, i1⟩
def In.Ok (x : In) : Prop := In64 x.l /\ In64 x.i /\ In64 x.bn /\ In64 x.bd /\ In64 x.vn /\ In64 x.vd /\ In64 x.st /\ In64 x.sq /\ In64 x.o /\ In64 x.c /\ In64 x.q /\ In64 x.f /\ In64 x.t
theorem fits_inst {h : Heap} {d : Nat} {cs : List V} (hf : Fits X.ty h (d + 4) 32 cs) : ∃ x : In, cs = inV x /\ InAt h x /\ x.Ok := by
  unfold Fits at hf
  rw [ty32] at hf
  obtain ⟨hl, hf⟩ := hf
  match cs, hl with
  | [c0, c1, c2, c3, c4, c5, c6, c7, c8, c9, c10, c11, c12, c13, c14, c15], _ =>
    obtain ⟨l, i, h0, i0, i1⟩ := fits_ref (hf (0, 24) (by simp))
    obtain ⟨bn, bd, h1, i2, i3⟩ := fits_ballot (hf (2, 26) (by simp))
    obtain ⟨vn, vd, h2, i4, i5⟩ := fits_ballot (hf (4, 26) (by simp))
    obtain ⟨st, h3, i6⟩ := fits_int (hf (6, 3) (by simp))
    obtain ⟨sm, h4⟩ := fits_bool (hf (7, 4) (by simp))
    obtain ⟨o, c, q, f, t, dv, dl, h5, j0, j1, j2, j3, j4, j5⟩ := fits_cmd (hf (8, 29) (by simp))
    obtain ⟨sq, h6, i7⟩ := fits_int (hf (14, 3) (by simp))
    obtain ⟨pv, pl, h7, i8⟩ := fits_refs (hf (15, 30) (by simp))
    simp [ty24] at h0
    simp [ty26] at h1 h2
    simp [ty3] at h3 h6
    simp [ty4] at h4
    simp [ty29] at h5
    simp [ty30] at h7
    obtain ⟨rfl, rfl⟩ := h0
    obtain ⟨rfl, rfl⟩ := h1
    obtain ⟨rfl, rfl⟩ := h2
    obtain ⟨rfl, rfl, rfl, rfl, rfl, rfl⟩ := h5
    subst h3 h4 h6 h7
    exact ⟨⟨l, i, bn, bd, vn, vd, st, sm, o, c, q, f, t, _, dl, sq, _, pl⟩, rfl, ⟨j5.at, i8⟩, i0, i1, i2, i3, i4, i5, i6, i7, j0, j1, j2, j3, j4⟩
end Go.Ev
set_option maxRecDepth 100000
namespace Go.Ev
open Go.Proofs
theorem fits_insts {h : Heap} {d : Nat} {cs : List V} (hf : Fits X.ty h (d + 5) 22 cs) : ∃ v L, cs = [v] /\ InsAt h v L /\ ∀ x ∈ L, x.Ok := by
  unfold Fits at hf
  rw [ty22] at hf
  have hmax : maxLen = 9223372036854775807 := by decide
  rw [hmax] at hf
  rcases hf with rfl | rfl | ⟨b, len, cap, full, rfl, h1, h2, h3, h4, h5, h6⟩
  · exact ⟨_, [], rfl, ⟨.nil, 0, 0, rfl, by decide, (fun x hx => nomatch hx), .inl rfl⟩, fun x hx => nomatch hx⟩
  · exact ⟨_, [], rfl, ⟨.any, 0, 1, rfl, by decide, (fun x hx => nomatch hx), .inl rfl⟩, fun x hx => nomatch hx⟩
  · have hsz : (X.ty 32).size = 16 := by rw [ty32]
    rw [hsz] at h5 h6
    have hx : ∀ i, ∃ x : In, i < cap -> (full.drop (i * 16)).take 16 = inV x /\ InAt h x /\ x.Ok := by
      intro i
      by_cases hi : i < cap
      · obtain ⟨x, e, k, o⟩ := fits_inst (h6 i hi)
        exact ⟨x, fun _ => ⟨e, k, o⟩⟩
      · exact ⟨z0, fun h' => absurd h' hi⟩
    obtain ⟨g, hg⟩ := Classical.axiomOfChoice hx
    have hlen : ((List.range len).map g).length = len := by rw [List.length_map, List.length_range]
    have hall : ∀ x ∈ (List.range len).map g, InAt h x /\ x.Ok := fun x hm => by
      obtain ⟨i, hi, rfl⟩ := List.mem_map.1 hm
      have := List.mem_range.1 hi
      exact (hg i (by omega)).2
    refine ⟨_, (List.range len).map g, rfl, ⟨.at b 0 0, cap, 0, by rw [hlen], by rw [hlen]; omega, fun x hm => (hall x hm).1, .inr ⟨b, 0, 0, false, full, rfl, ?_, ?_, ?_⟩⟩, fun x hm => (hall x hm).2⟩
    · unfold hcells; rw [h4]; exact grd_t rfl _
    · intro i x hi
      rw [List.getElem?_map] at hi
      cases hr : (List.range len)[i]? with
      | none => rw [hr] at hi; cases hi
      | some j =>
        rw [hr] at hi
        have hj : i < len := by have := (List.getElem?_eq_some_iff.1 hr).1; simpa using this
        have : j = i := by rw [List.getElem?_range hj] at hr; exact (Option.some.inj hr).symm
        subst this
        simp only [Option.map_some,Option.some.injEq] at hi
        subst hi
        rw [Nat.zero_add]
        exact (hg j (by omega)).1
    · rw [hlen, h5, Nat.zero_add]
      exact Nat.mul_le_mul_right 16 (by omega)
end Go.Ev
set_option maxRecDepth 100000
namespace Go.Ev
open Go.Proofs
theorem fits_cap {h : Heap} {d : Nat} {cs : List V} (hf : Fits X.ty h (d + 5) 22 cs) : ∃ a n cap z, cs = [.sl a n cap z] /\ n <= cap := by
  unfold Fits at hf
  rw [ty22] at hf
  rcases hf with rfl | rfl | ⟨b, len, cap, full, rfl, h1, h2, h3, h4, h5, h6⟩
  · exact ⟨_, _, _, _, rfl, Nat.le_refl _⟩
  · exact ⟨_, _, _, _, rfl, Nat.le_refl _⟩
  · exact ⟨_, _, _, _, rfl, by omega⟩
end Go.Ev
