/-
Texts of this claim, one behind the other.
-/
import Derived.Test.YtidlajmifppcnaaAf
set_option linter.unusedSimpArgs false
set_option linter.unusedVariables false
set_option maxRecDepth 100000
set_option maxRecDepth 100000
namespace Go.Ev
open Go.Ev renaming exPure -> Ja, ofValue -> Jb, cellsV -> Jc, load -> Jd, store -> Je, binOp -> Jf, intOp -> Jg, rdV -> Jh, vsame -> Ji, vsames -> Jj, makeSliceV -> Jk, resV -> Jl, isCell -> Jm, nilCheckV -> Jn, allV -> Jo, builtinV -> Jp, lenV -> Jq, indexAddrV -> Jr, unOp -> Js, minmaxV -> Jt, minmax -> Ju, sliceV -> Jv, asInt -> Jw, appendV -> Jx, copyV -> Jy, clearV -> Jz, convV -> J0, sliceCells -> J1, shift -> J2
open Bool renaming true -> BT, false -> BF
open Nat renaming reduceEqDiff -> J3, reduceLT -> J4, reduceAdd -> J5, reduceBEq -> J6, reduceSub -> J7, reduceMul -> J8, reduceLeDiff -> JG
open Int renaming reduceLT -> J9, reduceLE -> JA, reduceAdd -> JB, reduceSub -> JC, reduceNeg -> JD, reduceToNat -> JE, reduceEq -> JF
open Go.Proofs
theorem mayB_dl {x : In} (h : mayB x = true) : x.dl.length <= 5000 /\ x.pl.length <= 5000 := by
  unfold mayB nonB bodB at h
  simp only [Bool.and_eq_true] at h
  obtain ⟨_, h⟩ := h
  by_cases hs : x.st = 0
  · rw [decide_eq_true hs] at h
    simp only [cond_true,Bool.and_eq_true,decide_eq_true_eq] at h
    obtain ⟨⟨_, _, h1⟩, h2⟩ := h
    rw [h1, h2]; simp
  · rw [decide_eq_false hs] at h
    simp only [cond_false,Bool.and_eq_true,decide_eq_true_eq] at h
    obtain ⟨h1, _, h2⟩ := h
    refine ⟨?_, by omega⟩
    unfold mayP at h1
    omega
set_option maxHeartbeats 4000000 in
theorem get_at {h : Heap} {b m : Nat} {L : List In} (ht : TabAt h b m L) (k : RP) :
    ∃ (x : In) (l : List Blk), D X (.fn 34 []) [.ptr b 0 0, .agg [.int .i64 k.1, .int .i64 k.2]] h = some (.tup [.agg (inV x), .bool (isL L k)], h ++ l) /\ x.core = (getL L k).core /\ InAt (h ++ l) x := by
  obtain ⟨ex, es, c, hm, he⟩ := ht.map
  have hlk := fun e l => lookup_tab hm he k true e l
  have hg : InAt h (getL L k) /\ (getL L k).dl.length <= 5000 /\ (getL L k).pl.length <= 5000 := by
    unfold getL
    cases hx : L.find? (fun y => decide (k = y.key)) with
    | none => exact ⟨InAt.z0 h, by decide, by decide⟩
    | some y => exact ht.at_ y (List.mem_of_find?_eq_some hx)
  obtain ⟨x, bl, h1, h2, h3⟩ := own_in hg.1 hg.2.1 hg.2.2 h.length
  refine ⟨x, bl, ?_, h2, h3 _ (KeepC.app _ _) (Nat.le_refl _) fun j hj => by rw [List.getElem?_append_right (by omega), Nat.add_sub_cancel_left]⟩
  have hc := ht.cell
  have hown := own_at h1
  generalize isL L k = is at hlk ⊢
  generalize getL L k = y at hlk hown
  clear h1 h2 h3 hg he hm ht
  simp only [inV,outV,cond_true] at hown hlk ⊢
  refine Ok.eq ?_
  (refine Ok.body body34 pin34 ?_; simp only [c34,Try.f34,Option.getD_some,nslot34,List.append_nil,List.map,List.replicate,List.length_cons,List.length_nil,Nat.reduceAdd,Nat.reduceSub,List.cons_append,List.nil_append])
  (repeat' (first | (simp -implicitDefEqProofs (maxSteps := 1000000) (disch := first | assumption | omega | (simp only [ZDI]; omega)) only [*,exOp_lookup,G34,Za,Zb,Zc,Zd,Ze,Zf,Zg,Zh,Zi,Zj,Zk,Zl,Zm,Zn,Zo,Ja,Jb,Jc,J3,Jd,Je,J4,J5,Jf,Jg,Jh,Ji,Jj,Jk,J6,Jl,Jm,wr,Jn,J7,J8,Jo,Jp,Jq,Jr,Js,Jt,Ju,Jv,Jw,Jx,Jy,Jz,J0,J1,J2,reduceCtorEq,J9,JA,JB,JC,JD,JE,JF,JG]) | ((with_reducible (first | apply Ok.br | apply Ok.gd | apply Ok.ld)) <;> (intro g; (try simp only [ZGS] at g); try (exfalso; omega)))))
theorem get_nil (k : RP) (h : Heap) : D X (.fn 34 []) [.nilp, .agg [.int .i64 k.1, .int .i64 k.2]] h = some (.tup [.agg (inV z0), .bool false], h) := by
  refine Ok.eq ?_
  simp only [inV,z0]
  (refine Ok.body body34 pin34 ?_; simp only [c34,Try.f34,Option.getD_some,nslot34,List.append_nil,List.map,List.replicate,List.length_cons,List.length_nil,Nat.reduceAdd,Nat.reduceSub,List.cons_append,List.nil_append])
  (repeat' (first | (simp -implicitDefEqProofs (maxSteps := 1000000) (disch := first | assumption | omega | (simp only [ZDI]; omega)) only [*,G34,Za,Zb,Zc,Zd,Ze,Zf,Zg,Zh,Zi,Zj,Zk,Zl,Zm,Zn,Zo,Ja,Jb,Jc,J3,Jd,Je,J4,J5,Jf,Jg,Jh,Ji,Jj,Jk,J6,Jl,Jm,wr,Jn,J7,J8,Jo,Jp,Jq,Jr,Js,Jt,Ju,Jv,Jw,Jx,Jy,Jz,J0,J1,J2,reduceCtorEq,J9,JA,JB,JC,JD,JE,JF,JG]) | ((with_reducible (first | apply Ok.br | apply Ok.gd | apply Ok.ld)) <;> (intro g; (try simp only [ZGS] at g); try (exfalso; omega)))))
theorem len_at {h : Heap} {b m : Nat} {L : List In} (ht : TabAt h b m L) : D X (.fn 30 []) [.ptr b 0 0] h = some (.int .i64 L.length, h) := by
  obtain ⟨ex, es, c, hm, he⟩ := ht.map
  have hc := ht.cell
  rw [<- TabAt.len he]
  clear ht he
  refine Ok.eq ?_
  (refine Ok.body body30 pin30 ?_; simp only [c30,Try.f30,Option.getD_some,nslot30,List.append_nil,List.map,List.replicate,List.length_cons,List.length_nil,Nat.reduceAdd,Nat.reduceSub,List.cons_append,List.nil_append])
  (repeat' (first | (simp -implicitDefEqProofs (maxSteps := 1000000) (disch := first | assumption | omega | (simp only [ZDI]; omega)) only [*,lenV,G30,Za,Zb,Zc,Zd,Ze,Zf,Zg,Zh,Zi,Zj,Zk,Zl,Zm,Zn,Zo,Ja,Jb,Jc,J3,Jd,Je,J4,J5,Jf,Jg,Jh,Ji,Jj,Jk,J6,Jl,Jm,wr,Jn,J7,J8,Jo,Jp,Jq,Jr,Js,Jt,Ju,Jv,Jw,Jx,Jy,Jz,J0,J1,J2,reduceCtorEq,J9,JA,JB,JC,JD,JE,JF,JG]) | ((with_reducible (first | apply Ok.br | apply Ok.gd | apply Ok.ld)) <;> (intro g; (try simp only [ZGS] at g); try (exfalso; omega)))))
theorem len_nil (h : Heap) : D X (.fn 30 []) [.nilp] h = some (.int .i64 0, h) := by
  refine Ok.eq ?_
  (refine Ok.body body30 pin30 ?_; simp only [c30,Try.f30,Option.getD_some,nslot30,List.append_nil,List.map,List.replicate,List.length_cons,List.length_nil,Nat.reduceAdd,Nat.reduceSub,List.cons_append,List.nil_append])
  (repeat' (first | (simp -implicitDefEqProofs (maxSteps := 1000000) (disch := first | assumption | omega | (simp only [ZDI]; omega)) only [*,lenV,G30,Za,Zb,Zc,Zd,Ze,Zf,Zg,Zh,Zi,Zj,Zk,Zl,Zm,Zn,Zo,Ja,Jb,Jc,J3,Jd,Je,J4,J5,Jf,Jg,Jh,Ji,Jj,Jk,J6,Jl,Jm,wr,Jn,J7,J8,Jo,Jp,Jq,Jr,Js,Jt,Ju,Jv,Jw,Jx,Jy,Jz,J0,J1,J2,reduceCtorEq,J9,JA,JB,JC,JD,JE,JF,JG]) | ((with_reducible (first | apply Ok.br | apply Ok.gd | apply Ok.ld)) <;> (intro g; (try simp only [ZGS] at g); try (exfalso; omega)))))
theorem put_nil {h : Heap} (x : In) : D X (.fn 24 []) [.nilp, .agg (inV x)] h = some (.int .i64 8, h) := by
  refine Ok.eq ?_
  simp only [inV]
  (refine Ok.body body24 pin24 ?_; simp only [c24,Try.f24,Option.getD_some,nslot24,List.append_nil,List.map,List.replicate,List.length_cons,List.length_nil,Nat.reduceAdd,Nat.reduceSub,List.cons_append,List.nil_append])
  (repeat' (first | (simp -implicitDefEqProofs (maxSteps := 1000000) (disch := first | assumption | omega | (simp only [ZDI]; omega)) only [*,G24,Za,Zb,Zc,Zd,Ze,Zf,Zg,Zh,Zi,Zj,Zk,Zl,Zm,Zn,Zo,Ja,Jb,Jc,J3,Jd,Je,J4,J5,Jf,Jg,Jh,Ji,Jj,Jk,J6,Jl,Jm,wr,Jn,J7,J8,Jo,Jp,Jq,Jr,Js,Jt,Ju,Jv,Jw,Jx,Jy,Jz,J0,J1,J2,reduceCtorEq,J9,JA,JB,JC,JD,JE,JF,JG]) | ((with_reducible (first | apply Ok.br | apply Ok.gd | apply Ok.ld)) <;> (intro g; (try simp only [ZGS] at g); try (exfalso; omega)))))
def putE (L : List In) (x : In) : Int := if mayB x then (if x.key ∈ L.map In.key \/ L.length < 4096 then 0 else 2) else 1
theorem isL_iff {L : List In} {k : RP} : isL L k = decide (k ∈ L.map In.key) := by
  unfold isL
  by_cases hk : k ∈ L.map In.key
  · rw [decide_eq_true hk]
    obtain ⟨y, hy, he⟩ := List.mem_map.1 hk
    rw [List.find?_isSome]
    exact ⟨y, hy, by simp [he]⟩
  · rw [decide_eq_false hk]
    cases hx : L.find? (fun y => decide (k = y.key)) with
    | none => rfl
    | some y =>
      exfalso
      refine hk (List.mem_map.2 ⟨y, List.mem_of_find?_eq_some hx, ?_⟩)
      have := List.find?_some hx
      simp at this
      exact this.symm
theorem putL_keys (L : List In) (x : In) : (putL L x).map In.key = if x.key ∈ L.map In.key then L.map In.key else L.map In.key ++ [x.key] := by
  unfold putL
  split
  · rw [List.map_map]
    refine List.map_congr_left fun y _ => ?_
    show In.key (if y.key = x.key then x else y) = y.key
    split
    · rename_i h; exact h.symm
    · rfl
  · rw [List.map_append]; rfl
theorem putL_nodup {L : List In} {x : In} (h : (L.map In.key).Nodup) : ((putL L x).map In.key).Nodup := by
  rw [putL_keys]
  split
  · exact h
  · rename_i hn
    exact List.nodup_append.2 ⟨h, by simp, fun a ha b hb => by rw [List.mem_singleton.1 hb]; rintro rfl; exact hn ha⟩
theorem putL_mem {L : List In} {x y : In} (h : y ∈ putL L x) : y = x \/ y ∈ L := by
  unfold putL at h
  split at h
  · obtain ⟨z, hz, he⟩ := List.mem_map.1 h
    split at he
    · exact .inl he.symm
    · exact .inr (he ▸ hz)
  · rcases List.mem_append.1 h with h | h
    · exact .inr h
    · exact .inl (List.mem_singleton.1 h)
set_option maxHeartbeats 8000000 in
theorem put_at {h : Heap} {b m : Nat} {L : List In} (ht : TabAt h b m L) {x : In} (hx : InAt h x) :
    ∃ (h' : Heap) (x' : In), D X (.fn 24 []) [.ptr b 0 0, .agg (inV x)] h = some (.int .i64 (putE L x), h') /\ x'.core = x.core /\ TabAt h' b m (if putE L x = 0 then putL L x' else L) /\ KeepC h h' /\ Keeps [m] h h' := by
  obtain ⟨ex, es, c, hm, he⟩ := ht.map
  have hml := (List.getElem?_eq_some_iff.1 hm).1
  have hmay := mayI_at hx
  cases hmb : mayB x with
  | false =>
    rw [hmb] at hmay
    have hpe : putE L x = 1 := by unfold putE; rw [hmb]; rfl
    rw [hpe]
    refine ⟨h, x, ?_, rfl, by rw [if_neg (by decide)]; exact ht, KeepC.refl h, Keeps.refl _ h⟩
    obtain ⟨a, cap, z, e1⟩ := hx.1.sl
    obtain ⟨a3, cap3, z3, e3⟩ := hx.2.sl
    simp only [inV,e1,e3] at hmay ⊢
    clear e1 e3 hx
    refine Ok.eq ?_
    (refine Ok.body body24 pin24 ?_; simp only [c24,Try.f24,Option.getD_some,nslot24,List.append_nil,List.map,List.replicate,List.length_cons,List.length_nil,Nat.reduceAdd,Nat.reduceSub,List.cons_append,List.nil_append])
    (repeat' (first | (simp -implicitDefEqProofs (maxSteps := 1000000) (disch := first | assumption | omega | (simp only [ZDI]; omega)) only [*,G24,Za,Zb,Zc,Zd,Ze,Zf,Zg,Zh,Zi,Zj,Zk,Zl,Zm,Zn,Zo,Ja,Jb,Jc,J3,Jd,Je,J4,J5,Jf,Jg,Jh,Ji,Jj,Jk,J6,Jl,Jm,wr,Jn,J7,J8,Jo,Jp,Jq,Jr,Js,Jt,Ju,Jv,Jw,Jx,Jy,Jz,J0,J1,J2,reduceCtorEq,J9,JA,JB,JC,JD,JE,JF,JG]) | ((with_reducible (first | apply Ok.br | apply Ok.gd | apply Ok.ld)) <;> (intro g; (try simp only [ZGS] at g); try (exfalso; omega)))))
  | true =>
    rw [hmb] at hmay
    obtain ⟨hd1, hd2⟩ := mayB_dl hmb
    have hlk := fun e l => lookup_tab hm he x.key true e l
    rw [isL_iff] at hlk
    generalize hd : decide (x.key ∈ L.map In.key) = is at hlk
    by_cases hfree : x.key ∈ L.map In.key \/ L.length < 4096
    · have hpe : putE L x = 0 := by unfold putE; rw [hmb, if_pos rfl, if_pos hfree]
      rw [hpe]
      obtain ⟨x', bl, h1, h2, h3⟩ := own_in hx hd1 hd2 h.length
      have hown := own_at h1
      have hkx : x'.key = x.key := by have := congrArg In.key h2; exact this
      have hko := keyOk_ref x.key (TabAt.keysM (h := h) he)
      have hkc : KeepC h ((h ++ bl).set m (.map ex (putM (elt x.key) (.agg (inV x')) es c).1 (putM (elt x.key) (.agg (inV x')) es c).2)) :=
        (KeepC.app h bl).trans (.setMap (by rw [List.getElem?_append_left hml]; exact hm))
      refine ⟨(h ++ bl).set m (.map ex (putM (elt x.key) (.agg (inV x')) es c).1 (putM (elt x.key) (.agg (inV x')) es c).2), x', ?_, h2, ?_, hkc, (Keeps.app [m] h bl).set (.inl (by simp)) _⟩
      · have hc := ht.cell
        have hlen := TabAt.len (L := L) he
        have hmm : ∀ y, (h ++ y)[m]? = some (.map ex es c) := fun y => by rw [List.getElem?_append_left hml]; exact hm
        have hbl := hcells_lt hc
        obtain ⟨a, cap, z, e1⟩ := hx.1.sl
        obtain ⟨a3, cap3, z3, e3⟩ := hx.2.sl
        obtain ⟨pm, hpm⟩ : ∃ pm, putM (elt x.key) (.agg (inV x')) es c = pm := ⟨_, rfl⟩
        rw [hpm]
        unfold elt at hpm hko
        simp only [inV,e1,e3,In.key,outV,cond_true] at hmay hown hlk hpm hko ⊢
        clear e1 e3 hx h1 h2 h3 hd1 hd2 hkc he ht
        generalize getL L (x.l, x.i) = y at hlk
        refine Ok.eq ?_
        by_cases hk : x.key ∈ L.map In.key
        · rw [decide_eq_true hk] at hd
          subst hd
          clear hk hfree
          (refine Ok.body body24 pin24 ?_; simp only [c24,Try.f24,Option.getD_some,nslot24,List.append_nil,List.map,List.replicate,List.length_cons,List.length_nil,Nat.reduceAdd,Nat.reduceSub,List.cons_append,List.nil_append])
          (repeat' (first | (simp -implicitDefEqProofs (maxSteps := 1000000) (disch := first | assumption | omega | (simp only [ZDI]; omega)) only [*,exOp_lookup,exOp_mapUpdate,updateV,G24,Za,Zb,Zc,Zd,Ze,Zf,Zg,Zh,Zi,Zj,Zk,Zl,Zm,Zn,Zo,Ja,Jb,Jc,J3,Jd,Je,J4,J5,Jf,Jg,Jh,Ji,Jj,Jk,J6,Jl,Jm,wr,Jn,J7,J8,Jo,Jp,Jq,Jr,Js,Jt,Ju,Jv,Jw,Jx,Jy,Jz,J0,J1,J2,reduceCtorEq,J9,JA,JB,JC,JD,JE,JF,JG]) | ((with_reducible (first | apply Ok.br | apply Ok.gd | apply Ok.ld)) <;> (intro g; (try simp only [ZGS] at g); try (exfalso; omega)))))
        · rw [decide_eq_false hk] at hd
          subst hd
          have hlt : ¬ (4096 : Int) <= (es.length : Int) := by
            rcases hfree with h | h
            · exact absurd h hk
            · omega
          clear hk hfree
          (refine Ok.body body24 pin24 ?_; simp only [c24,Try.f24,Option.getD_some,nslot24,List.append_nil,List.map,List.replicate,List.length_cons,List.length_nil,Nat.reduceAdd,Nat.reduceSub,List.cons_append,List.nil_append])
          (repeat' (first | (simp -implicitDefEqProofs (maxSteps := 1000000) (disch := first | assumption | omega | (simp only [ZDI]; omega)) only [*,exOp_lookup,exOp_mapUpdate,updateV,lenV,G24,Za,Zb,Zc,Zd,Ze,Zf,Zg,Zh,Zi,Zj,Zk,Zl,Zm,Zn,Zo,Ja,Jb,Jc,J3,Jd,Je,J4,J5,Jf,Jg,Jh,Ji,Jj,Jk,J6,Jl,Jm,wr,Jn,J7,J8,Jo,Jp,Jq,Jr,Js,Jt,Ju,Jv,Jw,Jx,Jy,Jz,J0,J1,J2,reduceCtorEq,J9,JA,JB,JC,JD,JE,JF,JG]) | ((with_reducible (first | apply Ok.br | apply Ok.gd | apply Ok.ld)) <;> (intro g; (try simp only [ZGS] at g); try (exfalso; omega)))))
      · rw [if_pos rfl]
        have hm2 : (((h ++ bl).set m (.map ex (putM (elt x.key) (.agg (inV x')) es c).1 (putM (elt x.key) (.agg (inV x')) es c).2)))[m]? = some (.map ex (putM (elt x.key) (.agg (inV x')) es c).1 (putM (elt x.key) (.agg (inV x')) es c).2) :=
          List.getElem?_set_self (by simp; omega)
        refine ⟨hkc.2 _ _ _ ht.cell, ⟨_, _, _, hm2, ?_⟩, fun y hy => ?_, putL_nodup ht.keys⟩
        · rw [<- hkx]; exact putM_tab he
        · rcases putL_mem hy with rfl | hy
          · have hl1 : y.dl = x.dl := by have := congrArg In.dl h2; exact this
            have hl2 : y.pl = x.pl := by have := congrArg In.pl h2; exact this
            refine ⟨?_, by rw [hl1]; exact hd1, by rw [hl2]; exact hd2⟩
            exact (h3 (h ++ bl) (KeepC.app _ _) (Nat.le_refl _) fun j hj => by rw [List.getElem?_append_right (by omega), Nat.add_sub_cancel_left]).keep (.setMap (by rw [List.getElem?_append_left hml]; exact hm))
          · exact ⟨(ht.at_ y hy).1.keep hkc, (ht.at_ y hy).2⟩
    · have hpe : putE L x = 2 := by unfold putE; rw [hmb, if_pos rfl, if_neg hfree]
      rw [hpe]
      refine ⟨h, x, ?_, rfl, by rw [if_neg (by decide)]; exact ht, KeepC.refl h, Keeps.refl _ h⟩
      have hk : x.key ∉ L.map In.key := fun h => hfree (.inl h)
      rw [decide_eq_false hk] at hd
      subst hd
      have hc := ht.cell
      have hlen := TabAt.len (L := L) he
      have hge : (4096 : Int) <= (es.length : Int) := by
        have : ¬ L.length < 4096 := fun h => hfree (.inr h)
        omega
      obtain ⟨a, cap, z, e1⟩ := hx.1.sl
      obtain ⟨a3, cap3, z3, e3⟩ := hx.2.sl
      simp only [inV,e1,e3,In.key,outV,cond_true] at hmay hlk ⊢
      clear e1 e3 hx hfree he ht hk
      generalize getL L (x.l, x.i) = y at hlk
      refine Ok.eq ?_
      (refine Ok.body body24 pin24 ?_; simp only [c24,Try.f24,Option.getD_some,nslot24,List.append_nil,List.map,List.replicate,List.length_cons,List.length_nil,Nat.reduceAdd,Nat.reduceSub,List.cons_append,List.nil_append])
      (repeat' (first | (simp -implicitDefEqProofs (maxSteps := 1000000) (disch := first | assumption | omega | (simp only [ZDI]; omega)) only [*,exOp_lookup,lenV,G24,Za,Zb,Zc,Zd,Ze,Zf,Zg,Zh,Zi,Zj,Zk,Zl,Zm,Zn,Zo,Ja,Jb,Jc,J3,Jd,Je,J4,J5,Jf,Jg,Jh,Ji,Jj,Jk,J6,Jl,Jm,wr,Jn,J7,J8,Jo,Jp,Jq,Jr,Js,Jt,Ju,Jv,Jw,Jx,Jy,Jz,J0,J1,J2,reduceCtorEq,J9,JA,JB,JC,JD,JE,JF,JG]) | ((with_reducible (first | apply Ok.br | apply Ok.gd | apply Ok.ld)) <;> (intro g; (try simp only [ZGS] at g); try (exfalso; omega)))))
end Go.Ev
set_option maxRecDepth 100000
namespace Go.Ev
open Go.Ev renaming exPure -> Ja, ofValue -> Jb, cellsV -> Jc, load -> Jd, store -> Je, binOp -> Jf, intOp -> Jg, rdV -> Jh, vsame -> Ji, vsames -> Jj, makeSliceV -> Jk, resV -> Jl, isCell -> Jm, nilCheckV -> Jn, allV -> Jo, builtinV -> Jp, lenV -> Jq, indexAddrV -> Jr, unOp -> Js, minmaxV -> Jt, minmax -> Ju, sliceV -> Jv, asInt -> Jw, appendV -> Jx, copyV -> Jy, clearV -> Jz, convV -> J0, sliceCells -> J1, shift -> J2
open Bool renaming true -> BT, false -> BF
open Nat renaming reduceEqDiff -> J3, reduceLT -> J4, reduceAdd -> J5, reduceBEq -> J6, reduceSub -> J7, reduceMul -> J8, reduceLeDiff -> JG
open Int renaming reduceLT -> J9, reduceLE -> JA, reduceAdd -> JB, reduceSub -> JC, reduceNeg -> JD, reduceToNat -> JE, reduceEq -> JF
open Go.Proofs
theorem getL_mem {L : List In} {k : RP} (h : k ∈ L.map In.key) : getL L k ∈ L /\ (getL L k).key = k := by
  unfold getL
  obtain ⟨y, hy, he⟩ := List.mem_map.1 h
  cases hx : L.find? (fun y => decide (k = y.key)) with
  | none =>
    have := List.find?_eq_none.1 hx y hy
    simp [he] at this
  | some z =>
    refine ⟨List.mem_of_find?_eq_some hx, ?_⟩
    have := List.find?_some hx
    simp at this
    exact this.symm
structure SeqOf (H1 : Heap) (L S : List In) : Prop where
  keys : S.map In.key = addsR [] (L.map In.key)
  at_ : ∀ x ∈ S, InAt H1 x
  core : ∀ x ∈ S, ∃ y ∈ L, y.core = x.core
  len : S.length = L.length
set_option maxHeartbeats 8000000 in
theorem each_at {pb b m lp : Nat} {H0 : Heap} {L : List In} (hpb : hcells H0 pb 0 = some (true, [.ptr b 0 0])) (ht : TabAt H0 b m L) (hl : L.length <= 5000) (Inv : Heap -> List In -> Nat -> Heap -> Prop)
    (h0 : ∀ l S, SeqOf (H0 ++ l) L S -> Inv (H0 ++ l) S 0 (H0 ++ l))
    (hI : ∀ H1 S k H, Inv H1 S k H -> KeepC H1 H /\ ∀ i, H0.length <= i -> i < H1.length -> H[i]? = H1[i]?)
    (hy : ∀ l S k x H, SeqOf (H0 ++ l) L S -> S[k]? = some x -> Inv (H0 ++ l) S k H -> InAt H x -> Ev.Ok (D X (.yld lp) [.agg (inV x)] H) fun r => ∃ H', r = (.bool true, H') /\ Inv (H0 ++ l) S (k + 1) H') :
    Ev.Ok (D X (.fn 59 [.ptr pb 0 0]) [.yld lp] H0) fun r => ∃ l S H', r = (.tup [], H') /\ SeqOf (H0 ++ l) L S /\ Inv (H0 ++ l) S S.length H' := by
  refine Ok.aim fun Q hQ => ?_
  obtain ⟨l1, L', hclone, ht', hcore⟩ := clone_at ht
  have hkk : L'.map In.key = L.map In.key := by
    have := congrArg (List.map In.key) hcore
    rw [List.map_map, List.map_map] at this
    exact this
  have hlen' : L'.length = L.length := by have := congrArg List.length hcore; simpa using this
  obtain ⟨v, l2, hrefs, hrow⟩ := refs_at ht' (by omega)
  rw [hkk] at hrow
  have hl0 : H0.length <= (H0 ++ l1).length := by simp
  obtain ⟨lc, hlc⟩ : ∃ lc, H0.length = lc := ⟨_, rfl⟩
  obtain ⟨ex, es, c, hm0, _⟩ := ht'.map
  have hm1 := (List.getElem?_eq_some_iff.1 hm0).1
  have ht1 : TabAt (H0 ++ l1 ++ l2) (H0.length + 1) H0.length L' := ht'.keep (KeepC.app _ _) (by rw [List.getElem?_append_left hm1])
  obtain ⟨S, hS⟩ : ∃ S, S = (addsR [] (L.map In.key)).map (getL L') := ⟨_, rfl⟩
  have hmem : ∀ k ∈ addsR [] (L.map In.key), k ∈ L'.map In.key := fun k hk => by rw [hkk]; rw [addsR_mem] at hk; simpa using hk
  have hseq : SeqOf (H0 ++ l1 ++ l2) L S := by
    refine ⟨?_, fun x hx => ?_, fun x hx => ?_, ?_⟩
    · rw [hS, List.map_map]
      conv => rhs; rw [<- List.map_id (addsR [] (L.map In.key))]
      exact List.map_congr_left fun k hk => (getL_mem (hmem k hk)).2
    · rw [hS] at hx
      obtain ⟨k, hk, rfl⟩ := List.mem_map.1 hx
      exact (ht1.at_ _ (getL_mem (hmem k hk)).1).1
    · rw [hS] at hx
      obtain ⟨k, hk, rfl⟩ := List.mem_map.1 hx
      have h1 : (getL L' k).core ∈ L'.map In.core := List.mem_map.2 ⟨_, (getL_mem (hmem k hk)).1, rfl⟩
      rw [hcore] at h1
      obtain ⟨y, hy, he⟩ := List.mem_map.1 h1
      exact ⟨y, hy, he⟩
    · rw [hS, List.length_map, addsR_nodup_len ht.keys, List.length_map]
  have hSg : ∀ i k, (addsR [] (L.map In.key))[i]? = some k -> S[i]? = some (getL L' k) := fun i k hk => by rw [hS, List.getElem?_map, hk]; rfl
  rw [List.append_assoc] at hseq ht1 hrefs hrow
  have hSl : S.length = (addsR [] (L.map In.key)).length := by rw [hS]; simp
  have hInv0 := h0 _ S hseq
  have hy1 := fun k x H => hy (l1 ++ l2) S k x H hseq
  have hfin : ∀ H', Inv (H0 ++ (l1 ++ l2)) S S.length H' -> Q (.tup [], H') := fun H' h => hQ _ ⟨_, S, H', rfl, hseq, h⟩
  have hI1 := fun k H => hI (H0 ++ (l1 ++ l2)) S k H
  have hfin' := Hid.mk hfin
  have hy' := Hid.mk hy1
  have hI' := Hid.mk hI1
  have hInv0' := Hid.mk hInv0
  have ht1' := Hid.mk ht1
  have hSg' := Hid.mk hSg
  clear hfin hy hy1 hI hI1 h0 hInv0 ht1 hSg hseq hS hmem hQ ht' hcore hkk hlen' ht hm0 hm1
  obtain ⟨a, cap, z, rfl, h1, h1', h2⟩ := hrow
  generalize addsR [] (L.map In.key) = r at hSl hSg' hrefs h1 h1' h2 ⊢
  generalize hH1 : H0 ++ (l1 ++ l2) = H1 at *
  have hH1l : H0.length <= H1.length := by rw [<- hH1]; simp
  simp only [hlc] at *
  have hSl' := Hid.mk hSl
  clear hSl
  have hmH : lc < H1.length := by
    obtain ⟨_, _, _, hmm, _⟩ := ht1'.out.map
    exact (List.getElem?_eq_some_iff.1 hmm).1
  clear hH1
  (refine Ok.body body59 pin59 ?_; simp only [c59,Try.f59,Option.getD_some,nslot59,List.append_nil,List.map,List.replicate,List.length_cons,List.length_nil,Nat.reduceAdd,Nat.reduceSub,List.cons_append,List.nil_append])
  (repeat' (first | (simp -implicitDefEqProofs (maxSteps := 1000000) (disch := first | assumption | omega | (simp only [ZDI]; omega)) only [*,lenV,G59,Za,Zb,Zc,Zd,Ze,Zf,Zg,Zh,Zi,Zj,Zk,Zl,Zm,Zn,Zo,Ja,Jb,Jc,J3,Jd,Je,J4,J5,Jf,Jg,Jh,Ji,Jj,Jk,J6,Jl,Jm,wr,Jn,J7,J8,Jo,Jp,Jq,Jr,Js,Jt,Ju,Jv,Jw,Jx,Jy,Jz,J0,J1,J2,reduceCtorEq,J9,JA,JB,JC,JD,JE,JF,JG]) | ((with_reducible (first | apply Ok.br | apply Ok.gd | apply Ok.ld)) <;> (intro g; (try simp only [ZGS] at g); try (exfalso; omega)))))
  clear hclone hrefs hpb
  refine Ok.loop [BF, BF, BF, BF, BF, BT, BF, BF, BF, BF, BF, BT, BT, BT, BT, BT, BT, BT, BT, BT, BT, BT, BT, BT, BT] (fun n s2 => ∃ (i w1 : Nat) (q1 : List V), n = r.length - i /\ i <= r.length /\ tv s2.e 11 = .v (.int .i64 i) /\ s2.l = [(w1, q1)] /\ Inv H1 S i s2.h)
    (fun y s2 => y = .exit 0 /\ (∃ (w1 : Nat) (q1 : List V), s2.l = [(w1, q1)]) /\ Inv H1 S S.length s2.h) (r.length - 0) ⟨0, 0, [], rfl, Nat.zero_le _, rfl, rfl, hInv0'.out⟩ ?_ ?_
  · intro n ⟨e', l', g⟩ hW ⟨i, w1, q1, hm, hi, h9, k2, hinv⟩
    dsimp only at hW h9 k2 hinv
    subst l'
    rw [hW.spread]
    simp only [spread_t,spread_f,spread_n,Nat.zero_add,Nat.reduceAdd,h9]
    clear hW hfin' hInv0'
    obtain ⟨hkc, hkn⟩ := hI'.out _ _ hinv
    by_cases hlt : i < r.length
    · have hlt' : (i : Int) < (r.length : Int) := by omega
      have g1 : 0 <= (i : Int) /\ (i : Int) < (r.length : Int) := by omega
      rcases h2 with rfl | ⟨bb, q, o, rw, full, rfl, hbc, hfull, ho⟩
      · simp at hlt
      · obtain ⟨⟨y1, y2⟩, hyk⟩ : ∃ y, r[i]? = some y := ⟨_, List.getElem?_eq_getElem hlt⟩
        have hf := hfull i _ hyk
        dsimp only at hf
        have ho2 : o + i * 2 + 2 <= full.length := by omega
        have hbg := hkc.2 _ _ _ hbc
        have htg : TabAt g (lc + 1) lc L' := ht1'.out.keep hkc (hkn lc (Nat.le_refl _) hmH)
        obtain ⟨ex, es, c, hmg, heg⟩ := htg.map
        have hlk := fun e l => lookup_tab hmg heg (y1, y2) false e l
        have hcg := htg.cell
        have hsx := hSg'.out i _ hyk
        have hxat : InAt g (getL L' (y1, y2)) := by
          unfold getL
          cases hx : L'.find? (fun y => decide ((y1, y2) = y.key)) with
          | none => exact InAt.z0 g
          | some y => exact (htg.at_ y (List.mem_of_find?_eq_some hx)).1
        obtain ⟨⟨vv, g2⟩, hyld, H2, he2, hinv2⟩ := hy'.out i _ g hsx hinv hxat
        cases he2
        have hinv3 := Hid.mk hinv2
        have hcg2 := (hI'.out _ _ hinv2).1
        have htg2 : TabAt g2 (lc + 1) lc L' := ht1'.out.keep hcg2 ((hI'.out _ _ hinv2).2 lc (Nat.le_refl _) hmH)
        have hcg3 := htg2.cell
        generalize getL L' (y1, y2) = x at hlk hyld
        simp only [outV,cond_false,inV] at hlk hyld
        clear hfull ho hkc hkn htg heg hmg hsx hxat hinv hinv2 hcg2 htg2 hyk hbc
        (repeat' (first | (simp -implicitDefEqProofs (maxSteps := 1000000) (disch := first | assumption | omega | (simp only [ZDI]; omega)) only [*,lenV,exOp_lookup,G59,Za,Zb,Zc,Zd,Ze,Zf,Zg,Zh,Zi,Zj,Zk,Zl,Zm,Zn,Zo,Ja,Jb,Jc,J3,Jd,Je,J4,J5,Jf,Jg,Jh,Ji,Jj,Jk,J6,Jl,Jm,wr,Jn,J7,J8,Jo,Jp,Jq,Jr,Js,Jt,Ju,Jv,Jw,Jx,Jy,Jz,J0,J1,J2,reduceCtorEq,J9,JA,JB,JC,JD,JE,JF,JG]) | ((with_reducible (first | apply Ok.br | apply Ok.gd | apply Ok.ld)) <;> (intro g; (try simp only [ZGS] at g); try (exfalso; omega)))))
        exact Turn.next (r.length - (i + 1)) (by omega) ⟨rfl, i + 1, _, _, rfl, by omega, rfl, rfl, hinv3.out⟩
    · have hlt' : ¬ (i : Int) < (r.length : Int) := by omega
      have e : i = S.length := by have := hSl'.out; omega
      rw [e] at hinv
      have hinv3 := Hid.mk hinv
      clear hinv hkc hkn e
      (repeat' (first | (simp -implicitDefEqProofs (maxSteps := 1000000) (disch := first | assumption | omega | (simp only [ZDI]; omega)) only [*,lenV,G59,Za,Zb,Zc,Zd,Ze,Zf,Zg,Zh,Zi,Zj,Zk,Zl,Zm,Zn,Zo,Ja,Jb,Jc,J3,Jd,Je,J4,J5,Jf,Jg,Jh,Ji,Jj,Jk,J6,Jl,Jm,wr,Jn,J7,J8,Jo,Jp,Jq,Jr,Js,Jt,Ju,Jv,Jw,Jx,Jy,Jz,J0,J1,J2,reduceCtorEq,J9,JA,JB,JC,JD,JE,JF,JG]) | ((with_reducible (first | apply Ok.br | apply Ok.gd | apply Ok.ld)) <;> (intro g; (try simp only [ZGS] at g); try (exfalso; omega)))))
      exact Turn.exit ⟨rfl, rfl, ⟨_, _, rfl⟩, hinv3.out⟩
  · intro y ⟨e', l', g⟩ hW ⟨hyy, ⟨w1, q1, k2⟩, hinv⟩
    dsimp only at hW k2 hinv
    subst l' hyy
    rw [hW.spread]
    clear hW
    simp only [spread_t,spread_f,spread_n,Nat.zero_add,Nat.reduceAdd]
    have hinv3 := Hid.mk hinv
    clear hinv hInv0'
    (repeat' (first | (simp -implicitDefEqProofs (maxSteps := 1000000) (disch := first | assumption | omega | (simp only [ZDI]; omega)) only [*,G59,Za,Zb,Zc,Zd,Ze,Zf,Zg,Zh,Zi,Zj,Zk,Zl,Zm,Zn,Zo,Ja,Jb,Jc,J3,Jd,Je,J4,J5,Jf,Jg,Jh,Ji,Jj,Jk,J6,Jl,Jm,wr,Jn,J7,J8,Jo,Jp,Jq,Jr,Js,Jt,Ju,Jv,Jw,Jx,Jy,Jz,J0,J1,J2,reduceCtorEq,J9,JA,JB,JC,JD,JE,JF,JG]) | ((with_reducible (first | apply Ok.br | apply Ok.gd | apply Ok.ld)) <;> (intro g; (try simp only [ZGS] at g); try (exfalso; omega)))))
    exact hfin'.out _ hinv3.out
end Go.Ev
namespace Go.Ev
open Go.Ev renaming exPure -> Ja, ofValue -> Jb, cellsV -> Jc, load -> Jd, store -> Je, binOp -> Jf, intOp -> Jg, rdV -> Jh, vsame -> Ji, vsames -> Jj, makeSliceV -> Jk, resV -> Jl, isCell -> Jm, nilCheckV -> Jn, allV -> Jo, builtinV -> Jp, lenV -> Jq, indexAddrV -> Jr, unOp -> Js, minmaxV -> Jt, minmax -> Ju, sliceV -> Jv, asInt -> Jw, appendV -> Jx, copyV -> Jy, clearV -> Jz, convV -> J0, sliceCells -> J1, shift -> J2
open Bool renaming true -> BT, false -> BF
open Nat renaming reduceEqDiff -> J3, reduceLT -> J4, reduceAdd -> J5, reduceBEq -> J6, reduceSub -> J7, reduceMul -> J8, reduceLeDiff -> JG
open Int renaming reduceLT -> J9, reduceLE -> JA, reduceAdd -> JB, reduceSub -> JC, reduceNeg -> JD, reduceToNat -> JE, reduceEq -> JF
open Go.Proofs
end Go.Ev
namespace Go.Ev
open Go.Ev renaming exPure -> Ja, ofValue -> Jb, cellsV -> Jc, load -> Jd, store -> Je, binOp -> Jf, intOp -> Jg, rdV -> Jh, vsame -> Ji, vsames -> Jj, makeSliceV -> Jk, resV -> Jl, isCell -> Jm, nilCheckV -> Jn, allV -> Jo, builtinV -> Jp, lenV -> Jq, indexAddrV -> Jr, unOp -> Js, minmaxV -> Jt, minmax -> Ju, sliceV -> Jv, asInt -> Jw, appendV -> Jx, copyV -> Jy, clearV -> Jz, convV -> J0, sliceCells -> J1, shift -> J2
open Bool renaming true -> BT, false -> BF
open Nat renaming reduceEqDiff -> J3, reduceLT -> J4, reduceAdd -> J5, reduceBEq -> J6, reduceSub -> J7, reduceMul -> J8, reduceLeDiff -> JG
open Int renaming reduceLT -> J9, reduceLE -> JA, reduceAdd -> JB, reduceSub -> JC, reduceNeg -> JD, reduceToNat -> JE, reduceEq -> JF
open Go.Proofs
def meddleP (o c f t o' c' f' t' : Int) : Prop := ¬ (o = 0 \/ o' = 0) /\ ((o = 5 \/ o' = 5 \/ c = c') \/ ((f < t /\ f' < t' /\ f < t' /\ f' < t) /\ ¬ ((o = 1 \/ o = 4) /\ (o' = 1 \/ o' = 4))))
instance (o c f t o' c' f' t' : Int) : Decidable (meddleP o c f t o' c' f' t') := by unfold meddleP; infer_instance
end Go.Ev
set_option maxRecDepth 100000
namespace Go.Ev
open Go.Ev renaming exPure -> Ja, ofValue -> Jb, cellsV -> Jc, load -> Jd, store -> Je, binOp -> Jf, intOp -> Jg, rdV -> Jh, vsame -> Ji, vsames -> Jj, makeSliceV -> Jk, resV -> Jl, isCell -> Jm, nilCheckV -> Jn, allV -> Jo, builtinV -> Jp, lenV -> Jq, indexAddrV -> Jr, unOp -> Js, minmaxV -> Jt, minmax -> Ju, sliceV -> Jv, asInt -> Jw, appendV -> Jx, copyV -> Jy, clearV -> Jz, convV -> J0, sliceCells -> J1, shift -> J2
open Bool renaming true -> BT, false -> BF
open Nat renaming reduceEqDiff -> J3, reduceLT -> J4, reduceAdd -> J5, reduceBEq -> J6, reduceSub -> J7, reduceMul -> J8, reduceLeDiff -> JG
open Int renaming reduceLT -> J9, reduceLE -> JA, reduceAdd -> JB, reduceSub -> JC, reduceNeg -> JD, reduceToNat -> JE, reduceEq -> JF
open Go.Proofs
def flI : List In -> List V
  | [] => []
  | x :: l => .int .i64 x.l :: .int .i64 x.i :: .int .i64 x.bn :: .int .i64 x.bd :: .int .i64 x.vn :: .int .i64 x.vd :: .int .i64 x.st :: .bool x.sm :: .int .i64 x.o :: .int .i64 x.c :: .int .i64 x.q :: .int .i64 x.f :: .int .i64 x.t :: x.dv :: .int .i64 x.sq :: x.pv :: flI l
theorem flI_len : ∀ l : List In, (flI l).length = l.length * 16
  | [] => rfl
  | x :: l => by simp only [flI,List.length_cons,flI_len l]; omega
theorem flI_app : ∀ l m : List In, flI (l ++ m) = flI l ++ flI m
  | [], m => rfl
  | x :: l, m => by simp only [List.cons_append,flI,flI_app l m]
theorem flI_at : ∀ (l : List In) (i : Nat) (x : In), l[i]? = some x -> ((flI l).drop (i * 16)).take 16 = inV x
  | [], i, x, h => by simp at h
  | y :: l, 0, x, h => by simp at h; subst h; rfl
  | y :: l, i + 1, x, h => by
    have e : (i + 1) * 16 = i * 16 + 16 := by omega
    rw [e]
    show (((inV y ++ flI l)).drop (i * 16 + 16)).take 16 = _
    rw [Nat.add_comm, List.drop_append, show List.drop (16 + i * 16) (inV y) = [] from List.drop_eq_nil_of_le (by simp [inV]), List.nil_append, show 16 + i * 16 - (inV y).length = i * 16 by simp [inV]]
    exact flI_at l i x (by simpa using h)
theorem fl_snocI (l : List In) (x : In) : (flI l).take (l.length * 16) ++ [V.int .i64 x.l, .int .i64 x.i, .int .i64 x.bn, .int .i64 x.bd, .int .i64 x.vn, .int .i64 x.vd, .int .i64 x.st, .bool x.sm, .int .i64 x.o, .int .i64 x.c, .int .i64 x.q, .int .i64 x.f, .int .i64 x.t, x.dv, .int .i64 x.sq, x.pv] = flI (l ++ [x]) := by
  rw [flI_app, List.take_of_length_le (by rw [flI_len]; exact Nat.le_refl _)]; rfl
def InsAt (h : Heap) (v : V) (l : List In) : Prop :=
  ∃ a cap z, v = .sl a l.length cap z /\ l.length <= 9223372036854775807 /\ (∀ x ∈ l, InAt h x) /\ (l = [] \/ ∃ b g o rw full, a = .at b g o /\ hcells h b g = some (rw, full) /\ (∀ (i : Nat) (x : In), l[i]? = some x -> (full.drop (o + i * 16)).take 16 = inV x) /\ o + l.length * 16 <= full.length)
theorem InsAt.keep {h h' : Heap} {v : V} {l : List In} (hs : InsAt h v l) (k : KeepC h h') : InsAt h' v l := by
  obtain ⟨a, cap, z, h1, h2, h3, h4⟩ := hs
  refine ⟨a, cap, z, h1, h2, fun x hx => (h3 x hx).keep k, h4.imp id ?_⟩
  rintro ⟨b, g, o, rw, full, e1, e2, e3⟩
  exact ⟨b, g, o, rw, full, e1, k.2 _ _ _ e2, e3⟩
theorem InsAt.sl {h : Heap} {v : V} {l : List In} (hs : InsAt h v l) : ∃ a cap z, v = .sl a l.length cap z := let ⟨a, cap, z, e, _⟩ := hs; ⟨a, cap, z, e⟩
def GroI (h g : Heap) (w : V) (l : List In) : Prop :=
  (l = [] /\ w = .sl .nil 0 0 0) \/ ∃ b q, w = .sl (.at b q 0) l.length l.length 16 /\ h.length <= b /\ hcells g b q = some (true, flI l)
theorem GroI.row {h g : Heap} {w : V} {l : List In} (k : GroI h g w l) (hl : l.length <= 1000000) (ha : ∀ x ∈ l, InAt g x) : InsAt g w l := by
  rcases k with ⟨rfl, rfl⟩ | ⟨b, q, rfl, _, hc⟩
  · exact ⟨_, _, _, rfl, by decide, ha, .inl rfl⟩
  · refine ⟨_, _, _, rfl, by omega, ha, .inr ⟨b, q, 0, _, _, rfl, hc, fun i x hx => ?_, by rw [flI_len]; omega⟩⟩
    rw [Nat.zero_add]; exact flI_at l i x hx
def putR (x y : In) : In := if y.key = x.key then x else y
theorem putL_eq (l : List In) (x : In) : (if decide (x.key ∈ l.map In.key) then l.map (putR x) else l.map (putR x) ++ [x]) = putL l x := by
  unfold putL
  by_cases h : x.key ∈ l.map In.key
  · rw [if_pos h, decide_eq_true h, if_pos rfl]; rfl
  · rw [if_neg h, decide_eq_false h, if_neg (by simp)]
    congr 1
    conv => rhs; rw [<- List.map_id l]
    refine List.map_congr_left fun y hy => ?_
    unfold putR
    rw [if_neg fun e => h (List.mem_map.2 ⟨y, hy, e⟩)]; rfl
set_option maxHeartbeats 8000000 in
theorem rPut_at {h : Heap} {v : V} {l : List In} (hr : InsAt h v l) (hl : l.length <= 10000) {x : In} (hx : InAt h x) :
    Ev.Ok (D X (.fn 57 []) [v, .agg (inV x)] h) fun y => ∃ w l', y = (w, h ++ l') /\ InsAt (h ++ l') w (putL l x) := by
  refine Ok.aim fun Q hQ => ?_
  obtain ⟨a, cap, z, rfl, h1, hall, h2⟩ := hr
  have hfin : ∀ L put w g, l.map (putR x) = L -> decide (x.key ∈ l.map In.key) = put -> Ext h g -> GroI h g w (if put then L else L ++ [x]) -> Q (w, g) := by
    intro L put w g e1 e2 ⟨l', e3⟩ e4
    subst e3
    refine hQ _ ⟨w, l', rfl, ?_⟩
    rw [<- e1, <- e2, putL_eq] at e4
    refine e4.row ?_ fun y hy => ?_
    · have : (putL l x).length <= l.length + 1 := by unfold putL; split <;> simp
      omega
    · rcases putL_mem hy with rfl | hy
      · exact hx.keep (KeepC.app _ _)
      · exact (hall y hy).keep (KeepC.app _ _)
  have hfin' := Hid.mk hfin
  clear hfin hQ hall hx
  simp only [inV]
  (refine Ok.body body57 pin57 ?_; simp only [c57,Try.f57,Option.getD_some,nslot57,List.append_nil,List.map,List.replicate,List.length_cons,List.length_nil,Nat.reduceAdd,Nat.reduceSub,List.cons_append,List.nil_append])
  (repeat' (first | (simp -implicitDefEqProofs (maxSteps := 1000000) (disch := first | assumption | omega | (simp only [ZDI]; omega)) only [*,lenV,G57,Za,Zb,Zc,Zd,Ze,Zf,Zg,Zh,Zi,Zj,Zk,Zl,Zm,Zn,Zo,Ja,Jb,Jc,J3,Jd,Je,J4,J5,Jf,Jg,Jh,Ji,Jj,Jk,J6,Jl,Jm,wr,Jn,J7,J8,Jo,Jp,Jq,Jr,Js,Jt,Ju,Jv,Jw,Jx,Jy,Jz,J0,J1,J2,reduceCtorEq,J9,JA,JB,JC,JD,JE,JF,JG]) | ((with_reducible (first | apply Ok.br | apply Ok.gd | apply Ok.ld)) <;> (intro g; (try simp only [ZGS] at g); try (exfalso; omega)))))
  refine Ok.loop [BF, BF, BF, BF, BF, BT, BT, BF, BT, BF, BF, BT, BT, BT, BT, BT, BT, BT, BT, BT, BT, BT, BT, BT, BT, BT, BT, BT, BT, BF, BF, BF, BF, BF, BF, BF] (fun m s2 => ∃ (i k1 k2 k3 k4 : Nat) (c1 c2 c3 c4 : List V) (w : V) (L : List In) (put : Bool), m = l.length - i /\ i <= l.length /\ tv s2.e 11 = .v (.int .i64 i) /\ tv s2.e 5 = .v w /\ tv s2.e 6 = .v (.bool put) /\ s2.l = [(1, [.int .i64 x.l, .int .i64 x.i, .int .i64 x.bn, .int .i64 x.bd, .int .i64 x.vn, .int .i64 x.vd, .int .i64 x.st, .bool x.sm, .int .i64 x.o, .int .i64 x.c, .int .i64 x.q, .int .i64 x.f, .int .i64 x.t, x.dv, .int .i64 x.sq, x.pv]), (k1, c1), (k2, c2), (k3, c3), (k4, c4)] /\ Ext h s2.h /\ GroI h s2.h w L /\ (l.take i).map (putR x) = L /\ decide (x.key ∈ (l.take i).map In.key) = put)
    (fun y s2 => y = .exit 0 /\ ∃ (k1 k2 k3 k4 : Nat) (c1 c2 c3 c4 : List V) (w : V) (L : List In) (put : Bool), tv s2.e 5 = .v w /\ tv s2.e 6 = .v (.bool put) /\ s2.l = [(1, [.int .i64 x.l, .int .i64 x.i, .int .i64 x.bn, .int .i64 x.bd, .int .i64 x.vn, .int .i64 x.vd, .int .i64 x.st, .bool x.sm, .int .i64 x.o, .int .i64 x.c, .int .i64 x.q, .int .i64 x.f, .int .i64 x.t, x.dv, .int .i64 x.sq, x.pv]), (k1, c1), (k2, c2), (k3, c3), (k4, c4)] /\ Ext h s2.h /\ GroI h s2.h w L /\ l.map (putR x) = L /\ decide (x.key ∈ l.map In.key) = put) (l.length - 0) ⟨0, 0, 0, 0, 0, [], [], [], [], _, [], false, rfl, Nat.zero_le _, rfl, rfl, rfl, rfl, .refl _, .inl ⟨rfl, rfl⟩, rfl, by simp⟩ ?_ ?_
  · intro m ⟨e', l', g⟩ hW ⟨i, k1, k2, k3, k4, c1, c2, c3, c4, w, L, put, hm, hi, h9, h5, h6, hsl, hxt, hG, hma, hpu⟩
    dsimp only at hW h9 h5 h6 hsl hxt hG
    subst l'
    rw [hW.spread]
    simp only [spread_t,spread_f,spread_n,Nat.zero_add,Nat.reduceAdd,h9,h5,h6]
    clear hW hfin'
    by_cases hlt : i < l.length
    · have hlt' : (i : Int) < (l.length : Int) := by omega
      have g1 : 0 <= (i : Int) /\ (i : Int) < (l.length : Int) := by omega
      rcases h2 with rfl | ⟨b, q, o, rw, full, rfl, hb, hfull, ho⟩
      · simp at hlt
      · have hb2 := hxt.cells hb
        obtain ⟨y, hy⟩ : ∃ y, l[i]? = some y := ⟨_, List.getElem?_eq_getElem hlt⟩
        have hf := hfull i y hy
        simp only [inV] at hf
        have hgl := hxt.len
        have hLl : L.length <= 10000 := by rw [<- hma]; simp; omega
        have ha1 : (l.take (i + 1)).map (putR x) = L ++ [putR x y] := by rw [List.take_add_one, hy, List.map_append, hma]; rfl
        have ha2 : decide (x.key ∈ (l.take (i + 1)).map In.key) = (put || decide (y.key = x.key)) := by
          rw [List.take_add_one, hy, List.map_append, <- hpu]
          by_cases h2 : y.key = x.key
          · rw [decide_eq_true h2, Bool.or_true]
            exact decide_eq_true (by simp [h2])
          · rw [decide_eq_false h2, Bool.or_false]
            refine decide_eq_decide.2 ?_
            have h3 : ¬ x.key = y.key := fun e => h2 e.symm
            simp [h3]
        have hk : (y.key = x.key) ↔ (y.l = x.l /\ y.i = x.i) := by unfold In.key; simp
        have ha1' := Hid.mk ha1
        have ha2' := Hid.mk ha2
        have hxt' := Hid.mk hxt
        have ho2 : o + i * 16 + 16 <= full.length := by omega
        clear ha1 ha2 hy hfull hxt hma hpu hb ho
        have hb2l := hcells_lt hb2
        have hLb : (L.length + 2) * 160 <= 35184372088832 /\ L.length + 2 <= 35184372088832 := by omega
        have hLb1 : (L.length + 1) * 160 <= 35184372088832 /\ L.length + 1 <= 35184372088832 := by omega
        have hn1 : ¬ (L.length + 1 <= L.length) := by omega
        have hk' := Hid.mk hk
        clear hk
        cases hd1 : decide (y.l = x.l) with
        | true =>
          cases hd2 : decide (y.i = x.i) with
          | true =>
            have hp : putR x y = x := by unfold putR; rw [if_pos (hk'.out.2 ⟨of_decide_eq_true hd1, of_decide_eq_true hd2⟩)]
            have hq : decide (y.key = x.key) = true := decide_eq_true (hk'.out.2 ⟨of_decide_eq_true hd1, of_decide_eq_true hd2⟩)
            have hp' := Hid.mk hp
            have hq' := Hid.mk hq
            clear hp hq
            rcases hG with ⟨rfl, rfl⟩ | ⟨b3, q3, rfl, hbl, hcl⟩
            · (repeat' (first | (simp -implicitDefEqProofs (maxSteps := 1000000) (disch := first | assumption | omega | (simp only [ZDI]; omega)) only [*,lenV,flI_len,fl_snocI,List.drop_zero,Nat.zero_add,List.length_append,List.length_cons,List.length_nil,G57,Za,Zb,Zc,Zd,Ze,Zf,Zg,Zh,Zi,Zj,Zk,Zl,Zm,Zn,Zo,Ja,Jb,Jc,J3,Jd,Je,J4,J5,Jf,Jg,Jh,Ji,Jj,Jk,J6,Jl,Jm,wr,Jn,J7,J8,Jo,Jp,Jq,Jr,Js,Jt,Ju,Jv,Jw,Jx,Jy,Jz,J0,J1,J2,reduceCtorEq,J9,JA,JB,JC,JD,JE,JF,JG]) | ((with_reducible (first | apply Ok.br | apply Ok.gd | apply Ok.ld)) <;> (intro g; (try simp only [ZGS] at g); try (exfalso; omega)))))
              exact Turn.next (l.length - (i + 1)) (by omega) ⟨rfl, i + 1, _, _, _, _, _, _, _, _, _, [x], true, rfl, by omega, rfl, rfl, rfl, rfl, hxt'.out.app _, .inr ⟨_, _, rfl, hgl, hcells_new⟩, by rw [ha1'.out, hp'.out]; rfl, by rw [ha2'.out, hq'.out]; simp⟩
            · have hcl2 := hcells_lt hcl
              (repeat' (first | (simp -implicitDefEqProofs (maxSteps := 1000000) (disch := first | assumption | omega | (simp only [ZDI]; omega)) only [*,lenV,flI_len,fl_snocI,List.drop_zero,Nat.zero_add,List.length_append,List.length_cons,List.length_nil,G57,Za,Zb,Zc,Zd,Ze,Zf,Zg,Zh,Zi,Zj,Zk,Zl,Zm,Zn,Zo,Ja,Jb,Jc,J3,Jd,Je,J4,J5,Jf,Jg,Jh,Ji,Jj,Jk,J6,Jl,Jm,wr,Jn,J7,J8,Jo,Jp,Jq,Jr,Js,Jt,Ju,Jv,Jw,Jx,Jy,Jz,J0,J1,J2,reduceCtorEq,J9,JA,JB,JC,JD,JE,JF,JG]) | ((with_reducible (first | apply Ok.br | apply Ok.gd | apply Ok.ld)) <;> (intro g; (try simp only [ZGS] at g); try (exfalso; omega)))))
              exact Turn.next (l.length - (i + 1)) (by omega) ⟨rfl, i + 1, _, _, _, _, _, _, _, _, _, (L ++ [x]), true, rfl, by omega, rfl, rfl, rfl, rfl, hxt'.out.set hbl _, .inr ⟨b3, q3 + 1, by simp, hbl, by first | exact hcells_set_eq hcl2 | (rw [hcells_set_eq] <;> simp [hcl2])⟩, by rw [ha1'.out, hp'.out], by rw [ha2'.out, hq'.out]; simp⟩
          | false =>
            have hnk : ¬ y.key = x.key := fun e => of_decide_eq_false hd2 (hk'.out.1 e).2
            have hp : putR x y = y := by unfold putR; rw [if_neg hnk]
            have hq : decide (y.key = x.key) = false := decide_eq_false hnk
            have hp' := Hid.mk hp
            have hq' := Hid.mk hq
            clear hp hq hnk
            rcases hG with ⟨rfl, rfl⟩ | ⟨b3, q3, rfl, hbl, hcl⟩
            · (repeat' (first | (simp -implicitDefEqProofs (maxSteps := 1000000) (disch := first | assumption | omega | (simp only [ZDI]; omega)) only [*,lenV,flI_len,fl_snocI,List.drop_zero,Nat.zero_add,List.length_append,List.length_cons,List.length_nil,G57,Za,Zb,Zc,Zd,Ze,Zf,Zg,Zh,Zi,Zj,Zk,Zl,Zm,Zn,Zo,Ja,Jb,Jc,J3,Jd,Je,J4,J5,Jf,Jg,Jh,Ji,Jj,Jk,J6,Jl,Jm,wr,Jn,J7,J8,Jo,Jp,Jq,Jr,Js,Jt,Ju,Jv,Jw,Jx,Jy,Jz,J0,J1,J2,reduceCtorEq,J9,JA,JB,JC,JD,JE,JF,JG]) | ((with_reducible (first | apply Ok.br | apply Ok.gd | apply Ok.ld)) <;> (intro g; (try simp only [ZGS] at g); try (exfalso; omega)))))
              exact Turn.next (l.length - (i + 1)) (by omega) ⟨rfl, i + 1, _, _, _, _, _, _, _, _, _, [y], put, rfl, by omega, rfl, rfl, rfl, rfl, hxt'.out.app _, .inr ⟨_, _, rfl, hgl, hcells_new⟩, by rw [ha1'.out, hp'.out]; rfl, by rw [ha2'.out, hq'.out]; simp⟩
            · have hcl2 := hcells_lt hcl
              (repeat' (first | (simp -implicitDefEqProofs (maxSteps := 1000000) (disch := first | assumption | omega | (simp only [ZDI]; omega)) only [*,lenV,flI_len,fl_snocI,List.drop_zero,Nat.zero_add,List.length_append,List.length_cons,List.length_nil,G57,Za,Zb,Zc,Zd,Ze,Zf,Zg,Zh,Zi,Zj,Zk,Zl,Zm,Zn,Zo,Ja,Jb,Jc,J3,Jd,Je,J4,J5,Jf,Jg,Jh,Ji,Jj,Jk,J6,Jl,Jm,wr,Jn,J7,J8,Jo,Jp,Jq,Jr,Js,Jt,Ju,Jv,Jw,Jx,Jy,Jz,J0,J1,J2,reduceCtorEq,J9,JA,JB,JC,JD,JE,JF,JG]) | ((with_reducible (first | apply Ok.br | apply Ok.gd | apply Ok.ld)) <;> (intro g; (try simp only [ZGS] at g); try (exfalso; omega)))))
              exact Turn.next (l.length - (i + 1)) (by omega) ⟨rfl, i + 1, _, _, _, _, _, _, _, _, _, (L ++ [y]), put, rfl, by omega, rfl, rfl, rfl, rfl, hxt'.out.set hbl _, .inr ⟨b3, q3 + 1, by simp, hbl, by first | exact hcells_set_eq hcl2 | (rw [hcells_set_eq] <;> simp [hcl2])⟩, by rw [ha1'.out, hp'.out], by rw [ha2'.out, hq'.out]; simp⟩
        | false =>
          have hnk : ¬ y.key = x.key := fun e => of_decide_eq_false hd1 (hk'.out.1 e).1
          have hp : putR x y = y := by unfold putR; rw [if_neg hnk]
          have hq : decide (y.key = x.key) = false := decide_eq_false hnk
          have hp' := Hid.mk hp
          have hq' := Hid.mk hq
          clear hp hq hnk
          rcases hG with ⟨rfl, rfl⟩ | ⟨b3, q3, rfl, hbl, hcl⟩
          · (repeat' (first | (simp -implicitDefEqProofs (maxSteps := 1000000) (disch := first | assumption | omega | (simp only [ZDI]; omega)) only [*,lenV,flI_len,fl_snocI,List.drop_zero,Nat.zero_add,List.length_append,List.length_cons,List.length_nil,G57,Za,Zb,Zc,Zd,Ze,Zf,Zg,Zh,Zi,Zj,Zk,Zl,Zm,Zn,Zo,Ja,Jb,Jc,J3,Jd,Je,J4,J5,Jf,Jg,Jh,Ji,Jj,Jk,J6,Jl,Jm,wr,Jn,J7,J8,Jo,Jp,Jq,Jr,Js,Jt,Ju,Jv,Jw,Jx,Jy,Jz,J0,J1,J2,reduceCtorEq,J9,JA,JB,JC,JD,JE,JF,JG]) | ((with_reducible (first | apply Ok.br | apply Ok.gd | apply Ok.ld)) <;> (intro g; (try simp only [ZGS] at g); try (exfalso; omega)))))
            exact Turn.next (l.length - (i + 1)) (by omega) ⟨rfl, i + 1, _, _, _, _, _, _, _, _, _, [y], put, rfl, by omega, rfl, rfl, rfl, rfl, hxt'.out.app _, .inr ⟨_, _, rfl, hgl, hcells_new⟩, by rw [ha1'.out, hp'.out]; rfl, by rw [ha2'.out, hq'.out]; simp⟩
          · have hcl2 := hcells_lt hcl
            (repeat' (first | (simp -implicitDefEqProofs (maxSteps := 1000000) (disch := first | assumption | omega | (simp only [ZDI]; omega)) only [*,lenV,flI_len,fl_snocI,List.drop_zero,Nat.zero_add,List.length_append,List.length_cons,List.length_nil,G57,Za,Zb,Zc,Zd,Ze,Zf,Zg,Zh,Zi,Zj,Zk,Zl,Zm,Zn,Zo,Ja,Jb,Jc,J3,Jd,Je,J4,J5,Jf,Jg,Jh,Ji,Jj,Jk,J6,Jl,Jm,wr,Jn,J7,J8,Jo,Jp,Jq,Jr,Js,Jt,Ju,Jv,Jw,Jx,Jy,Jz,J0,J1,J2,reduceCtorEq,J9,JA,JB,JC,JD,JE,JF,JG]) | ((with_reducible (first | apply Ok.br | apply Ok.gd | apply Ok.ld)) <;> (intro g; (try simp only [ZGS] at g); try (exfalso; omega)))))
            exact Turn.next (l.length - (i + 1)) (by omega) ⟨rfl, i + 1, _, _, _, _, _, _, _, _, _, (L ++ [y]), put, rfl, by omega, rfl, rfl, rfl, rfl, hxt'.out.set hbl _, .inr ⟨b3, q3 + 1, by simp, hbl, by first | exact hcells_set_eq hcl2 | (rw [hcells_set_eq] <;> simp [hcl2])⟩, by rw [ha1'.out, hp'.out], by rw [ha2'.out, hq'.out]; simp⟩
    · have hlt' : ¬ (i : Int) < (l.length : Int) := by omega
      (repeat' (first | (simp -implicitDefEqProofs (maxSteps := 1000000) (disch := first | assumption | omega | (simp only [ZDI]; omega)) only [*,lenV,G57,Za,Zb,Zc,Zd,Ze,Zf,Zg,Zh,Zi,Zj,Zk,Zl,Zm,Zn,Zo,Ja,Jb,Jc,J3,Jd,Je,J4,J5,Jf,Jg,Jh,Ji,Jj,Jk,J6,Jl,Jm,wr,Jn,J7,J8,Jo,Jp,Jq,Jr,Js,Jt,Ju,Jv,Jw,Jx,Jy,Jz,J0,J1,J2,reduceCtorEq,J9,JA,JB,JC,JD,JE,JF,JG]) | ((with_reducible (first | apply Ok.br | apply Ok.gd | apply Ok.ld)) <;> (intro g; (try simp only [ZGS] at g); try (exfalso; omega)))))
      refine Turn.exit ⟨rfl, rfl, _, _, _, _, _, _, _, _, _, L, put, rfl, rfl, rfl, hxt, hG, ?_, ?_⟩
      · rwa [List.take_of_length_le (by omega)] at hma
      · rwa [List.take_of_length_le (by omega)] at hpu
  · intro y ⟨e', l', g⟩ hW ⟨hy, k1, k2, k3, k4, c1, c2, c3, c4, w, L, put, h5, h6, hsl, hxt, hG, hma, hpu⟩
    dsimp only at hW h5 h6 hsl hxt hG
    subst l' hy
    rw [hW.spread]
    clear hW
    simp only [spread_t,spread_f,spread_n,Nat.zero_add,Nat.reduceAdd,h5,h6]
    have hLl : L.length <= 10000 := by rw [<- hma]; simp; omega
    have hLb1 : (L.length + 1) * 160 <= 35184372088832 /\ L.length + 1 <= 35184372088832 := by omega
    have hn1 : ¬ (L.length + 1 <= L.length) := by omega
    have hgl := hxt.len
    have hxt' := Hid.mk hxt
    have hma' := Hid.mk hma
    have hpu' := Hid.mk hpu
    clear hxt hma hpu
    cases put with
    | true =>
      obtain ⟨a2, n2, c2, z2, rfl⟩ : ∃ a n c z, w = .sl a n c z := by
        rcases hG with ⟨_, rfl⟩ | ⟨b, q, rfl, _⟩ <;> exact ⟨_, _, _, _, rfl⟩
      (repeat' (first | (simp -implicitDefEqProofs (maxSteps := 1000000) (disch := first | assumption | omega | (simp only [ZDI]; omega)) only [*,lenV,G57,Za,Zb,Zc,Zd,Ze,Zf,Zg,Zh,Zi,Zj,Zk,Zl,Zm,Zn,Zo,Ja,Jb,Jc,J3,Jd,Je,J4,J5,Jf,Jg,Jh,Ji,Jj,Jk,J6,Jl,Jm,wr,Jn,J7,J8,Jo,Jp,Jq,Jr,Js,Jt,Ju,Jv,Jw,Jx,Jy,Jz,J0,J1,J2,reduceCtorEq,J9,JA,JB,JC,JD,JE,JF,JG]) | ((with_reducible (first | apply Ok.br | apply Ok.gd | apply Ok.ld)) <;> (intro g; (try simp only [ZGS] at g); try (exfalso; omega)))))
      exact hfin'.out L true _ _ hma'.out hpu'.out hxt'.out hG
    | false =>
      rcases hG with ⟨rfl, rfl⟩ | ⟨b, q, rfl, hbl, hcl⟩
      · (repeat' (first | (simp -implicitDefEqProofs (maxSteps := 1000000) (disch := first | assumption | omega | (simp only [ZDI]; omega)) only [*,lenV,flI_len,fl_snocI,List.drop_zero,Nat.zero_add,List.length_append,List.length_cons,List.length_nil,G57,Za,Zb,Zc,Zd,Ze,Zf,Zg,Zh,Zi,Zj,Zk,Zl,Zm,Zn,Zo,Ja,Jb,Jc,J3,Jd,Je,J4,J5,Jf,Jg,Jh,Ji,Jj,Jk,J6,Jl,Jm,wr,Jn,J7,J8,Jo,Jp,Jq,Jr,Js,Jt,Ju,Jv,Jw,Jx,Jy,Jz,J0,J1,J2,reduceCtorEq,J9,JA,JB,JC,JD,JE,JF,JG]) | ((with_reducible (first | apply Ok.br | apply Ok.gd | apply Ok.ld)) <;> (intro g; (try simp only [ZGS] at g); try (exfalso; omega)))))
        exact hfin'.out [] false _ _ hma'.out hpu'.out (hxt'.out.app _) (.inr ⟨_, _, rfl, hgl, hcells_new⟩)
      · have hcl2 := hcells_lt hcl
        (repeat' (first | (simp -implicitDefEqProofs (maxSteps := 1000000) (disch := first | assumption | omega | (simp only [ZDI]; omega)) only [*,lenV,flI_len,fl_snocI,List.drop_zero,Nat.zero_add,List.length_append,List.length_cons,List.length_nil,G57,Za,Zb,Zc,Zd,Ze,Zf,Zg,Zh,Zi,Zj,Zk,Zl,Zm,Zn,Zo,Ja,Jb,Jc,J3,Jd,Je,J4,J5,Jf,Jg,Jh,Ji,Jj,Jk,J6,Jl,Jm,wr,Jn,J7,J8,Jo,Jp,Jq,Jr,Js,Jt,Ju,Jv,Jw,Jx,Jy,Jz,J0,J1,J2,reduceCtorEq,J9,JA,JB,JC,JD,JE,JF,JG]) | ((with_reducible (first | apply Ok.br | apply Ok.gd | apply Ok.ld)) <;> (intro g; (try simp only [ZGS] at g); try (exfalso; omega)))))
        exact hfin'.out L false _ _ hma'.out hpu'.out (hxt'.out.set hbl _) (.inr ⟨_, _, by simp, hbl, hcells_set_eq hcl2⟩)
def findL (l : List In) (k : RP) : Int := match l.findIdx? (fun y => decide (y.key = k)) with | some i => i | none => -1
theorem findL_none {l : List In} {k : RP} (h : ∀ y ∈ l, ¬ y.key = k) : findL l k = -1 := by
  unfold findL
  rw [List.findIdx?_eq_none_iff.2 fun y hy => by simp [h y hy]]
theorem findL_some {l : List In} {k : RP} {i : Nat} {y : In} (hy : l[i]? = some y) (hk : y.key = k) (hn : ∀ y ∈ l.take i, ¬ y.key = k) : findL l k = i := by
  unfold findL
  have hi := (List.getElem?_eq_some_iff.1 hy).1
  have : l.findIdx? (fun y => decide (y.key = k)) = some i := by
    rw [List.findIdx?_eq_some_iff_getElem]
    refine ⟨hi, ?_, fun j hj => ?_⟩
    · have := (List.getElem?_eq_some_iff.1 hy).2
      rw [this]; simp [hk]
    · have hm : l[j] ∈ l.take i := by
        rw [List.mem_iff_getElem]
        exact ⟨j, by simp; omega, by simp⟩
      simp [hn _ hm]
  rw [this]
set_option maxHeartbeats 4000000 in
theorem find_at {h : Heap} {v : V} {l : List In} (hr : InsAt h v l) (k : RP) : D X (.fn 32 []) [v, .agg [.int .i64 k.1, .int .i64 k.2]] h = some (.int .i64 (findL l k), h) := by
  refine Ok.eq ?_
  refine Ok.aim fun Q hQ => ?_
  have hQ' := Hid.mk hQ
  clear hQ
  obtain ⟨a, cap, z, rfl, h1, hall, h2⟩ := hr
  clear hall
  obtain ⟨k1, k2⟩ := k
  (refine Ok.body body32 pin32 ?_; simp only [c32,Try.f32,Option.getD_some,nslot32,List.append_nil,List.map,List.replicate,List.length_cons,List.length_nil,Nat.reduceAdd,Nat.reduceSub,List.cons_append,List.nil_append])
  (repeat' (first | (simp -implicitDefEqProofs (maxSteps := 1000000) (disch := first | assumption | omega | (simp only [ZDI]; omega)) only [*,lenV,G32,Za,Zb,Zc,Zd,Ze,Zf,Zg,Zh,Zi,Zj,Zk,Zl,Zm,Zn,Zo,Ja,Jb,Jc,J3,Jd,Je,J4,J5,Jf,Jg,Jh,Ji,Jj,Jk,J6,Jl,Jm,wr,Jn,J7,J8,Jo,Jp,Jq,Jr,Js,Jt,Ju,Jv,Jw,Jx,Jy,Jz,J0,J1,J2,reduceCtorEq,J9,JA,JB,JC,JD,JE,JF,JG]) | ((with_reducible (first | apply Ok.br | apply Ok.gd | apply Ok.ld)) <;> (intro g; (try simp only [ZGS] at g); try (exfalso; omega)))))
  refine Ok.loop [BF, BF, BF, BF, BT, BT, BT, BF, BF, BT, BT, BT, BT, BT, BT, BT, BT, BT, BT, BT] (fun m s2 => ∃ (i w1 : Nat) (q1 : List V), m = l.length - i /\ i <= l.length /\ tv s2.e 9 = .v (.int .i64 i) /\ s2.l = [(1, [.int .i64 k1, .int .i64 k2]), (w1, q1)] /\ s2.h = h /\ ∀ y ∈ l.take i, ¬ y.key = (k1, k2))
    (fun y s2 => s2.h = h /\ (∃ (w1 : Nat) (q1 : List V), s2.l = [(1, [.int .i64 k1, .int .i64 k2]), (w1, q1)]) /\ ((y = .exit 0 /\ findL l (k1, k2) = -1) \/ (y = .ret /\ tv s2.e 4 = .v (.int .i64 (findL l (k1, k2)))))) (l.length - 0) ⟨0, 0, [], rfl, Nat.zero_le _, rfl, rfl, rfl, by simp⟩ ?_ ?_
  · intro n ⟨e', l', H'⟩ hW ⟨i, w1, q1, hm, hi, h9, k2', k3, hno⟩
    dsimp only at hW h9 k2' k3
    subst l' H'
    rw [hW.spread]
    simp only [spread_t,spread_f,spread_n,Nat.zero_add,Nat.reduceAdd,h9]
    clear hW hQ'
    have hno' := Hid.mk hno
    clear hno
    by_cases hlt : i < l.length
    · have hlt' : (i : Int) < (l.length : Int) := by omega
      have g1 : 0 <= (i : Int) /\ (i : Int) < (l.length : Int) := by omega
      rcases h2 with rfl | ⟨b, q, o, rw, full, rfl, hb, hfull, ho⟩
      · simp at hlt
      · obtain ⟨y, hy⟩ : ∃ y, l[i]? = some y := ⟨_, List.getElem?_eq_getElem hlt⟩
        have hf := hfull i y hy
        simp only [inV] at hf
        have hk : (y.key = (k1, k2)) ↔ (y.l = k1 /\ y.i = k2) := by unfold In.key; simp
        have ho2 : o + i * 16 + 16 <= full.length := by omega
        have hk' := Hid.mk hk
        have hy' := Hid.mk hy
        clear hk hy hfull ho
        have hnext : Hid (¬ y.key = (k1, k2) -> ∀ y ∈ l.take (i + 1), ¬ y.key = (k1, k2)) := ⟨fun hn z hz => by
          rw [List.take_add_one, hy'.out] at hz
          rcases List.mem_append.1 hz with hz | hz
          · exact hno'.out z hz
          · simp at hz; rw [hz]; exact hn⟩
        cases hd1 : decide (y.l = k1) with
        | true =>
          cases hd2 : decide (y.i = k2) with
          | true =>
            have hfin := Hid.mk (findL_some hy'.out (hk'.out.2 ⟨of_decide_eq_true hd1, of_decide_eq_true hd2⟩) hno'.out)
            (repeat' (first | (simp -implicitDefEqProofs (maxSteps := 1000000) (disch := first | assumption | omega | (simp only [ZDI]; omega)) only [*,lenV,G32,Za,Zb,Zc,Zd,Ze,Zf,Zg,Zh,Zi,Zj,Zk,Zl,Zm,Zn,Zo,Ja,Jb,Jc,J3,Jd,Je,J4,J5,Jf,Jg,Jh,Ji,Jj,Jk,J6,Jl,Jm,wr,Jn,J7,J8,Jo,Jp,Jq,Jr,Js,Jt,Ju,Jv,Jw,Jx,Jy,Jz,J0,J1,J2,reduceCtorEq,J9,JA,JB,JC,JD,JE,JF,JG]) | ((with_reducible (first | apply Ok.br | apply Ok.gd | apply Ok.ld)) <;> (intro g; (try simp only [ZGS] at g); try (exfalso; omega)))))
            exact Turn.ret ⟨rfl, rfl, ⟨_, _, rfl⟩, .inr ⟨rfl, by rw [hfin.out]; rfl⟩⟩
          | false =>
            have hnk := hnext.out fun e => of_decide_eq_false hd2 (hk'.out.1 e).2
            have hnk' := Hid.mk hnk
            clear hnk
            (repeat' (first | (simp -implicitDefEqProofs (maxSteps := 1000000) (disch := first | assumption | omega | (simp only [ZDI]; omega)) only [*,lenV,G32,Za,Zb,Zc,Zd,Ze,Zf,Zg,Zh,Zi,Zj,Zk,Zl,Zm,Zn,Zo,Ja,Jb,Jc,J3,Jd,Je,J4,J5,Jf,Jg,Jh,Ji,Jj,Jk,J6,Jl,Jm,wr,Jn,J7,J8,Jo,Jp,Jq,Jr,Js,Jt,Ju,Jv,Jw,Jx,Jy,Jz,J0,J1,J2,reduceCtorEq,J9,JA,JB,JC,JD,JE,JF,JG]) | ((with_reducible (first | apply Ok.br | apply Ok.gd | apply Ok.ld)) <;> (intro g; (try simp only [ZGS] at g); try (exfalso; omega)))))
            exact Turn.next (l.length - (i + 1)) (by omega) ⟨rfl, i + 1, _, _, rfl, by omega, rfl, rfl, rfl, hnk'.out⟩
        | false =>
          have hnk := hnext.out fun e => of_decide_eq_false hd1 (hk'.out.1 e).1
          have hnk' := Hid.mk hnk
          clear hnk
          (repeat' (first | (simp -implicitDefEqProofs (maxSteps := 1000000) (disch := first | assumption | omega | (simp only [ZDI]; omega)) only [*,lenV,G32,Za,Zb,Zc,Zd,Ze,Zf,Zg,Zh,Zi,Zj,Zk,Zl,Zm,Zn,Zo,Ja,Jb,Jc,J3,Jd,Je,J4,J5,Jf,Jg,Jh,Ji,Jj,Jk,J6,Jl,Jm,wr,Jn,J7,J8,Jo,Jp,Jq,Jr,Js,Jt,Ju,Jv,Jw,Jx,Jy,Jz,J0,J1,J2,reduceCtorEq,J9,JA,JB,JC,JD,JE,JF,JG]) | ((with_reducible (first | apply Ok.br | apply Ok.gd | apply Ok.ld)) <;> (intro g; (try simp only [ZGS] at g); try (exfalso; omega)))))
          exact Turn.next (l.length - (i + 1)) (by omega) ⟨rfl, i + 1, _, _, rfl, by omega, rfl, rfl, rfl, hnk'.out⟩
    · have hlt' : ¬ (i : Int) < (l.length : Int) := by omega
      (repeat' (first | (simp -implicitDefEqProofs (maxSteps := 1000000) (disch := first | assumption | omega | (simp only [ZDI]; omega)) only [*,lenV,G32,Za,Zb,Zc,Zd,Ze,Zf,Zg,Zh,Zi,Zj,Zk,Zl,Zm,Zn,Zo,Ja,Jb,Jc,J3,Jd,Je,J4,J5,Jf,Jg,Jh,Ji,Jj,Jk,J6,Jl,Jm,wr,Jn,J7,J8,Jo,Jp,Jq,Jr,Js,Jt,Ju,Jv,Jw,Jx,Jy,Jz,J0,J1,J2,reduceCtorEq,J9,JA,JB,JC,JD,JE,JF,JG]) | ((with_reducible (first | apply Ok.br | apply Ok.gd | apply Ok.ld)) <;> (intro g; (try simp only [ZGS] at g); try (exfalso; omega)))))
      refine Turn.exit ⟨rfl, rfl, ⟨_, _, rfl⟩, .inl ⟨rfl, findL_none ?_⟩⟩
      have := hno'.out
      rwa [List.take_of_length_le (by omega)] at this
  · intro y ⟨e', l', H'⟩ hW ⟨k3, ⟨w1, q1, k2'⟩, hy⟩
    dsimp only at hW k2' k3 hy
    subst l' H'
    rw [hW.spread]
    clear hW
    rcases hy with ⟨rfl, hm⟩ | ⟨rfl, h4⟩
    · simp only [spread_t,spread_f,spread_n,Nat.zero_add,Nat.reduceAdd]
      (repeat' (first | (simp -implicitDefEqProofs (maxSteps := 1000000) (disch := first | assumption | omega | (simp only [ZDI]; omega)) only [*,G32,Za,Zb,Zc,Zd,Ze,Zf,Zg,Zh,Zi,Zj,Zk,Zl,Zm,Zn,Zo,Ja,Jb,Jc,J3,Jd,Je,J4,J5,Jf,Jg,Jh,Ji,Jj,Jk,J6,Jl,Jm,wr,Jn,J7,J8,Jo,Jp,Jq,Jr,Js,Jt,Ju,Jv,Jw,Jx,Jy,Jz,J0,J1,J2,reduceCtorEq,J9,JA,JB,JC,JD,JE,JF,JG]) | ((with_reducible (first | apply Ok.br | apply Ok.gd | apply Ok.ld)) <;> (intro g; (try simp only [ZGS] at g); try (exfalso; omega)))))
      exact hQ'.out _ (by first | rfl | rw [hm])
    · simp only [spread_t,spread_f,spread_n,Nat.zero_add,Nat.reduceAdd,h4]
      (repeat' (first | (simp -implicitDefEqProofs (maxSteps := 1000000) (disch := first | assumption | omega | (simp only [ZDI]; omega)) only [*,G32,Za,Zb,Zc,Zd,Ze,Zf,Zg,Zh,Zi,Zj,Zk,Zl,Zm,Zn,Zo,Ja,Jb,Jc,J3,Jd,Je,J4,J5,Jf,Jg,Jh,Ji,Jj,Jk,J6,Jl,Jm,wr,Jn,J7,J8,Jo,Jp,Jq,Jr,Js,Jt,Ju,Jv,Jw,Jx,Jy,Jz,J0,J1,J2,reduceCtorEq,J9,JA,JB,JC,JD,JE,JF,JG]) | ((with_reducible (first | apply Ok.br | apply Ok.gd | apply Ok.ld)) <;> (intro g; (try simp only [ZGS] at g); try (exfalso; omega)))))
      exact hQ'.out _ rfl
end Go.Ev
set_option maxRecDepth 100000
namespace Go.Ev
open Go.Ev renaming exPure -> Ja, ofValue -> Jb, cellsV -> Jc, load -> Jd, store -> Je, binOp -> Jf, intOp -> Jg, rdV -> Jh, vsame -> Ji, vsames -> Jj, makeSliceV -> Jk, resV -> Jl, isCell -> Jm, nilCheckV -> Jn, allV -> Jo, builtinV -> Jp, lenV -> Jq, indexAddrV -> Jr, unOp -> Js, minmaxV -> Jt, minmax -> Ju, sliceV -> Jv, asInt -> Jw, appendV -> Jx, copyV -> Jy, clearV -> Jz, convV -> J0, sliceCells -> J1, shift -> J2
open Bool renaming true -> BT, false -> BF
open Nat renaming reduceEqDiff -> J3, reduceLT -> J4, reduceAdd -> J5, reduceBEq -> J6, reduceSub -> J7, reduceMul -> J8, reduceLeDiff -> JG
open Int renaming reduceLT -> J9, reduceLE -> JA, reduceAdd -> JB, reduceSub -> JC, reduceNeg -> JD, reduceToNat -> JE, reduceEq -> JF
open Go.Proofs
def lightB : Nat -> Nat -> List ByteArray -> Bool
  | _, _, [] => true
  | i, n, s :: r => cond (decide ((100 : Int) < i)) false (cond (decide ((10000 : Int) < s.size)) false (cond (decide ((100000 : Int) < n)) false (lightB (i + 1) (n + s.size) r)))
theorem lightB_drop {i n : Nat} {l : List ByteArray} {s : ByteArray} (h : l[i]? = some s) : lightB i n (l.drop i) = cond (decide ((100 : Int) < i)) false (cond (decide ((10000 : Int) < s.size)) false (cond (decide ((100000 : Int) < n)) false (lightB (i + 1) (n + s.size) (l.drop (i + 1))))) := by
  have hi := (List.getElem?_eq_some_iff.1 h).1
  rw [List.drop_eq_getElem_cons hi]
  have : l[i] = s := by rw [List.getElem?_eq_getElem hi] at h; exact Option.some.inj h
  rw [this, lightB]
theorem light_at {h : Heap} {x : In} (hx : InAt h x) : D X (.fn 12 []) [.agg (inV x)] h = some (.bool (lightB 0 0 x.dl && decide ((x.pl.length : Int) <= 5000)), h) := by
  refine Ok.eq ?_
  refine Ok.aim fun Q hQ => ?_
  have hQ' := Hid.mk hQ
  clear hQ
  obtain ⟨a, cap, z, e1, hl, _, ha⟩ := hx.1
  obtain ⟨a3, cap3, z3, e3, _⟩ := hx.2
  have hh := Hid.mk ha
  clear ha hx
  simp only [inV,e1,e3]
  clear e1 e3
  generalize x.dl = l at hl hh hQ' ⊢
  (refine Ok.body body12 pin12 ?_; simp only [c12,Try.f12,Option.getD_some,nslot12,List.append_nil,List.map,List.replicate,List.length_cons,List.length_nil,Nat.reduceAdd,Nat.reduceSub,List.cons_append,List.nil_append])
  simp -implicitDefEqProofs (maxSteps := 1000000) (disch := first | assumption | omega | (simp only [ZDI]; omega)) only [*,lenV,G12,Za,Zb,Zc,Zd,Ze,Zf,Zg,Zh,Zi,Zj,Zk,Zl,Zm,Zn,Zo,Ja,Jb,Jc,J3,Jd,Je,J4,J5,Jf,Jg,Jh,Ji,Jj,Jk,J6,Jl,Jm,wr,Jn,J7,J8,Jo,Jp,Jq,Jr,Js,Jt,Ju,Jv,Jw,Jx,Jy,Jz,J0,J1,J2,reduceCtorEq,J9,JA,JB,JC,JD,JE,JF,JG]
  refine Ok.loop [BF, BF, BT, BT, BT, BT, BF, BF, BF, BF, BT, BT, BT, BT, BT, BT, BT, BT, BT, BT, BT, BT, BT, BT, BT, BT, BT, BT, BT, BT, BT, BF, BF, BF, BF] (fun n s => ∃ i m : Nat, n = l.length - i /\ i <= l.length /\ m <= 110000 /\ tv s.e 10 = .v (.int .i64 i) /\ tv s.e 3 = .v (.int .i64 m) /\ s.l = [(1, [.int .i64 x.l, .int .i64 x.i, .int .i64 x.bn, .int .i64 x.bd, .int .i64 x.vn, .int .i64 x.vd, .int .i64 x.st, .bool x.sm, .int .i64 x.o, .int .i64 x.c, .int .i64 x.q, .int .i64 x.f, .int .i64 x.t, .sl a l.length cap z, .int .i64 x.sq, .sl a3 x.pl.length cap3 z3])] /\ s.h = h /\ lightB 0 0 l = lightB i m (l.drop i))
    (fun xx s => s.l = [(1, [.int .i64 x.l, .int .i64 x.i, .int .i64 x.bn, .int .i64 x.bd, .int .i64 x.vn, .int .i64 x.vd, .int .i64 x.st, .bool x.sm, .int .i64 x.o, .int .i64 x.c, .int .i64 x.q, .int .i64 x.f, .int .i64 x.t, .sl a l.length cap z, .int .i64 x.sq, .sl a3 x.pl.length cap3 z3])] /\ s.h = h /\ ((xx = .exit 0 /\ lightB 0 0 l = true) \/ (xx = .ret /\ lightB 0 0 l = false /\ tv s.e 2 = .v (.bool false)))) (l.length - 0) ⟨0, 0, rfl, by omega, by omega, rfl, rfl, rfl, rfl, rfl⟩ ?_ ?_
  · intro n ⟨e', l', h'⟩ hW ⟨i, m, hn, hi, hm, h9, h3, h1, h2, hno⟩
    dsimp only at hW h9 h3 h1 h2
    subst l' h'
    rw [hW.spread]
    simp only [spread_t,spread_f,spread_n,Nat.zero_add,Nat.reduceAdd,h9,h3]
    by_cases hlt : i < l.length
    · rcases hh.out with rfl | ⟨b, g, oo, rw, full, rfl, hb, hfull⟩
      · simp at hlt
      · obtain ⟨s, hs⟩ : ∃ s, l[i]? = some s := ⟨_, List.getElem?_eq_getElem hlt⟩
        have hf := hfull i s hs
        have hno' := hno
        rw [lightB_drop hs] at hno'
        have hno2 := Hid.mk hno'
        clear hno hno' hfull
        (repeat' (first | (simp -implicitDefEqProofs (maxSteps := 1000000) (disch := first | assumption | omega | (simp only [ZDI]; omega)) only [*,Int.ofNat_lt,Int.natCast_nonneg,lenV,Int.natCast_zero,G12,Za,Zb,Zc,Zd,Ze,Zf,Zg,Zh,Zi,Zj,Zk,Zl,Zm,Zn,Zo,Ja,Jb,Jc,J3,Jd,Je,J4,J5,Jf,Jg,Jh,Ji,Jj,Jk,J6,Jl,Jm,wr,Jn,J7,J8,Jo,Jp,Jq,Jr,Js,Jt,Ju,Jv,Jw,Jx,Jy,Jz,J0,J1,J2,reduceCtorEq,J9,JA,JB,JC,JD,JE,JF,JG]) | ((with_reducible (first | apply Ok.br | apply Ok.gd | apply Ok.ld)) <;> (intro g; (try simp only [ZGS] at g); try (exfalso; omega)))))
        all_goals first
          | (refine Turn.ret ⟨rfl, rfl, rfl, .inr ⟨rfl, ?_, rfl⟩⟩; rw [hno2.out]; simp only [*,decide_true,decide_false,cond_true,cond_false]; done)
          | (refine Turn.next (l.length - (i + 1)) (by omega) ⟨rfl, i + 1, m + s.size, rfl, by omega, by omega, rfl, rfl, rfl, rfl, ?_⟩; rw [hno2.out]; simp only [*,decide_false,cond_false])
    · simp -implicitDefEqProofs (maxSteps := 1000000) (disch := first | assumption | omega | (simp only [ZDI]; omega)) only [*,Int.ofNat_lt,G12,Za,Zb,Zc,Zd,Ze,Zf,Zg,Zh,Zi,Zj,Zk,Zl,Zm,Zn,Zo,Ja,Jb,Jc,J3,Jd,Je,J4,J5,Jf,Jg,Jh,Ji,Jj,Jk,J6,Jl,Jm,wr,Jn,J7,J8,Jo,Jp,Jq,Jr,Js,Jt,Ju,Jv,Jw,Jx,Jy,Jz,J0,J1,J2,reduceCtorEq,J9,JA,JB,JC,JD,JE,JF,JG]
      refine Turn.exit ⟨rfl, rfl, rfl, .inl ⟨rfl, ?_⟩⟩
      rw [List.drop_of_length_le (by omega), lightB]
  · intro xx ⟨e', l', h'⟩ hW ⟨h1, h2, hE⟩
    dsimp only at hW h1 h2 hE
    subst l' h'
    rw [hW.spread]
    rcases hE with ⟨rfl, hany⟩ | ⟨rfl, hany, h4⟩
    · simp only [spread_t,spread_f,spread_n,Nat.zero_add,Nat.reduceAdd]
      simp -implicitDefEqProofs (maxSteps := 1000000) (disch := first | assumption | omega | (simp only [ZDI]; omega)) only [*,lenV,G12,Za,Zb,Zc,Zd,Ze,Zf,Zg,Zh,Zi,Zj,Zk,Zl,Zm,Zn,Zo,Ja,Jb,Jc,J3,Jd,Je,J4,J5,Jf,Jg,Jh,Ji,Jj,Jk,J6,Jl,Jm,wr,Jn,J7,J8,Jo,Jp,Jq,Jr,Js,Jt,Ju,Jv,Jw,Jx,Jy,Jz,J0,J1,J2,reduceCtorEq,J9,JA,JB,JC,JD,JE,JF,JG]
      exact hQ'.out _ (by rw [hany]; simp)
    · simp only [spread_t,spread_f,spread_n,Nat.zero_add,Nat.reduceAdd,h4]
      simp -implicitDefEqProofs (maxSteps := 1000000) (disch := first | assumption | omega | (simp only [ZDI]; omega)) only [*,lenV,G12,Za,Zb,Zc,Zd,Ze,Zf,Zg,Zh,Zi,Zj,Zk,Zl,Zm,Zn,Zo,Ja,Jb,Jc,J3,Jd,Je,J4,J5,Jf,Jg,Jh,Ji,Jj,Jk,J6,Jl,Jm,wr,Jn,J7,J8,Jo,Jp,Jq,Jr,Js,Jt,Ju,Jv,Jw,Jx,Jy,Jz,J0,J1,J2,reduceCtorEq,J9,JA,JB,JC,JD,JE,JF,JG]
      exact hQ'.out _ (by rw [hany]; simp)
end Go.Ev
set_option maxRecDepth 100000
namespace Go.Ev
open Go.Ev renaming exPure -> Ja, ofValue -> Jb, cellsV -> Jc, load -> Jd, store -> Je, binOp -> Jf, intOp -> Jg, rdV -> Jh, vsame -> Ji, vsames -> Jj, makeSliceV -> Jk, resV -> Jl, isCell -> Jm, nilCheckV -> Jn, allV -> Jo, builtinV -> Jp, lenV -> Jq, indexAddrV -> Jr, unOp -> Js, minmaxV -> Jt, minmax -> Ju, sliceV -> Jv, asInt -> Jw, appendV -> Jx, copyV -> Jy, clearV -> Jz, convV -> J0, sliceCells -> J1, shift -> J2
open Bool renaming true -> BT, false -> BF
open Nat renaming reduceEqDiff -> J3, reduceLT -> J4, reduceAdd -> J5, reduceBEq -> J6, reduceSub -> J7, reduceMul -> J8, reduceLeDiff -> JG
open Int renaming reduceLT -> J9, reduceLE -> JA, reduceAdd -> JB, reduceSub -> JC, reduceNeg -> JD, reduceToNat -> JE, reduceEq -> JF
open Go.Proofs
theorem Ext.of_keeps {h a b : Heap} {F : List Nat} (he : Ext h a) (k : Keeps F a b) (hF : ∀ i ∈ F, h.length <= i) : Ext h b := by
  have hl := he.len
  obtain ⟨l, rfl⟩ := he
  refine ⟨b.drop h.length, ?_⟩
  apply List.ext_getElem?
  intro i
  by_cases hi : i < h.length
  · rw [List.getElem?_append_left hi]
    have := k.2 i (by simp; omega) (fun hm => by have := hF i hm; omega)
    rw [this, List.getElem?_append_left hi]
  · rw [List.getElem?_append_right (by omega), List.getElem?_drop]
    congr 1; omega
theorem Ext.keepC {h g : Heap} (k : Ext h g) : KeepC h g := by
  obtain ⟨l, rfl⟩ := k
  exact KeepC.app h l
theorem putL_core (L : List In) (x : In) : (putL L x).map In.core = putL (L.map In.core) x.core := by
  have hk : ∀ L : List In, (L.map In.core).map In.key = L.map In.key := fun L => by rw [List.map_map]; rfl
  unfold putL
  rw [hk]
  by_cases h : x.key ∈ L.map In.key
  · rw [if_pos h, if_pos (show x.core.key ∈ _ from h), List.map_map, List.map_map]
    refine List.map_congr_left fun y _ => ?_
    show In.core (if y.key = x.key then x else y) = if y.core.key = x.core.key then x.core else y.core
    by_cases e : y.key = x.key
    · rw [if_pos e, if_pos (show y.core.key = x.core.key from e)]
    · rw [if_neg e, if_neg (show ¬ y.core.key = x.core.key from e)]
  · rw [if_neg h, if_neg (show ¬ x.core.key ∈ _ from h), List.map_append]; rfl
theorem putL_len (L : List In) (x : In) : (putL L x).length <= L.length + 1 := by
  unfold putL; split <;> simp
theorem core_len {L M : List In} (h : L.map In.core = M.map In.core) : L.length = M.length := by have := congrArg List.length h; simpa using this
theorem core_keys {L M : List In} (h : L.map In.core = M.map In.core) : L.map In.key = M.map In.key := by
  have := congrArg (List.map In.key) h
  rw [List.map_map, List.map_map] at this
  exact this
structure Played (h g : Heap) (b m : Nat) (w : V) (L M : List In) : Prop where
  ext : Ext h g
  tab : TabAt g b m L
  new : h.length <= b /\ h.length <= m
  row : InsAt g w M
  same : L.map In.core = M.map In.core
  may : ∀ x ∈ M, mayB x = true
set_option maxHeartbeats 8000000 in
theorem play_at {h : Heap} {v : V} {l : List In} (hr : InsAt h v l) :
    Ev.Ok (D X (.fn 27 []) [v] h) fun y => ∃ b m w g L M, y = (.tup [.ptr b 0 0, w, .bool true], g) /\ Played h g b m w L M /\ M.length <= 60 := by
  refine Ok.aim fun Q hQ => ?_
  have hQ' := Hid.mk hQ
  clear hQ
  obtain ⟨a, cap, z, rfl, h1, hall, h2⟩ := hr
  have hnew := newT_at h
  have hst : Played h (h ++ [Blk.map true [] 0, .cells 0 true [.map h.length]]) (h.length + 1) h.length (.sl .nil 0 0 0) [] [] := by
    refine ⟨⟨_, rfl⟩, ⟨?_, ⟨true, [], 0, ?_, rfl⟩, (fun x hx => nomatch hx), List.nodup_nil⟩, ⟨by omega, Nat.le_refl _⟩, ⟨_, _, _, rfl, by decide, (fun x hx => nomatch hx), .inl rfl⟩, rfl, (fun x hx => nomatch hx)⟩
    · rw [hcells_ge (by omega), Nat.add_sub_cancel_left]; rfl
    · rw [List.getElem?_append_right (Nat.le_refl _), Nat.sub_self]; rfl
  have hst' := Hid.mk hst
  clear hst
  (refine Ok.body body27 pin27 ?_; simp only [c27,Try.f27,Option.getD_some,nslot27,List.append_nil,List.map,List.replicate,List.length_cons,List.length_nil,Nat.reduceAdd,Nat.reduceSub,List.cons_append,List.nil_append])
  (repeat' (first | (simp -implicitDefEqProofs (maxSteps := 1000000) (disch := first | assumption | omega | (simp only [ZDI]; omega)) only [*,lenV,G27,Za,Zb,Zc,Zd,Ze,Zf,Zg,Zh,Zi,Zj,Zk,Zl,Zm,Zn,Zo,Ja,Jb,Jc,J3,Jd,Je,J4,J5,Jf,Jg,Jh,Ji,Jj,Jk,J6,Jl,Jm,wr,Jn,J7,J8,Jo,Jp,Jq,Jr,Js,Jt,Ju,Jv,Jw,Jx,Jy,Jz,J0,J1,J2,reduceCtorEq,J9,JA,JB,JC,JD,JE,JF,JG]) | ((with_reducible (first | apply Ok.br | apply Ok.gd | apply Ok.ld)) <;> (intro g; (try simp only [ZGS] at g); try (exfalso; omega)))))
  generalize h.length + 1 = b at hst' ⊢
  obtain ⟨N, hN⟩ : ∃ N, h.length = N := ⟨_, rfl⟩
  clear hnew
  refine Ok.loop [BF, BF, BT, BT, BT, BF, BT, BT, BT, BT, BF, BF, BF, BT, BT, BT, BT, BT, BT, BT, BT, BT, BT, BT, BT, BT, BT, BT, BT, BT, BT, BT, BT, BT, BT, BT, BT, BT, BT, BT, BT, BT, BT, BT, BT, BT, BT, BF, BF, BF, BF, BF, BF, BF] (fun n s2 => ∃ (i w1 : Nat) (q1 : List V) (w : V) (L M : List In), n = l.length - i /\ i <= l.length /\ tv s2.e 13 = .v (.int .i64 i) /\ tv s2.e 6 = .v w /\ s2.l = [(w1, q1)] /\ Played h s2.h b N w L M /\ M.length <= i /\ M.length <= 60)
    (fun y s2 => y = .exit 0 /\ ∃ (w1 : Nat) (q1 : List V) (w : V) (L M : List In), tv s2.e 6 = .v w /\ s2.l = [(w1, q1)] /\ Played h s2.h b N w L M /\ M.length <= 60) (l.length - 0) ⟨0, 0, [], _, [], [], rfl, Nat.zero_le _, rfl, rfl, rfl, by rw [<- hN]; exact hst'.out, Nat.le_refl _, by decide⟩ ?_ ?_
  · intro n ⟨e', l', g⟩ hW ⟨i, w1, q1, w, L, M, hm, hi, h9, h6, k2, hp, hM1, hM2⟩
    dsimp only at hW h9 h6 k2 hp
    subst l'
    rw [hW.spread]
    simp only [spread_t,spread_f,spread_n,Nat.zero_add,Nat.reduceAdd,h9,h6]
    clear hW hQ' hst'
    have hp' := Hid.mk hp
    by_cases hlt : i < l.length
    · have hlt' : (i : Int) < (l.length : Int) := by omega
      have g1 : 0 <= (i : Int) /\ (i : Int) < (l.length : Int) := by omega
      rcases h2 with rfl | ⟨bb, q, o, rw, full, rfl, hb, hfull, ho⟩
      · simp at hlt
      · have hb2 := hp.ext.cells hb
        obtain ⟨y, hy⟩ : ∃ y, l[i]? = some y := ⟨_, List.getElem?_eq_getElem hlt⟩
        have hf := hfull i y hy
        have hya : InAt g y := (hall y (List.mem_of_getElem? hy)).keep hp.ext.keepC
        have ho2 : o + i * 16 + 16 <= full.length := by omega
        have hbl := hcells_lt hb2
        by_cases h60 : 60 <= i
        · have h60' : (60 : Int) <= (i : Int) := by omega
          simp only [inV] at hf
          clear hy hfull ho hp hya hb
          (repeat' (first | (simp -implicitDefEqProofs (maxSteps := 1000000) (disch := first | assumption | omega | (simp only [ZDI]; omega)) only [*,lenV,G27,Za,Zb,Zc,Zd,Ze,Zf,Zg,Zh,Zi,Zj,Zk,Zl,Zm,Zn,Zo,Ja,Jb,Jc,J3,Jd,Je,J4,J5,Jf,Jg,Jh,Ji,Jj,Jk,J6,Jl,Jm,wr,Jn,J7,J8,Jo,Jp,Jq,Jr,Js,Jt,Ju,Jv,Jw,Jx,Jy,Jz,J0,J1,J2,reduceCtorEq,J9,JA,JB,JC,JD,JE,JF,JG]) | ((with_reducible (first | apply Ok.br | apply Ok.gd | apply Ok.ld)) <;> (intro g; (try simp only [ZGS] at g); try (exfalso; omega)))))
          exact Turn.exit ⟨rfl, rfl, _, _, _, _, _, rfl, rfl, hp'.out, hM2⟩
        · have h60' : ¬ (60 : Int) <= (i : Int) := by omega
          have hlight := light_at hya
          generalize (lightB 0 0 y.dl && decide ((y.pl.length : Int) <= 5000)) = lb at hlight
          cases lb with
          | false =>
            simp only [inV] at hf hlight
            clear hy hfull ho hp hya hb
            (repeat' (first | (simp -implicitDefEqProofs (maxSteps := 1000000) (disch := first | assumption | omega | (simp only [ZDI]; omega)) only [*,lenV,G27,Za,Zb,Zc,Zd,Ze,Zf,Zg,Zh,Zi,Zj,Zk,Zl,Zm,Zn,Zo,Ja,Jb,Jc,J3,Jd,Je,J4,J5,Jf,Jg,Jh,Ji,Jj,Jk,J6,Jl,Jm,wr,Jn,J7,J8,Jo,Jp,Jq,Jr,Js,Jt,Ju,Jv,Jw,Jx,Jy,Jz,J0,J1,J2,reduceCtorEq,J9,JA,JB,JC,JD,JE,JF,JG]) | ((with_reducible (first | apply Ok.br | apply Ok.gd | apply Ok.ld)) <;> (intro g; (try simp only [ZGS] at g); try (exfalso; omega)))))
            exact Turn.exit ⟨rfl, rfl, _, _, _, _, _, rfl, rfl, hp'.out, hM2⟩
          | true =>
            obtain ⟨h3, x', hput, hx', htab, hkc, hks⟩ := put_at hp.tab hya
            have hya3 : InAt h3 y := hya.keep hkc
            have hmay := rMayI_at hya3
            have hext3 : Ext h h3 := hp.ext.of_keeps hks fun j hj => by rw [List.mem_singleton.1 hj]; exact hp.new.2
            have hrow3 : InsAt h3 w M := hp.row.keep hkc
            have hLM : L.length = M.length := core_len hp.same
            cases hmb : mayB y with
            | false =>
              have hpe : putE L y = 1 := by unfold putE; rw [hmb]; rfl
              rw [hpe] at hput htab
              rw [if_neg (by decide)] at htab
              rw [hmb] at hmay
              have hp3 := Hid.mk (Played.mk hext3 htab hp.new hrow3 hp.same hp.may)
              simp only [inV] at hf hlight hput hmay
              clear hy hfull ho hp hya hb hya3 hext3 htab hrow3 hkc hks hx' hp' hpe
              (repeat' (first | (simp -implicitDefEqProofs (maxSteps := 1000000) (disch := first | assumption | omega | (simp only [ZDI]; omega)) only [*,lenV,G27,Za,Zb,Zc,Zd,Ze,Zf,Zg,Zh,Zi,Zj,Zk,Zl,Zm,Zn,Zo,Ja,Jb,Jc,J3,Jd,Je,J4,J5,Jf,Jg,Jh,Ji,Jj,Jk,J6,Jl,Jm,wr,Jn,J7,J8,Jo,Jp,Jq,Jr,Js,Jt,Ju,Jv,Jw,Jx,Jy,Jz,J0,J1,J2,reduceCtorEq,J9,JA,JB,JC,JD,JE,JF,JG]) | ((with_reducible (first | apply Ok.br | apply Ok.gd | apply Ok.ld)) <;> (intro g; (try simp only [ZGS] at g); try (exfalso; omega)))))
              exact Turn.next (l.length - (i + 1)) (by omega) ⟨rfl, i + 1, _, _, _, _, _, rfl, by omega, rfl, rfl, rfl, hp3.out, by omega, hM2⟩
            | true =>
              have hpe : putE L y = 0 := by unfold putE; rw [hmb, if_pos rfl, if_pos (.inr (by omega))]
              rw [hpe] at hput htab
              rw [if_pos rfl] at htab
              rw [hmb] at hmay
              obtain ⟨yy, hrp, w', l3, rfl, hrow4⟩ := rPut_at hrow3 (by omega) hya3
              have hp4 : Played h (h3 ++ l3) b N w' (putL L x') (putL M y) := by
                refine ⟨hext3.app l3, htab.keep (KeepC.app _ _) ?_, hp.new, hrow4, by rw [putL_core, putL_core, hp.same, hx'], fun x hx => ?_⟩
                · have : N < h3.length := by
                    obtain ⟨_, _, _, hmm, _⟩ := htab.map
                    exact (List.getElem?_eq_some_iff.1 hmm).1
                  rw [List.getElem?_append_left this]
                · rcases putL_mem hx with rfl | hx
                  · exact hmb
                  · exact hp.may x hx
              have hp5 := Hid.mk hp4
              have hlen := putL_len M y
              simp only [inV] at hf hlight hput hmay hrp
              clear hy hfull ho hp hya hb hya3 hext3 htab hrow3 hkc hks hx' hp' hpe hp4 hrow4
              (repeat' (first | (simp -implicitDefEqProofs (maxSteps := 1000000) (disch := first | assumption | omega | (simp only [ZDI]; omega)) only [*,lenV,G27,Za,Zb,Zc,Zd,Ze,Zf,Zg,Zh,Zi,Zj,Zk,Zl,Zm,Zn,Zo,Ja,Jb,Jc,J3,Jd,Je,J4,J5,Jf,Jg,Jh,Ji,Jj,Jk,J6,Jl,Jm,wr,Jn,J7,J8,Jo,Jp,Jq,Jr,Js,Jt,Ju,Jv,Jw,Jx,Jy,Jz,J0,J1,J2,reduceCtorEq,J9,JA,JB,JC,JD,JE,JF,JG]) | ((with_reducible (first | apply Ok.br | apply Ok.gd | apply Ok.ld)) <;> (intro g; (try simp only [ZGS] at g); try (exfalso; omega)))))
              exact Turn.next (l.length - (i + 1)) (by omega) ⟨rfl, i + 1, _, _, _, _, _, rfl, by omega, rfl, rfl, rfl, hp5.out, by omega, by omega⟩
    · have hlt' : ¬ (i : Int) < (l.length : Int) := by omega
      clear hp
      (repeat' (first | (simp -implicitDefEqProofs (maxSteps := 1000000) (disch := first | assumption | omega | (simp only [ZDI]; omega)) only [*,lenV,G27,Za,Zb,Zc,Zd,Ze,Zf,Zg,Zh,Zi,Zj,Zk,Zl,Zm,Zn,Zo,Ja,Jb,Jc,J3,Jd,Je,J4,J5,Jf,Jg,Jh,Ji,Jj,Jk,J6,Jl,Jm,wr,Jn,J7,J8,Jo,Jp,Jq,Jr,Js,Jt,Ju,Jv,Jw,Jx,Jy,Jz,J0,J1,J2,reduceCtorEq,J9,JA,JB,JC,JD,JE,JF,JG]) | ((with_reducible (first | apply Ok.br | apply Ok.gd | apply Ok.ld)) <;> (intro g; (try simp only [ZGS] at g); try (exfalso; omega)))))
      exact Turn.exit ⟨rfl, rfl, _, _, _, _, _, rfl, rfl, hp'.out, hM2⟩
  · intro y ⟨e', l', g⟩ hW ⟨hy, w1, q1, w, L, M, h6, k2, hp, hM2⟩
    dsimp only at hW h6 k2 hp
    subst l' hy
    rw [hW.spread]
    clear hW
    simp only [spread_t,spread_f,spread_n,Nat.zero_add,Nat.reduceAdd,h6]
    have hlen := len_at hp.tab
    rw [core_len hp.same] at hlen
    obtain ⟨a5, cap5, z5, rfl⟩ := hp.row.sl
    have hp' := Hid.mk hp
    clear hp
    (repeat' (first | (simp -implicitDefEqProofs (maxSteps := 1000000) (disch := first | assumption | omega | (simp only [ZDI]; omega)) only [*,lenV,eq_self,G27,Za,Zb,Zc,Zd,Ze,Zf,Zg,Zh,Zi,Zj,Zk,Zl,Zm,Zn,Zo,Ja,Jb,Jc,J3,Jd,Je,J4,J5,Jf,Jg,Jh,Ji,Jj,Jk,J6,Jl,Jm,wr,Jn,J7,J8,Jo,Jp,Jq,Jr,Js,Jt,Ju,Jv,Jw,Jx,Jy,Jz,J0,J1,J2,reduceCtorEq,J9,JA,JB,JC,JD,JE,JF,JG]) | ((with_reducible (first | apply Ok.br | apply Ok.gd | apply Ok.ld)) <;> (intro g; (try simp only [ZGS] at g); try (exfalso; omega)))))
    exact hQ'.out _ ⟨_, _, _, _, _, _, rfl, hp'.out, hM2⟩
end Go.Ev
set_option maxRecDepth 100000
namespace Go.Ev
open Go.Ev renaming exPure -> Ja, ofValue -> Jb, cellsV -> Jc, load -> Jd, store -> Je, binOp -> Jf, intOp -> Jg, rdV -> Jh, vsame -> Ji, vsames -> Jj, makeSliceV -> Jk, resV -> Jl, isCell -> Jm, nilCheckV -> Jn, allV -> Jo, builtinV -> Jp, lenV -> Jq, indexAddrV -> Jr, unOp -> Js, minmaxV -> Jt, minmax -> Ju, sliceV -> Jv, asInt -> Jw, appendV -> Jx, copyV -> Jy, clearV -> Jz, convV -> J0, sliceCells -> J1, shift -> J2
open Bool renaming true -> BT, false -> BF
open Nat renaming reduceEqDiff -> J3, reduceLT -> J4, reduceAdd -> J5, reduceBEq -> J6, reduceSub -> J7, reduceMul -> J8, reduceLeDiff -> JG
open Int renaming reduceLT -> J9, reduceLE -> JA, reduceAdd -> JB, reduceSub -> JC, reduceNeg -> JD, reduceToNat -> JE, reduceEq -> JF
open Go.Proofs
def mxS (lead : Int) (a : Int) (k : RP) : Int := if k.1 = lead then (if a < k.2 then k.2 else a) else a
def mxR (lead : Int) (ks : List RP) : Int := ks.foldl (mxS lead) 0
theorem mxS_fold (lead : Int) : ∀ (ks : List RP) (a : Int), (a <= ks.foldl (mxS lead) a) /\ (∀ k ∈ ks, k.1 = lead -> k.2 <= ks.foldl (mxS lead) a) /\ (ks.foldl (mxS lead) a = a \/ ∃ k ∈ ks, k.1 = lead /\ k.2 = ks.foldl (mxS lead) a)
  | [], a => ⟨Int.le_refl _, fun k hk => (nomatch hk), .inl rfl⟩
  | x :: ks, a => by
    obtain ⟨h1, h2, h3⟩ := mxS_fold lead ks (mxS lead a x)
    have hs : a <= mxS lead a x /\ (x.1 = lead -> x.2 <= mxS lead a x) /\ (mxS lead a x = a \/ (x.1 = lead /\ mxS lead a x = x.2)) := by
      unfold mxS
      by_cases he : x.1 = lead
      · rw [if_pos he]
        by_cases hl : a < x.2
        · rw [if_pos hl]; exact ⟨by omega, fun _ => Int.le_refl _, .inr ⟨he, rfl⟩⟩
        · rw [if_neg hl]; exact ⟨Int.le_refl _, fun _ => by omega, .inl rfl⟩
      · rw [if_neg he]; exact ⟨Int.le_refl _, fun h => absurd h he, .inl rfl⟩
    rw [List.foldl_cons]
    refine ⟨by omega, fun k hk hl => ?_, ?_⟩
    · rcases List.mem_cons.1 hk with rfl | hk
      · have := hs.2.1 hl; omega
      · exact h2 k hk hl
    · rcases h3 with h3 | ⟨k, hk, hl, he⟩
      · rw [h3]
        rcases hs.2.2 with h4 | ⟨h4, h5⟩
        · exact .inl h4
        · exact .inr ⟨x, by simp, h4, h5.symm⟩
      · exact .inr ⟨k, by simp [hk], hl, he⟩
theorem mxR_eq {lead : Int} {p q : List RP} (h : ∀ x, x ∈ p ↔ x ∈ q) : mxR lead p = mxR lead q := by
  obtain ⟨a1, a2, a3⟩ := mxS_fold lead p 0
  obtain ⟨b1, b2, b3⟩ := mxS_fold lead q 0
  unfold mxR
  have h1 : p.foldl (mxS lead) 0 <= q.foldl (mxS lead) 0 := by
    rcases a3 with e | ⟨k, hk, hl, e⟩
    · omega
    · have := b2 k ((h k).1 hk) hl; omega
  have h2 : q.foldl (mxS lead) 0 <= p.foldl (mxS lead) 0 := by
    rcases b3 with e | ⟨k, hk, hl, e⟩
    · omega
    · have := a2 k ((h k).2 hk) hl; omega
  omega
theorem mxR_le {lead : Int} {p : List RP} {B : Int} (h0 : 0 <= B) (h : ∀ k ∈ p, k.2 <= B) : 0 <= mxR lead p /\ mxR lead p <= B := by
  obtain ⟨a1, a2, a3⟩ := mxS_fold lead p 0
  unfold mxR
  refine ⟨a1, ?_⟩
  rcases a3 with e | ⟨k, hk, hl, e⟩
  · omega
  · have := h k hk; omega
theorem mxR_snoc {lead : Int} {l : List RP} {i : Nat} {x : RP} (hx : l[i]? = some x) : mxR lead (l.take (i + 1)) = mxS lead (mxR lead (l.take i)) x := by
  unfold mxR
  rw [List.take_add_one, hx, List.foldl_append]; rfl
set_option maxHeartbeats 4000000 in
theorem next_at {h : Heap} {b m : Nat} {L : List In} (ht : TabAt h b m L) (hl : L.length <= 5000) (hb : ∀ k ∈ L.map In.key, k.2 <= 1073741824) (lead : Int) :
    Ev.Ok (D X (.fn 22 []) [.ptr b 0 0, .int .i64 lead] h) fun y => ∃ l, y = (.int .i64 (mxR lead (L.map In.key) + 1), h ++ l) := by
  refine Ok.aim fun Q hQ => ?_
  obtain ⟨v, l, hrefs, hrow⟩ := refs_at ht hl
  have hmem : ∀ x, x ∈ addsR [] (L.map In.key) ↔ x ∈ L.map In.key := fun x => by rw [addsR_mem]; simp
  have hQ2 : Q (.int .i64 (mxR lead (addsR [] (L.map In.key)) + 1), h ++ l) := by
    rw [mxR_eq hmem]; exact hQ _ ⟨l, rfl⟩
  have hbb : ∀ k ∈ addsR [] (L.map In.key), k.2 <= 1073741824 := fun k hk => hb k ((hmem k).1 hk)
  clear hQ hb ht hl hmem
  generalize addsR [] (L.map In.key) = r at hrow hQ2 hbb
  have hQ' := Hid.mk hQ2
  clear hQ2
  obtain ⟨a, cap, z, rfl, h1, h1', h2⟩ := hrow
  generalize h ++ l = H at hrefs h2 hQ'
  have hb' : ∀ i, 0 <= mxR lead (r.take i) /\ mxR lead (r.take i) <= 1073741824 := fun i => mxR_le (by decide) fun k hk => hbb k (List.mem_of_mem_take hk)
  have hb2 := Hid.mk hb'
  clear hbb hb'
  (refine Ok.body body22 pin22 ?_; simp only [c22,Try.f22,Option.getD_some,nslot22,List.append_nil,List.map,List.replicate,List.length_cons,List.length_nil,Nat.reduceAdd,Nat.reduceSub,List.cons_append,List.nil_append])
  (repeat' (first | (simp -implicitDefEqProofs (maxSteps := 1000000) (disch := first | assumption | omega | (simp only [ZDI]; omega)) only [*,lenV,G22,Za,Zb,Zc,Zd,Ze,Zf,Zg,Zh,Zi,Zj,Zk,Zl,Zm,Zn,Zo,Ja,Jb,Jc,J3,Jd,Je,J4,J5,Jf,Jg,Jh,Ji,Jj,Jk,J6,Jl,Jm,wr,Jn,J7,J8,Jo,Jp,Jq,Jr,Js,Jt,Ju,Jv,Jw,Jx,Jy,Jz,J0,J1,J2,reduceCtorEq,J9,JA,JB,JC,JD,JE,JF,JG]) | ((with_reducible (first | apply Ok.br | apply Ok.gd | apply Ok.ld)) <;> (intro g; (try simp only [ZGS] at g); try (exfalso; omega)))))
  clear hrefs
  refine Ok.loop [BF, BF, BF, BF, BF, BT, BF, BT, BF, BF, BF, BT, BT, BT, BT, BT, BT, BT, BT, BT, BT, BT, BT, BT, BF, BF] (fun n s2 => ∃ (i w1 : Nat) (q1 : List V), n = r.length - i /\ i <= r.length /\ tv s2.e 11 = .v (.int .i64 i) /\ tv s2.e 5 = .v (.int .i64 (mxR lead (r.take i))) /\ s2.l = [(w1, q1)] /\ s2.h = H)
    (fun y s2 => y = .exit 0 /\ (∃ (w1 : Nat) (q1 : List V), s2.l = [(w1, q1)]) /\ s2.h = H /\ tv s2.e 5 = .v (.int .i64 (mxR lead r))) (r.length - 0) ⟨0, 0, [], rfl, Nat.zero_le _, rfl, rfl, rfl, rfl⟩ ?_ ?_
  · intro n ⟨e', l', H'⟩ hW ⟨i, w1, q1, hm, hi, h9, h5, k2, k3⟩
    dsimp only at hW h9 h5 k2 k3
    subst l' H'
    rw [hW.spread]
    simp only [spread_t,spread_f,spread_n,Nat.zero_add,Nat.reduceAdd,h9,h5]
    clear hW hQ'
    by_cases hlt : i < r.length
    · have hlt' : (i : Int) < (r.length : Int) := by omega
      have g1 : 0 <= (i : Int) /\ (i : Int) < (r.length : Int) := by omega
      rcases h2 with rfl | ⟨bb, q, o, rw, full, rfl, hbc, hfull, ho⟩
      · simp at hlt
      · obtain ⟨⟨y1, y2⟩, hy⟩ : ∃ y, r[i]? = some y := ⟨_, List.getElem?_eq_getElem hlt⟩
        have hf := hfull i _ hy
        dsimp only at hf
        have ho2 : o + i * 2 + 2 <= full.length := by omega
        have hs := Hid.mk (mxR_snoc (lead := lead) hy)
        clear hy hfull ho
        generalize mxR lead (r.take i) = n0 at hs ⊢
        cases hd1 : decide (y1 = lead) with
        | true =>
          have he := of_decide_eq_true hd1
          by_cases hl2 : n0 < y2
          · have hs2 : mxS lead n0 (y1, y2) = y2 := by unfold mxS; rw [if_pos he, if_pos hl2]
            have hs3 := Hid.mk (hs.out.trans hs2)
            clear hs2 hs he
            (repeat' (first | (simp -implicitDefEqProofs (maxSteps := 1000000) (disch := first | assumption | omega | (simp only [ZDI]; omega)) only [*,lenV,minmaxV,minmax,itT,if_true,G22,Za,Zb,Zc,Zd,Ze,Zf,Zg,Zh,Zi,Zj,Zk,Zl,Zm,Zn,Zo,Ja,Jb,Jc,J3,Jd,Je,J4,J5,Jf,Jg,Jh,Ji,Jj,Jk,J6,Jl,Jm,wr,Jn,J7,J8,Jo,Jp,Jq,Jr,Js,Jt,Ju,Jv,Jw,Jx,Jy,Jz,J0,J1,J2,reduceCtorEq,J9,JA,JB,JC,JD,JE,JF,JG]) | ((with_reducible (first | apply Ok.br | apply Ok.gd | apply Ok.ld)) <;> (intro g; (try simp only [ZGS] at g); try (exfalso; omega)))))
            exact Turn.next (r.length - (i + 1)) (by omega) ⟨rfl, i + 1, _, _, rfl, by omega, rfl, by rw [hs3.out]; rfl, rfl, rfl⟩
          · have hs2 : mxS lead n0 (y1, y2) = n0 := by unfold mxS; rw [if_pos he, if_neg hl2]
            have hs3 := Hid.mk (hs.out.trans hs2)
            clear hs2 hs he
            (repeat' (first | (simp -implicitDefEqProofs (maxSteps := 1000000) (disch := first | assumption | omega | (simp only [ZDI]; omega)) only [*,lenV,minmaxV,minmax,itF,if_false,G22,Za,Zb,Zc,Zd,Ze,Zf,Zg,Zh,Zi,Zj,Zk,Zl,Zm,Zn,Zo,Ja,Jb,Jc,J3,Jd,Je,J4,J5,Jf,Jg,Jh,Ji,Jj,Jk,J6,Jl,Jm,wr,Jn,J7,J8,Jo,Jp,Jq,Jr,Js,Jt,Ju,Jv,Jw,Jx,Jy,Jz,J0,J1,J2,reduceCtorEq,J9,JA,JB,JC,JD,JE,JF,JG]) | ((with_reducible (first | apply Ok.br | apply Ok.gd | apply Ok.ld)) <;> (intro g; (try simp only [ZGS] at g); try (exfalso; omega)))))
            exact Turn.next (r.length - (i + 1)) (by omega) ⟨rfl, i + 1, _, _, rfl, by omega, rfl, by rw [hs3.out]; rfl, rfl, rfl⟩
        | false =>
          have he := of_decide_eq_false hd1
          have hs2 : mxS lead n0 (y1, y2) = n0 := by unfold mxS; rw [if_neg he]
          have hs3 := Hid.mk (hs.out.trans hs2)
          clear hs2 hs he
          (repeat' (first | (simp -implicitDefEqProofs (maxSteps := 1000000) (disch := first | assumption | omega | (simp only [ZDI]; omega)) only [*,lenV,G22,Za,Zb,Zc,Zd,Ze,Zf,Zg,Zh,Zi,Zj,Zk,Zl,Zm,Zn,Zo,Ja,Jb,Jc,J3,Jd,Je,J4,J5,Jf,Jg,Jh,Ji,Jj,Jk,J6,Jl,Jm,wr,Jn,J7,J8,Jo,Jp,Jq,Jr,Js,Jt,Ju,Jv,Jw,Jx,Jy,Jz,J0,J1,J2,reduceCtorEq,J9,JA,JB,JC,JD,JE,JF,JG]) | ((with_reducible (first | apply Ok.br | apply Ok.gd | apply Ok.ld)) <;> (intro g; (try simp only [ZGS] at g); try (exfalso; omega)))))
          exact Turn.next (r.length - (i + 1)) (by omega) ⟨rfl, i + 1, _, _, rfl, by omega, rfl, by rw [hs3.out]; rfl, rfl, rfl⟩
    · have hlt' : ¬ (i : Int) < (r.length : Int) := by omega
      rw [List.take_of_length_le (by omega)]
      (repeat' (first | (simp -implicitDefEqProofs (maxSteps := 1000000) (disch := first | assumption | omega | (simp only [ZDI]; omega)) only [*,lenV,G22,Za,Zb,Zc,Zd,Ze,Zf,Zg,Zh,Zi,Zj,Zk,Zl,Zm,Zn,Zo,Ja,Jb,Jc,J3,Jd,Je,J4,J5,Jf,Jg,Jh,Ji,Jj,Jk,J6,Jl,Jm,wr,Jn,J7,J8,Jo,Jp,Jq,Jr,Js,Jt,Ju,Jv,Jw,Jx,Jy,Jz,J0,J1,J2,reduceCtorEq,J9,JA,JB,JC,JD,JE,JF,JG]) | ((with_reducible (first | apply Ok.br | apply Ok.gd | apply Ok.ld)) <;> (intro g; (try simp only [ZGS] at g); try (exfalso; omega)))))
      exact Turn.exit ⟨rfl, rfl, ⟨_, _, rfl⟩, rfl, rfl⟩
  · intro y ⟨e', l', H'⟩ hW ⟨hy, ⟨w1, q1, k2⟩, k3, h5⟩
    dsimp only at hW h5 k2 k3
    subst l' hy H'
    rw [hW.spread]
    clear hW
    simp only [spread_t,spread_f,spread_n,Nat.zero_add,Nat.reduceAdd,h5]
    have hbd := hb2.out r.length
    rw [List.take_of_length_le (Nat.le_refl _)] at hbd
    (repeat' (first | (simp -implicitDefEqProofs (maxSteps := 1000000) (disch := first | assumption | omega | (simp only [ZDI]; omega)) only [*,G22,Za,Zb,Zc,Zd,Ze,Zf,Zg,Zh,Zi,Zj,Zk,Zl,Zm,Zn,Zo,Ja,Jb,Jc,J3,Jd,Je,J4,J5,Jf,Jg,Jh,Ji,Jj,Jk,J6,Jl,Jm,wr,Jn,J7,J8,Jo,Jp,Jq,Jr,Js,Jt,Ju,Jv,Jw,Jx,Jy,Jz,J0,J1,J2,reduceCtorEq,J9,JA,JB,JC,JD,JE,JF,JG]) | ((with_reducible (first | apply Ok.br | apply Ok.gd | apply Ok.ld)) <;> (intro g; (try simp only [ZGS] at g); try (exfalso; omega)))))
    exact hQ'.out
end Go.Ev
set_option maxRecDepth 100000
namespace Go.Ev
open Go.Ev renaming exPure -> Ja, ofValue -> Jb, cellsV -> Jc, load -> Jd, store -> Je, binOp -> Jf, intOp -> Jg, rdV -> Jh, vsame -> Ji, vsames -> Jj, makeSliceV -> Jk, resV -> Jl, isCell -> Jm, nilCheckV -> Jn, allV -> Jo, builtinV -> Jp, lenV -> Jq, indexAddrV -> Jr, unOp -> Js, minmaxV -> Jt, minmax -> Ju, sliceV -> Jv, asInt -> Jw, appendV -> Jx, copyV -> Jy, clearV -> Jz, convV -> J0, sliceCells -> J1, shift -> J2
open Bool renaming true -> BT, false -> BF
open Nat renaming reduceEqDiff -> J3, reduceLT -> J4, reduceAdd -> J5, reduceBEq -> J6, reduceSub -> J7, reduceMul -> J8, reduceLeDiff -> JG
open Int renaming reduceLT -> J9, reduceLE -> JA, reduceAdd -> JB, reduceSub -> JC, reduceNeg -> JD, reduceToNat -> JE, reduceEq -> JF
open Go.Proofs
def mtB (o c f t : Int) (self : RP) (x : In) : Bool := decide (1 <= x.st) && !(decide (x.l = self.1) && decide (x.i = self.2)) && decide (meddleP o c f t x.o x.c x.f x.t)
structure OrdRec (r : LoopR) : Prop where
  state : r.state = 0
  pending : r.pending = none
  fn : r.fn = 23
  params : r.params = [13]
  code : (rangesOf c23)[0]? = some (r.assign, r.body)
  lent : r.lent = false
  len : r.e.length = 41
  t4 : tv r.e 4 = .lp 0 1 0
  t5 : tv r.e 5 = .lp 1 1 0
  t8 : tv r.e 8 = .lp 2 1 0
  t9 : tv r.e 9 = .lp 3 1 0
theorem GroR.keeps {h g g' : Heap} {w : V} {l : List RP} {F : List Nat} (hG : Gro h g w l) (k : Keeps F g g') (hF : ∀ i ∈ F, i < h.length) : Gro h g' w l := by
  rcases hG with ⟨h1, h2⟩ | ⟨b, q, h1, h2, h3⟩
  · exact .inl ⟨h1, h2⟩
  · exact .inr ⟨b, q, h1, h2, k.cells h3 fun hm => by have := hF b hm; omega⟩
end Go.Ev
set_option maxRecDepth 100000
namespace Go.Ev
open Go.Ev renaming exPure -> Ja, ofValue -> Jb, cellsV -> Jc, load -> Jd, store -> Je, binOp -> Jf, intOp -> Jg, rdV -> Jh, vsame -> Ji, vsames -> Jj, makeSliceV -> Jk, resV -> Jl, isCell -> Jm, nilCheckV -> Jn, allV -> Jo, builtinV -> Jp, lenV -> Jq, indexAddrV -> Jr, unOp -> Js, minmaxV -> Jt, minmax -> Ju, sliceV -> Jv, asInt -> Jw, appendV -> Jx, copyV -> Jy, clearV -> Jz, convV -> J0, sliceCells -> J1, shift -> J2
open Bool renaming true -> BT, false -> BF
open Nat renaming reduceEqDiff -> J3, reduceLT -> J4, reduceAdd -> J5, reduceBEq -> J6, reduceSub -> J7, reduceMul -> J8, reduceLeDiff -> JG
open Int renaming reduceLT -> J9, reduceLE -> JA, reduceAdd -> JB, reduceSub -> JC, reduceNeg -> JD, reduceToNat -> JE, reduceEq -> JF
open Go.Proofs
def ordS (o c f t : Int) (self : RP) (S : List In) : List In := S.filter (mtB o c f t self)
def ordQ (o c f t : Int) (self : RP) (S : List In) : Int := mxR 1 ((ordS o c f t self S).map fun x => ((1 : Int), x.sq))
def ordK (o c f t : Int) (self : RP) (S : List In) : List RP := (ordS o c f t self S).map In.key
structure OrdI (o c q f t : Int) (v : V) (sf : RP) (lp : Nat) (r : LoopR) (H1 : Heap) (S : List In) (k : Nat) (H : Heap) : Prop where
  len : H1.length <= H.length
  old : ∀ i, i < H1.length -> i ≠ lp -> H[i]? = H1[i]?
  lp1 : loopAt H1 lp = some r
  all : ∃ dv x4 x5, loopAt H lp = some { r with l := [(1, [.int .i64 o, .int .i64 c, .int .i64 q, .int .i64 f, .int .i64 t, v]), (1, [.int .i64 sf.1, .int .i64 sf.2]), (1, [.int .i64 (ordQ o c f t sf (S.take k))]), (1, [dv]), x4, x5] } /\ Gro H1 H dv (ordK o c f t sf (S.take k))
theorem OrdI.keep {o c q f t : Int} {v : V} {self : RP} {lp : Nat} {r : LoopR} {H1 H : Heap} {S : List In} {k : Nat} (h : OrdI o c q f t v self lp r H1 S k H) : KeepC H1 H := by
  refine ⟨h.len, fun i g p hc => ?_⟩
  have hi := hcells_lt hc
  have hne : i ≠ lp := by
    rintro rfl
    have := loopAt_get h.lp1
    unfold hcells at hc
    rw [this] at hc; cases hc
  unfold hcells at hc ⊢
  rw [h.old i hi hne]; exact hc
theorem eachF_at (b : Nat) (h : Heap) : D X (.fn 31 []) [.ptr b 0 0] h = some (.fn 59 [.ptr h.length 0 0], h ++ [.cells 0 true [.ptr b 0 0]]) := by
  refine Ok.eq ?_
  (refine Ok.body body31 pin31 ?_; simp only [c31,Try.f31,Option.getD_some,nslot31,List.append_nil,List.map,List.replicate,List.length_cons,List.length_nil,Nat.reduceAdd,Nat.reduceSub,List.cons_append,List.nil_append])
  (repeat' (first | (simp -implicitDefEqProofs (maxSteps := 1000000) (disch := first | assumption | omega | (simp only [ZDI]; omega)) only [*,G31,Za,Zb,Zc,Zd,Ze,Zf,Zg,Zh,Zi,Zj,Zk,Zl,Zm,Zn,Zo,Ja,Jb,Jc,J3,Jd,Je,J4,J5,Jf,Jg,Jh,Ji,Jj,Jk,J6,Jl,Jm,wr,Jn,J7,J8,Jo,Jp,Jq,Jr,Js,Jt,Ju,Jv,Jw,Jx,Jy,Jz,J0,J1,J2,reduceCtorEq,J9,JA,JB,JC,JD,JE,JF,JG]) | ((with_reducible (first | apply Ok.br | apply Ok.gd | apply Ok.ld)) <;> (intro g; (try simp only [ZGS] at g); try (exfalso; omega)))))
end Go.Ev
set_option maxRecDepth 100000
namespace Go.Ev
open Go.Ev renaming exPure -> Ja, ofValue -> Jb, cellsV -> Jc, load -> Jd, store -> Je, binOp -> Jf, intOp -> Jg, rdV -> Jh, vsame -> Ji, vsames -> Jj, makeSliceV -> Jk, resV -> Jl, isCell -> Jm, nilCheckV -> Jn, allV -> Jo, builtinV -> Jp, lenV -> Jq, indexAddrV -> Jr, unOp -> Js, minmaxV -> Jt, minmax -> Ju, sliceV -> Jv, asInt -> Jw, appendV -> Jx, copyV -> Jy, clearV -> Jz, convV -> J0, sliceCells -> J1, shift -> J2
open Bool renaming true -> BT, false -> BF
open Nat renaming reduceEqDiff -> J3, reduceLT -> J4, reduceAdd -> J5, reduceBEq -> J6, reduceSub -> J7, reduceMul -> J8, reduceLeDiff -> JG
open Int renaming reduceLT -> J9, reduceLE -> JA, reduceAdd -> JB, reduceSub -> JC, reduceNeg -> JD, reduceToNat -> JE, reduceEq -> JF
open Go.Proofs
theorem key_inj : ∀ {L : List In}, (L.map In.key).Nodup -> ∀ x ∈ L, ∀ y ∈ L, x.key = y.key -> x = y
  | [], _, x, hx, _, _, _ => nomatch hx
  | z :: L, h, x, hx, y, hy, e => by
    rw [List.map_cons, List.nodup_cons] at h
    rcases List.mem_cons.1 hx with hx1 | hx <;> rcases List.mem_cons.1 hy with hy1 | hy
    · rw [hx1, hy1]
    · exact absurd (List.mem_map.2 ⟨y, hy, by rw [<- e, hx1]⟩) h.1
    · exact absurd (List.mem_map.2 ⟨x, hx, by rw [e, hy1]⟩) h.1
    · exact key_inj h.2 x hx y hy e
theorem findL_of {M : List In} {k : RP} (hk : k ∈ M.map In.key) : ∃ (i : Nat) (y : In), findL M k = (i : Int) /\ M[i]? = some y /\ y.key = k := by
  unfold findL
  cases h : M.findIdx? (fun y => decide (y.key = k)) with
  | none =>
    obtain ⟨y, hy, e⟩ := List.mem_map.1 hk
    have := List.findIdx?_eq_none_iff.1 h y hy
    simp [e] at this
  | some i =>
    obtain ⟨hi, h1, _⟩ := List.findIdx?_eq_some_iff_getElem.1 h
    exact ⟨i, M[i], rfl, by rw [List.getElem?_eq_getElem hi], of_decide_eq_true h1⟩
theorem KeepC.setLoop {H : Heap} {lp : Nat} {r : LoopR} (h : loopAt H lp = some r) (x : Blk) : KeepC H (H.set lp x) := by
  refine ⟨by simp, fun i g p hc => ?_⟩
  rw [hcells_set_ne]
  · exact hc
  · rintro rfl
    have := loopAt_get h
    unfold hcells at hc
    rw [this] at hc; cases hc
structure PutsRec (r : LoopR) : Prop where
  state : r.state = 0
  pending : r.pending = none
  fn : r.fn = 8
  params : r.params = [30]
  code : (rangesOf c8)[0]? = some (r.assign, r.body)
  lent : r.lent = false
  len : r.e.length = 103
  t4 : tv r.e 4 = .lp 1 1 0
  t6 : tv r.e 6 = .lp 2 1 0
  t8 : tv r.e 8 = .lp 3 1 0
  t9 : tv r.e 9 = .lp 4 1 0
set_option maxHeartbeats 8000000 in
theorem puts_round {H : Heap} {lp : Nat} {r : LoopR} (hL : loopAt H lp = some r) (hr : PutsRec r) {v : V} {M : List In} {seen a b : Int} {x3 x4 x11 x13 : Nat × List V}
    (hl : r.l = [x3, x4, (1, [v]), (1, [.int .i64 seen]), (1, [.int .i64 a, .int .i64 b]), x11, x13]) (hM : InsAt H v M) {x y : In} {i : Nat} (hfi : findL M x.key = (i : Int)) (hyi : M[i]? = some y) (hyx : y.core = x.core) (hxa : InAt H x)
    (hseen : 0 <= seen /\ seen <= 5000) (hlt : seen = 0 \/ ltR (a, b) x.key = true) :
    Ev.Ok (D X (.yld lp) [.agg (inV x)] H) fun z => ∃ x11', z = (.bool true, H.set lp (.loop { r with l := [x3, x4, (1, [v]), (1, [.int .i64 (seen + 1)]), (1, [.int .i64 x.l, .int .i64 x.i]), x11', x13] })) := by
  refine Ok.aim fun Q hQ => ?_
  have hya : InAt H y := by
    obtain ⟨_, _, _, _, _, h3, _⟩ := hM
    exact h3 y (List.mem_of_getElem? hyi)
  have hfind := fun z => find_at (hM.keep (KeepC.setLoop hL z)) x.key
  rw [hfi] at hfind
  have hsm := fun z => rSame_at (hya.keep (KeepC.setLoop hL z)) (hxa.keep (KeepC.setLoop hL z))
  rw [smB_iff.2 hyx] at hsm
  have hLl := loopAt_lt hL
  have hless := less06_at (a, b) x.key
  have hilt := (List.getElem?_eq_some_iff.1 hyi).1
  obtain ⟨va, vc, vz, rfl, hv1, _, hv2⟩ := hM
  obtain ⟨bb, qq, oo, rw, full, rfl, hbc, hf, ho2⟩ : ∃ b g o rw full, va = .at b g o /\ hcells H b g = some (rw, full) /\ (full.drop (o + i * 16)).take 16 = inV y /\ o + i * 16 + 16 <= full.length := by
    rcases hv2 with rfl | ⟨bb, qq, oo, rw, full, rfl, hbc, hfull, ho⟩
    · simp at hilt
    · exact ⟨bb, qq, oo, rw, full, rfl, hbc, hfull i y hyi, by omega⟩
  have g1 : 0 <= (i : Int) /\ (i : Int) < (M.length : Int) := by omega
  have g2 : ¬ (i : Int) < 0 := by omega
  have hbl : bb ≠ lp := by
    rintro rfl
    have := loopAt_get hL
    unfold hcells at hbc
    rw [this] at hbc; cases hbc
  obtain ⟨st, pe, fn, e, l, ps, asg, bd, le⟩ := r
  obtain ⟨k1, k2, k3, k4, k5, k6, k7, k8, k9, k10, k11⟩ := hr
  dsimp only at k1 k2 k3 k4 k5 k6 k7 k8 k9 k10 k11 hl
  subst k1 k2 k3 k4 k6 hl
  have hQ' := Hid.mk hQ
  clear hQ hfi hyi hyx hxa hya hilt hv2
  simp only [c8,Try.f8,Option.getD_some,rangesOf,List.nil_append,List.append_nil,List.cons_append,List.getElem?_cons_zero,List.getElem?_cons_succ,Option.some.injEq,Prod.mk.injEq] at k5
  obtain ⟨rfl, rfl⟩ := k5
  have he := congrArg (fun e => setArgs e [30] [.agg (inV x)]) (expand' k7)
  simp only [List.replicate,spread_t,spread_f,spread_n,Nat.zero_add,Nat.reduceAdd,setArgs,List.set_cons_zero,List.set_cons_succ,k8,k9,k10,k11] at he
  refine Ok.round hL rfl rfl ?_
  simp only [setArgs]
  rw [he]
  clear he
  simp only [inV,In.key] at *
  rcases hlt with rfl | hlt
  · clear hless
    (repeat' (first | (simp -implicitDefEqProofs (maxSteps := 1000000) (disch := first | assumption | omega | (simp only [ZDI]; omega)) only [*,lenV,G8,Za,Zb,Zc,Zd,Ze,Zf,Zg,Zh,Zi,Zj,Zk,Zl,Zm,Zn,Zo,Ja,Jb,Jc,J3,Jd,Je,J4,J5,Jf,Jg,Jh,Ji,Jj,Jk,J6,Jl,Jm,wr,Jn,J7,J8,Jo,Jp,Jq,Jr,Js,Jt,Ju,Jv,Jw,Jx,Jy,Jz,J0,J1,J2,reduceCtorEq,J9,JA,JB,JC,JD,JE,JF,JG]) | ((with_reducible (first | apply Ok.br | apply Ok.gd | apply Ok.ld)) <;> (intro g; (try simp only [ZGS] at g); try (exfalso; omega)))))
    exact hQ'.out _ ⟨_, rfl⟩
  · rw [hlt] at hless
    cases h0 : decide (0 < seen) with
    | false =>
      (repeat' (first | (simp -implicitDefEqProofs (maxSteps := 1000000) (disch := first | assumption | omega | (simp only [ZDI]; omega)) only [*,lenV,G8,Za,Zb,Zc,Zd,Ze,Zf,Zg,Zh,Zi,Zj,Zk,Zl,Zm,Zn,Zo,Ja,Jb,Jc,J3,Jd,Je,J4,J5,Jf,Jg,Jh,Ji,Jj,Jk,J6,Jl,Jm,wr,Jn,J7,J8,Jo,Jp,Jq,Jr,Js,Jt,Ju,Jv,Jw,Jx,Jy,Jz,J0,J1,J2,reduceCtorEq,J9,JA,JB,JC,JD,JE,JF,JG]) | ((with_reducible (first | apply Ok.br | apply Ok.gd | apply Ok.ld)) <;> (intro g; (try simp only [ZGS] at g); try (exfalso; omega)))))
      exact hQ'.out _ ⟨_, rfl⟩
    | true =>
      (repeat' (first | (simp -implicitDefEqProofs (maxSteps := 1000000) (disch := first | assumption | omega | (simp only [ZDI]; omega)) only [*,lenV,G8,Za,Zb,Zc,Zd,Ze,Zf,Zg,Zh,Zi,Zj,Zk,Zl,Zm,Zn,Zo,Ja,Jb,Jc,J3,Jd,Je,J4,J5,Jf,Jg,Jh,Ji,Jj,Jk,J6,Jl,Jm,wr,Jn,J7,J8,Jo,Jp,Jq,Jr,Js,Jt,Ju,Jv,Jw,Jx,Jy,Jz,J0,J1,J2,reduceCtorEq,J9,JA,JB,JC,JD,JE,JF,JG]) | ((with_reducible (first | apply Ok.br | apply Ok.gd | apply Ok.ld)) <;> (intro g; (try simp only [ZGS] at g); try (exfalso; omega)))))
      exact hQ'.out _ ⟨_, rfl⟩
end Go.Ev
set_option maxRecDepth 100000
namespace Go.Ev
open Go.Ev renaming exPure -> Ja, ofValue -> Jb, cellsV -> Jc, load -> Jd, store -> Je, binOp -> Jf, intOp -> Jg, rdV -> Jh, vsame -> Ji, vsames -> Jj, makeSliceV -> Jk, resV -> Jl, isCell -> Jm, nilCheckV -> Jn, allV -> Jo, builtinV -> Jp, lenV -> Jq, indexAddrV -> Jr, unOp -> Js, minmaxV -> Jt, minmax -> Ju, sliceV -> Jv, asInt -> Jw, appendV -> Jx, copyV -> Jy, clearV -> Jz, convV -> J0, sliceCells -> J1, shift -> J2
open Bool renaming true -> BT, false -> BF
open Nat renaming reduceEqDiff -> J3, reduceLT -> J4, reduceAdd -> J5, reduceBEq -> J6, reduceSub -> J7, reduceMul -> J8, reduceLeDiff -> JG
open Int renaming reduceLT -> J9, reduceLE -> JA, reduceAdd -> JB, reduceSub -> JC, reduceNeg -> JD, reduceToNat -> JE, reduceEq -> JF
open Go.Proofs
theorem skol2 {α β γ : Type} {P : α -> β -> γ -> Prop} (h : ∀ z, ∃ x l, P z x l) : ∃ (f : α -> β) (g : α -> γ), ∀ z, P z (f z) (g z) :=
  ⟨fun z => (h z).choose, fun z => (h z).choose_spec.choose, fun z => (h z).choose_spec.choose_spec⟩
theorem core_of {L M : List In} (h : L.map In.core = M.map In.core) {x : In} (hx : x ∈ L) : ∃ y ∈ M, y.core = x.core := by
  have : x.core ∈ L.map In.core := List.mem_map.2 ⟨x, hx, rfl⟩
  rw [h] at this
  exact List.mem_map.1 this
theorem findL_core {M : List In} (hn : (M.map In.key).Nodup) {x y : In} (hy : y ∈ M) (e : y.core = x.core) : ∃ (i : Nat) (w : In), findL M x.key = (i : Int) /\ M[i]? = some w /\ w.core = x.core := by
  have hk : y.key = x.key := by have := congrArg In.key e; exact this
  obtain ⟨i, w, h1, h2, h3⟩ := findL_of (M := M) (k := x.key) (by rw [<- hk]; exact List.mem_map.2 ⟨y, hy, rfl⟩)
  have := key_inj hn w (List.mem_of_getElem? h2) y hy (by rw [h3, hk])
  exact ⟨i, w, h1, h2, by rw [this]; exact e⟩
structure PutsI (v : V) (lp : Nat) (r : LoopR) (x3 x4 x13 : Nat × List V) (H1 : Heap) (S : List In) (k : Nat) (H : Heap) : Prop where
  len : H.length = H1.length
  old : ∀ i, i ≠ lp -> H[i]? = H1[i]?
  lp1 : loopAt H1 lp = some r
  all : ∃ a b x11, loopAt H lp = some { r with l := [x3, x4, (1, [v]), (1, [.int .i64 k]), (1, [.int .i64 a, .int .i64 b]), x11, x13] } /\ (k = 0 \/ ∃ z, S[k - 1]? = some z /\ (a, b) = z.key)
theorem PutsI.keep {v : V} {lp : Nat} {r : LoopR} {x3 x4 x13 : Nat × List V} {H1 H : Heap} {S : List In} {k : Nat} (h : PutsI v lp r x3 x4 x13 H1 S k H) : KeepC H1 H := by
  refine ⟨by rw [h.len]; exact Nat.le_refl _, fun i g p hc => ?_⟩
  have hne : i ≠ lp := by
    rintro rfl
    have := loopAt_get h.lp1
    unfold hcells at hc
    rw [this] at hc; cases hc
  unfold hcells at hc ⊢
  rw [h.old i hne]; exact hc
theorem puts_loop {pb b m lp : Nat} {H0 : Heap} {L M : List In} {r : LoopR} (hpb : hcells H0 pb 0 = some (true, [.ptr b 0 0])) (ht : TabAt H0 b m L) (hl : L.length <= 5000) (hL : loopAt H0 lp = some r) (hr : PutsRec r)
    {v : V} (hM : InsAt H0 v M) (hLM : L.map In.core = M.map In.core) {a0 b0 : Int} {x3 x4 x11 x13 : Nat × List V} (hrl : r.l = [x3, x4, (1, [v]), (1, [.int .i64 0]), (1, [.int .i64 a0, .int .i64 b0]), x11, x13]) :
    Ev.Ok (D X (.fn 59 [.ptr pb 0 0]) [.yld lp] H0) fun y => ∃ H' a b' x11', y = (.tup [], H') /\ KeepC H0 H' /\ TabAt H' b m L /\
      loopAt H' lp = some { r with l := [x3, x4, (1, [v]), (1, [.int .i64 M.length]), (1, [.int .i64 a, .int .i64 b']), x11', x13] } := by
  have hlp := loopAt_lt hL
  have hkk := core_keys hLM
  have hnM : (M.map In.key).Nodup := by rw [<- hkk]; exact ht.keys
  refine (each_at hpb ht hl (PutsI v lp r x3 x4 x13) ?_ ?_ ?_).mono ?_
  · intro l S hS
    refine ⟨rfl, fun _ _ => rfl, by rw [loopAt_app hlp]; exact hL, a0, b0, x11, ?_, .inl rfl⟩
    rw [loopAt_app hlp, hL]
    obtain ⟨st, pe, fn, e, l, ps, asg, bd, le⟩ := r
    dsimp only at hrl
    subst hrl
    rfl
  · intro H1 S k H h
    exact ⟨h.keep, fun i h1 h2 => h.old i (by omega)⟩
  · intro l S k x H hS hx h hxa
    have hkp := h.keep
    obtain ⟨h1, h2, h3, a, b', y11, h4, h5⟩ := h
    have hkS := (List.getElem?_eq_some_iff.1 hx).1
    have hSl := hS.len
    obtain ⟨y, hyL, hyx⟩ := hS.core x (List.mem_of_getElem? hx)
    obtain ⟨w, hwM, hwy⟩ := core_of hLM hyL
    obtain ⟨i, u, f1, f2, f3⟩ := findL_core hnM hwM (hwy.trans hyx)
    have hlt : (k : Int) = 0 \/ ltR (a, b') x.key = true := by
      rcases h5 with rfl | ⟨z, hz, e⟩
      · exact .inl rfl
      · by_cases hk0 : k = 0
        · exact .inl (by omega)
        · refine .inr ?_
          have hs : Strict (S.map In.key) := by rw [hS.keys]; exact addsR_strict _ _ List.Pairwise.nil
          obtain ⟨i1, e1⟩ := List.getElem?_eq_some_iff.1 hz
          obtain ⟨i2, e2⟩ := List.getElem?_eq_some_iff.1 hx
          have := List.pairwise_iff_getElem.1 hs (k - 1) k (by simpa using i1) (by simpa using i2) (by omega)
          rw [List.getElem_map, List.getElem_map, e1, e2] at this
          rw [e]; exact this
    refine (puts_round h4 ⟨hr.state, hr.pending, hr.fn, hr.params, hr.code, hr.lent, hr.len, hr.t4, hr.t6, hr.t8, hr.t9⟩ rfl ((hM.keep (KeepC.app _ _)).keep hkp) f1 f2 f3 hxa (by omega) hlt).mono ?_
    rintro z ⟨z11, rfl⟩
    refine ⟨_, rfl, by rw [List.length_set, h1], fun j hj => by rw [List.getElem?_set_ne (Ne.symm hj), h2 j hj], h3, x.l, x.i, z11, ?_, .inr ⟨x, hx, rfl⟩⟩
    rw [loopAt_set_eq (loopAt_lt h4)]; rfl
  · rintro y ⟨l, S, H', rfl, hS, h⟩
    have hk := h.keep
    obtain ⟨h1, h2, h3, a, b', y11, h4, h5⟩ := h
    have hml : m < H0.length := by
      obtain ⟨_, _, _, hm, _⟩ := ht.map
      exact (List.getElem?_eq_some_iff.1 hm).1
    have hmne : m ≠ lp := by
      rintro rfl
      obtain ⟨_, _, _, hm, _⟩ := ht.map
      rw [loopAt_get hL] at hm; cases hm
    rw [hS.len, core_len hLM] at h4
    exact ⟨H', a, b', y11, rfl, (KeepC.app _ _).trans hk, ht.keep ((KeepC.app _ _).trans hk) (by rw [h2 m hmne, List.getElem?_append_left hml]), h4⟩
set_option maxHeartbeats 8000000 in
theorem instsPuts_at {h : Heap} {v0 : V} {l : List In} (hr : InsAt h v0 l) (a1 a2 : Int) : Ev.Ok (D X (.fn 8 []) [v0, .agg [.int .i64 a1, .int .i64 a2]] h) fun r => r.1 = .bool true := by
  refine Ok.aim fun Q hQ => ?_
  have hQ' := Hid.mk hQ
  clear hQ
  have hlv := D_pin (X := X) (f := 13) (b := true) rfl
  obtain ⟨yy, hplay, b, m, w, g, L, M, rfl, hp, hM⟩ := play_at hr
  obtain ⟨a0, cap0, z0', e0⟩ := hr.sl
  subst e0
  clear hr
  have hef := fun h => eachF_at b h
  obtain ⟨wa, wc, wz, rfl⟩ := hp.row.sl
  have hp' := Hid.mk hp
  clear hp
  (refine Ok.body body8 pin8 ?_; simp only [c8,Try.f8,Option.getD_some,nslot8,List.append_nil,List.map,List.replicate,List.length_cons,List.length_nil,Nat.reduceAdd,Nat.reduceSub,List.cons_append,List.nil_append])
  (repeat' (first | (simp -implicitDefEqProofs (maxSteps := 1000000) (disch := first | assumption | omega | (simp only [ZDI]; omega)) only [*,lenV,G8,Za,Zb,Zc,Zd,Ze,Zf,Zg,Zh,Zi,Zj,Zk,Zl,Zm,Zn,Zo,Ja,Jb,Jc,J3,Jd,Je,J4,J5,Jf,Jg,Jh,Ji,Jj,Jk,J6,Jl,Jm,wr,Jn,J7,J8,Jo,Jp,Jq,Jr,Js,Jt,Ju,Jv,Jw,Jx,Jy,Jz,J0,J1,J2,reduceCtorEq,J9,JA,JB,JC,JD,JE,JF,JG]) | ((with_reducible (first | apply Ok.br | apply Ok.gd | apply Ok.ld)) <;> (intro g; (try simp only [ZGS] at g); try (exfalso; omega)))))
  clear hef hplay
  refine Ok.bnd2 (puts_loop (lp := g.length + 1) (pb := g.length) (b := b) (m := m) (L := L) (M := M) (v := .sl wa M.length wc wz) (r := ?rr) (a0 := ?a0) (b0 := ?b0) (x3 := ?x3) (x4 := ?x4) (x11 := ?x11) (x13 := ?x13) ?hpb (hp'.out.tab.keep (KeepC.app g _) ?hmm) (by rw [core_len hp'.out.same]; omega) ?hL ?hr (hp'.out.row.keep (KeepC.app g _)) hp'.out.same ?hl) ?_
  case hpb => rw [hcells_ge (Nat.le_refl _), Nat.sub_self]; exact grd_t rfl _
  case hmm =>
    obtain ⟨_, _, _, h2, _⟩ := hp'.out.tab.map
    exact List.getElem?_append_left (List.getElem?_eq_some_iff.1 h2).1
  case hL => rw [loopAt_ge (by omega)]; simp only [Nat.add_sub_cancel_left]; rfl
  case hr => exact ⟨rfl, rfl, rfl, rfl, by simp only [c8,Try.f8,Option.getD_some,rangesOf,List.nil_append,List.append_nil,List.cons_append,List.getElem?_cons_zero], rfl, rfl, rfl, rfl, rfl, rfl⟩
  case hl => rfl
  rintro v' H2 ⟨H3, a, b', y11, e3, hk, ht, hrec⟩
  simp only [Prod.mk.injEq] at e3
  obtain ⟨rfl, rfl⟩ := e3
  have hrow := (hp'.out.row.keep (KeepC.app g _)).keep hk
  have hrow0 := hp'.out.row
  have hnM : (M.map In.key).Nodup := by rw [<- core_keys hp'.out.same]; exact hp'.out.tab.keys
  have hmne : m ≠ g.length + 1 := by
    rintro rfl
    obtain ⟨_, _, _, hm, _⟩ := ht.map
    rw [loopAt_get hrec] at hm; cases hm
  obtain ⟨k, hkd⟩ : ∃ k : RP, (a1, a2) = k := ⟨_, rfl⟩
  have hget : ∀ z, ∃ (x : In) (G : Heap), D X (.fn 34 []) [.ptr b 0 0, .agg [.int .i64 a1, .int .i64 a2]] (H2.set (g.length + 1) z) = some (.tup [.agg (inV x), .bool (isL L k)], G) /\ x.core = (getL L k).core /\ InAt G x /\ InsAt G (.sl wa M.length wc wz) M /\ KeepC g G := by
    intro z
    have ht2 := ht.keep (KeepC.setLoop hrec z) (List.getElem?_set_ne (Ne.symm hmne))
    obtain ⟨x, l, e1, e2, e3⟩ := get_at ht2 (a1, a2)
    exact ⟨x, _, by rw [<- hkd]; exact e1, by rw [<- hkd]; exact e2, e3, (hrow.keep (KeepC.setLoop hrec z)).keep (KeepC.app _ _), (KeepC.app g _).trans (hk.trans ((KeepC.setLoop hrec z).trans (KeepC.app _ _)))⟩
  obtain ⟨gx, gG, hg⟩ := skol2 hget
  have hkk := core_keys hp'.out.same
  have hnL := hp'.out.tab.keys
  have hsame := hp'.out.same
  obtain ⟨n, hn⟩ : ∃ n : Int, findL M k = n := ⟨_, rfl⟩
  have hfind : ∀ z, D X (.fn 32 []) [.sl wa M.length wc wz, .agg [.int .i64 a1, .int .i64 a2]] (gG z) = some (.int .i64 n, gG z) := fun z => by rw [<- hn, <- hkd]; exact find_at (hg z).2.2.2.1 (a1, a2)
  have hg1 := fun z => (hg z).1
  have hg' := Hid.mk hg
  clear hk ht hget hrow hp' hg
  simp only [inV] at hg1
  cases hi : isL L k with
  | false =>
    have hkL : k ∉ L.map In.key := by
      have := isL_iff (L := L) (k := k)
      rw [hi] at this
      exact of_decide_eq_false this.symm
    have hnn : n = -1 := by
      rw [<- hn]
      exact findL_none fun y hy e => hkL (by rw [hkk]; exact List.mem_map.2 ⟨y, hy, e⟩)
    have hgl : getL L k = z0 := by
      unfold getL
      cases hx : L.find? (fun y => decide (k = y.key)) with
      | none => rfl
      | some y => exact absurd (List.mem_map.2 ⟨y, List.mem_of_find?_eq_some hx, by have := List.find?_some hx; simp at this; exact this.symm⟩) hkL
    have hs : ∀ z, D X (.fn 17 []) [.agg (inV (gx z)), .agg (inV z0)] (gG z) = some (.bool true, gG z) := by
      intro z
      have := rSame_at (hg'.out z).2.2.1 (InAt.z0 (gG z))
      rwa [smB_iff.2 (by rw [(hg'.out z).2.1, hgl])] at this
    subst hnn
    rw [hi] at hg1
    simp only [inV,z0] at hs
    clear hn hkd hkk hnL hsame hnM hi hkL hgl hrow0
    simp -implicitDefEqProofs (maxSteps := 1000000) (disch := first | assumption | omega | (simp only [ZDI]; omega)) only [*,lenV,G8,Za,Zb,Zc,Zd,Ze,Zf,Zg,Zh,Zi,Zj,Zk,Zl,Zm,Zn,Zo,Ja,Jb,Jc,J3,Jd,Je,J4,J5,Jf,Jg,Jh,Ji,Jj,Jk,J6,Jl,Jm,wr,Jn,J7,J8,Jo,Jp,Jq,Jr,Js,Jt,Ju,Jv,Jw,Jx,Jy,Jz,J0,J1,J2,reduceCtorEq,J9,JA,JB,JC,JD,JE,JF,JG]
    exact hQ'.out _ rfl
  | true =>
    have hkL : k ∈ L.map In.key := by
      have := isL_iff (L := L) (k := k)
      rw [hi] at this
      exact of_decide_eq_true this.symm
    obtain ⟨q1, q2⟩ := getL_mem hkL
    obtain ⟨w, hwM, hwy⟩ := core_of hsame q1
    obtain ⟨i, u, f1, f2, f3⟩ := findL_core hnM hwM hwy
    rw [q2, hn] at f1
    subst f1
    have hilt := (List.getElem?_eq_some_iff.1 f2).1
    have hua : ∀ z, InAt (gG z) u := by
      intro z
      obtain ⟨_, _, _, _, _, h3, _⟩ := (hg'.out z).2.2.2.1
      exact h3 u (List.mem_of_getElem? f2)
    have hs : ∀ z, D X (.fn 17 []) [.agg (inV (gx z)), .agg (inV u)] (gG z) = some (.bool true, gG z) := by
      intro z
      have := rSame_at (hg'.out z).2.2.1 (hua z)
      rwa [smB_iff.2 (by rw [(hg'.out z).2.1, f3])] at this
    obtain ⟨bb, qq, oo, rw, full, rfl, hbc, hf, ho2⟩ : ∃ b g' o rw full, wa = .at b g' o /\ hcells g b g' = some (rw, full) /\ (full.drop (o + i * 16)).take 16 = inV u /\ o + i * 16 + 16 <= full.length := by
      obtain ⟨va, vc, vz, e1, _, _, hv2⟩ := hrow0
      cases e1
      rcases hv2 with rfl | ⟨bb, qq, oo, rw, full, rfl, hbc, hfull, ho⟩
      · simp at hilt
      · exact ⟨bb, qq, oo, rw, full, rfl, hbc, hfull i u f2, by omega⟩
    have hbz := fun z => (hg'.out z).2.2.2.2.2 _ _ _ hbc
    have g1 : 0 <= (i : Int) /\ (i : Int) < (M.length : Int) := by omega
    rw [hi] at hg1
    simp only [inV] at hs hf
    clear hn hkd hkk hnL hsame hnM hi hkL q1 q2 hwM hwy f2 f3 hua hrow0 hbc hilt
    simp -implicitDefEqProofs (maxSteps := 1000000) (disch := first | assumption | omega | (simp only [ZDI]; omega)) only [*,lenV,G8,Za,Zb,Zc,Zd,Ze,Zf,Zg,Zh,Zi,Zj,Zk,Zl,Zm,Zn,Zo,Ja,Jb,Jc,J3,Jd,Je,J4,J5,Jf,Jg,Jh,Ji,Jj,Jk,J6,Jl,Jm,wr,Jn,J7,J8,Jo,Jp,Jq,Jr,Js,Jt,Ju,Jv,Jw,Jx,Jy,Jz,J0,J1,J2,reduceCtorEq,J9,JA,JB,JC,JD,JE,JF,JG]
    exact hQ'.out _ rfl
end Go.Ev
set_option maxRecDepth 100000
namespace Go.Ev
open Go.Proofs
section
variable {T : TypeId -> TI} {h : Heap} {d : Nat} {t u w : TypeId} {xss : List (List V)}
theorem FitsAll.one (hf : FitsAll T h d [t] xss) : ∃ x, xss = [x] /\ Fits T h d t x := by
  match xss, hf with
  | [x], hf => exact ⟨x, rfl, hf.1⟩
theorem FitsAll.two (hf : FitsAll T h d [t, u] xss) : ∃ x y, xss = [x, y] /\ Fits T h d t x /\ Fits T h d u y := by
  match xss, hf with
  | [x, y], hf => exact ⟨x, y, rfl, hf.1, hf.2.1⟩
end
theorem Strs.at' {h : Heap} {v : V} {l : List ByteArray} (hs : Strs h v l) : StrsAt h v l := hs.at
theorem fits_bool {h : Heap} {d : Nat} {cs : List V} (hf : Fits X.ty h (d + 1) 4 cs) : ∃ b, cs = [.bool b] := by
  unfold Fits at hf
  rw [ty4] at hf
  exact hf
theorem fits_ref {h : Heap} {d : Nat} {cs : List V} (hf : Fits X.ty h (d + 2) 23 cs) : ∃ a b, cs = [.int .i64 a, .int .i64 b] /\ In64 a /\ In64 b := by
  unfold Fits at hf
  rw [ty23] at hf
  obtain ⟨hl, hf⟩ := hf
  match cs, hl with
  | [c0, c1], _ =>
    obtain ⟨a, h0, i0⟩ := fits_int (hf (0, 3) (by simp))
    obtain ⟨b, h1, i1⟩ := fits_int (hf (1, 3) (by simp))
    simp [ty3] at h0 h1
    subst h0 h1
    exact ⟨a, b, rfl, i0, i1⟩
theorem fits_refs {h : Heap} {d : Nat} {cs : List V} (hf : Fits X.ty h (d + 3) 29 cs) : ∃ v L, cs = [v] /\ RowAt h v L := by
  unfold Fits at hf
  rw [ty29] at hf
  have hmax : maxLen = 9223372036854775807 := by decide
  rw [hmax] at hf
  rcases hf with rfl | rfl | ⟨b, len, cap, full, rfl, h1, h2, h3, h4, h5, h6⟩
  · exact ⟨_, [], rfl, .nil, 0, 0, rfl, by simp, by decide, .inl rfl⟩
  · exact ⟨_, [], rfl, .any, 0, 1, rfl, by simp, by decide, .inl rfl⟩
  · have hsz : (X.ty 23).size = 2 := by rw [ty23]
    rw [hsz] at h5 h6
    have hx : ∀ i, ∃ x : RP, i < cap -> (full.drop (i * 2)).take 2 = [.int .i64 x.1, .int .i64 x.2] := by
      intro i
      by_cases hi : i < cap
      · obtain ⟨a, b, e, _, _⟩ := fits_ref (h6 i hi)
        exact ⟨(a, b), fun _ => e⟩
      · exact ⟨(0, 0), fun h' => absurd h' hi⟩
    obtain ⟨g, hg⟩ := Classical.axiomOfChoice hx
    have hlen : ((List.range len).map g).length = len := by rw [List.length_map, List.length_range]
    refine ⟨_, (List.range len).map g, rfl, .at b 0 0, cap, 0, by rw [hlen], by rw [hlen]; omega, by omega, .inr ⟨b, 0, 0, false, full, rfl, ?_, ?_, ?_⟩⟩
    · unfold hcells; rw [h4]; exact grd_t rfl _
    · intro i x hi
      rw [List.getElem?_map] at hi
      cases hr : (List.range len)[i]? with
      | none => rw [hr] at hi; cases hi
      | some j =>
        rw [hr] at hi
        have hj : i < len := by have := (List.getElem?_eq_some_iff.1 hr).1; simpa using this
        have : j = i := by rw [List.getElem?_range hj] at hr; exact (Option.some.inj hr).symm
        subst this
        simp only [Option.map_some,Option.some.injEq] at hi
        subst hi
        rw [Nat.zero_add]
        exact hg j (by omega)
    · rw [hlen, h5, Nat.zero_add]
      exact Nat.mul_le_mul_right 2 (by omega)
theorem fits_ballot {h : Heap} {d : Nat} {cs : List V} (hf : Fits X.ty h (d + 2) 25 cs) : ∃ a b, cs = [.int .i64 a, .int .i64 b] /\ In64 a /\ In64 b := by
  unfold Fits at hf
  rw [ty25] at hf
  obtain ⟨hl, hf⟩ := hf
  match cs, hl with
  | [c0, c1], _ =>
    obtain ⟨a, h0, i0⟩ := fits_int (hf (0, 3) (by simp))
    obtain ⟨b, h1, i1⟩ := fits_int (hf (1, 3) (by simp))
    simp [ty3] at h0 h1
    subst h0 h1
    exact ⟨a, b, rfl, i0, i1⟩
def In.Ok (x : In) : Prop := In64 x.l /\ In64 x.i /\ In64 x.bn /\ In64 x.bd /\ In64 x.vn /\ In64 x.vd /\ In64 x.st /\ In64 x.sq /\ In64 x.o /\ In64 x.c /\ In64 x.q /\ In64 x.f /\ In64 x.t
theorem fits_inst {h : Heap} {d : Nat} {cs : List V} (hf : Fits X.ty h (d + 4) 31 cs) : ∃ x : In, cs = inV x /\ InAt h x /\ x.Ok := by
  unfold Fits at hf
  rw [ty31] at hf
  obtain ⟨hl, hf⟩ := hf
  match cs, hl with
  | [c0, c1, c2, c3, c4, c5, c6, c7, c8, c9, c10, c11, c12, c13, c14, c15], _ =>
    obtain ⟨l, i, h0, i0, i1⟩ := fits_ref (hf (0, 23) (by simp))
    obtain ⟨bn, bd, h1, i2, i3⟩ := fits_ballot (hf (2, 25) (by simp))
    obtain ⟨vn, vd, h2, i4, i5⟩ := fits_ballot (hf (4, 25) (by simp))
    obtain ⟨st, h3, i6⟩ := fits_int (hf (6, 3) (by simp))
    obtain ⟨sm, h4⟩ := fits_bool (hf (7, 4) (by simp))
    obtain ⟨o, c, q, f, t, dv, dl, h5, j0, j1, j2, j3, j4, j5⟩ := fits_cmd (hf (8, 28) (by simp))
    obtain ⟨sq, h6, i7⟩ := fits_int (hf (14, 3) (by simp))
    obtain ⟨pv, pl, h7, i8⟩ := fits_refs (hf (15, 29) (by simp))
    simp [ty23] at h0
    simp [ty25] at h1 h2
    simp [ty3] at h3 h6
    simp [ty4] at h4
    simp [ty28] at h5
    simp [ty29] at h7
    obtain ⟨rfl, rfl⟩ := h0
    obtain ⟨rfl, rfl⟩ := h1
    obtain ⟨rfl, rfl⟩ := h2
    obtain ⟨rfl, rfl, rfl, rfl, rfl, rfl⟩ := h5
    subst h3 h4 h6 h7
    exact ⟨⟨l, i, bn, bd, vn, vd, st, sm, o, c, q, f, t, _, dl, sq, _, pl⟩, rfl, ⟨j5.at, i8⟩, i0, i1, i2, i3, i4, i5, i6, i7, j0, j1, j2, j3, j4⟩
end Go.Ev
set_option maxRecDepth 100000
namespace Go.Ev
open Go.Proofs
theorem fits_insts {h : Heap} {d : Nat} {cs : List V} (hf : Fits X.ty h (d + 5) 39 cs) : ∃ v L, cs = [v] /\ InsAt h v L /\ ∀ x ∈ L, x.Ok := by
  unfold Fits at hf
  rw [ty39] at hf
  have hmax : maxLen = 9223372036854775807 := by decide
  rw [hmax] at hf
  rcases hf with rfl | rfl | ⟨b, len, cap, full, rfl, h1, h2, h3, h4, h5, h6⟩
  · exact ⟨_, [], rfl, ⟨.nil, 0, 0, rfl, by decide, (fun x hx => nomatch hx), .inl rfl⟩, fun x hx => nomatch hx⟩
  · exact ⟨_, [], rfl, ⟨.any, 0, 1, rfl, by decide, (fun x hx => nomatch hx), .inl rfl⟩, fun x hx => nomatch hx⟩
  · have hsz : (X.ty 31).size = 16 := by rw [ty31]
    rw [hsz] at h5 h6
    have hx : ∀ i, ∃ x : In, i < cap -> (full.drop (i * 16)).take 16 = inV x /\ InAt h x /\ x.Ok := by
      intro i
      by_cases hi : i < cap
      · obtain ⟨x, e, k, o⟩ := fits_inst (h6 i hi)
        exact ⟨x, fun _ => ⟨e, k, o⟩⟩
      · exact ⟨z0, fun h' => absurd h' hi⟩
    obtain ⟨g, hg⟩ := Classical.axiomOfChoice hx
    have hlen : ((List.range len).map g).length = len := by rw [List.length_map, List.length_range]
    have hall : ∀ x ∈ (List.range len).map g, InAt h x /\ x.Ok := fun x hm => by
      obtain ⟨i, hi, rfl⟩ := List.mem_map.1 hm
      have := List.mem_range.1 hi
      exact (hg i (by omega)).2
    refine ⟨_, (List.range len).map g, rfl, ⟨.at b 0 0, cap, 0, by rw [hlen], by rw [hlen]; omega, fun x hm => (hall x hm).1, .inr ⟨b, 0, 0, false, full, rfl, ?_, ?_, ?_⟩⟩, fun x hm => (hall x hm).2⟩
    · unfold hcells; rw [h4]; exact grd_t rfl _
    · intro i x hi
      rw [List.getElem?_map] at hi
      cases hr : (List.range len)[i]? with
      | none => rw [hr] at hi; cases hi
      | some j =>
        rw [hr] at hi
        have hj : i < len := by have := (List.getElem?_eq_some_iff.1 hr).1; simpa using this
        have : j = i := by rw [List.getElem?_range hj] at hr; exact (Option.some.inj hr).symm
        subst this
        simp only [Option.map_some,Option.some.injEq] at hi
        subst hi
        rw [Nat.zero_add]
        exact (hg j (by omega)).1
    · rw [hlen, h5, Nat.zero_add]
      exact Nat.mul_le_mul_right 16 (by omega)
end Go.Ev
set_option maxRecDepth 100000
namespace Go.Ev
open Go.Ev renaming exPure -> Ja, ofValue -> Jb, cellsV -> Jc, load -> Jd, store -> Je, binOp -> Jf, intOp -> Jg, rdV -> Jh, vsame -> Ji, vsames -> Jj, makeSliceV -> Jk, resV -> Jl, isCell -> Jm, nilCheckV -> Jn, allV -> Jo, builtinV -> Jp, lenV -> Jq, indexAddrV -> Jr, unOp -> Js, minmaxV -> Jt, minmax -> Ju, sliceV -> Jv, asInt -> Jw, appendV -> Jx, copyV -> Jy, clearV -> Jz, convV -> J0, sliceCells -> J1, shift -> J2
open Bool renaming true -> BT, false -> BF
open Nat renaming reduceEqDiff -> J3, reduceLT -> J4, reduceAdd -> J5, reduceBEq -> J6, reduceSub -> J7, reduceMul -> J8, reduceLeDiff -> JG
open Int renaming reduceLT -> J9, reduceLE -> JA, reduceAdd -> JB, reduceSub -> JC, reduceNeg -> JD, reduceToNat -> JE, reduceEq -> JF
open Go.Proofs
theorem each_nil {pb lp : Nat} {H : Heap} (hpb : hcells H pb 0 = some (true, [.nilp])) : D X (.fn 59 [.ptr pb 0 0]) [.yld lp] H = some (.tup [], H) := by
  have h1 := fun h => clone_nil h
  have h2 := fun h => refs_nil h
  refine Ok.eq ?_
  (refine Ok.body body59 pin59 ?_; simp only [c59,Try.f59,Option.getD_some,nslot59,List.append_nil,List.map,List.replicate,List.length_cons,List.length_nil,Nat.reduceAdd,Nat.reduceSub,List.cons_append,List.nil_append])
  (repeat' (first | (simp -implicitDefEqProofs (maxSteps := 1000000) (disch := first | assumption | omega | (simp only [ZDI]; omega)) only [*,lenV,G59,Za,Zb,Zc,Zd,Ze,Zf,Zg,Zh,Zi,Zj,Zk,Zl,Zm,Zn,Zo,Ja,Jb,Jc,J3,Jd,Je,J4,J5,Jf,Jg,Jh,Ji,Jj,Jk,J6,Jl,Jm,wr,Jn,J7,J8,Jo,Jp,Jq,Jr,Js,Jt,Ju,Jv,Jw,Jx,Jy,Jz,J0,J1,J2,reduceCtorEq,J9,JA,JB,JC,JD,JE,JF,JG]) | ((with_reducible (first | apply Ok.br | apply Ok.gd | apply Ok.ld)) <;> (intro g; (try simp only [ZGS] at g); try (exfalso; omega)))))
  refine Ok.unroll ?_
  (repeat' (first | (simp -implicitDefEqProofs (maxSteps := 1000000) (disch := first | assumption | omega | (simp only [ZDI]; omega)) only [*,lenV,G59,Za,Zb,Zc,Zd,Ze,Zf,Zg,Zh,Zi,Zj,Zk,Zl,Zm,Zn,Zo,Ja,Jb,Jc,J3,Jd,Je,J4,J5,Jf,Jg,Jh,Ji,Jj,Jk,J6,Jl,Jm,wr,Jn,J7,J8,Jo,Jp,Jq,Jr,Js,Jt,Ju,Jv,Jw,Jx,Jy,Jz,J0,J1,J2,reduceCtorEq,J9,JA,JB,JC,JD,JE,JF,JG]) | ((with_reducible (first | apply Ok.br | apply Ok.gd | apply Ok.ld)) <;> (intro g; (try simp only [ZGS] at g); try (exfalso; omega)))))
theorem eachF_nil (h : Heap) : D X (.fn 31 []) [.nilp] h = some (.fn 59 [.ptr h.length 0 0], h ++ [.cells 0 true [.nilp]]) := by
  refine Ok.eq ?_
  (refine Ok.body body31 pin31 ?_; simp only [c31,Try.f31,Option.getD_some,nslot31,List.append_nil,List.map,List.replicate,List.length_cons,List.length_nil,Nat.reduceAdd,Nat.reduceSub,List.cons_append,List.nil_append])
  (repeat' (first | (simp -implicitDefEqProofs (maxSteps := 1000000) (disch := first | assumption | omega | (simp only [ZDI]; omega)) only [*,G31,Za,Zb,Zc,Zd,Ze,Zf,Zg,Zh,Zi,Zj,Zk,Zl,Zm,Zn,Zo,Ja,Jb,Jc,J3,Jd,Je,J4,J5,Jf,Jg,Jh,Ji,Jj,Jk,J6,Jl,Jm,wr,Jn,J7,J8,Jo,Jp,Jq,Jr,Js,Jt,Ju,Jv,Jw,Jx,Jy,Jz,J0,J1,J2,reduceCtorEq,J9,JA,JB,JC,JD,JE,JF,JG]) | ((with_reducible (first | apply Ok.br | apply Ok.gd | apply Ok.ld)) <;> (intro g; (try simp only [ZGS] at g); try (exfalso; omega)))))
theorem next_nil (h : Heap) (lead : Int) : D X (.fn 22 []) [.nilp, .int .i64 lead] h = some (.int .i64 1, h) := by
  have h2 := fun h => refs_nil h
  refine Ok.eq ?_
  (refine Ok.body body22 pin22 ?_; simp only [c22,Try.f22,Option.getD_some,nslot22,List.append_nil,List.map,List.replicate,List.length_cons,List.length_nil,Nat.reduceAdd,Nat.reduceSub,List.cons_append,List.nil_append])
  (repeat' (first | (simp -implicitDefEqProofs (maxSteps := 1000000) (disch := first | assumption | omega | (simp only [ZDI]; omega)) only [*,lenV,G22,Za,Zb,Zc,Zd,Ze,Zf,Zg,Zh,Zi,Zj,Zk,Zl,Zm,Zn,Zo,Ja,Jb,Jc,J3,Jd,Je,J4,J5,Jf,Jg,Jh,Ji,Jj,Jk,J6,Jl,Jm,wr,Jn,J7,J8,Jo,Jp,Jq,Jr,Js,Jt,Ju,Jv,Jw,Jx,Jy,Jz,J0,J1,J2,reduceCtorEq,J9,JA,JB,JC,JD,JE,JF,JG]) | ((with_reducible (first | apply Ok.br | apply Ok.gd | apply Ok.ld)) <;> (intro g; (try simp only [ZGS] at g); try (exfalso; omega)))))
  refine Ok.unroll ?_
  (repeat' (first | (simp -implicitDefEqProofs (maxSteps := 1000000) (disch := first | assumption | omega | (simp only [ZDI]; omega)) only [*,lenV,G22,Za,Zb,Zc,Zd,Ze,Zf,Zg,Zh,Zi,Zj,Zk,Zl,Zm,Zn,Zo,Ja,Jb,Jc,J3,Jd,Je,J4,J5,Jf,Jg,Jh,Ji,Jj,Jk,J6,Jl,Jm,wr,Jn,J7,J8,Jo,Jp,Jq,Jr,Js,Jt,Ju,Jv,Jw,Jx,Jy,Jz,J0,J1,J2,reduceCtorEq,J9,JA,JB,JC,JD,JE,JF,JG]) | ((with_reducible (first | apply Ok.br | apply Ok.gd | apply Ok.ld)) <;> (intro g; (try simp only [ZGS] at g); try (exfalso; omega)))))
theorem order_nil (h : Heap) (c r : List V) : Ev.Ok (D X (.fn 23 []) [.nilp, .agg c, .agg r] h) fun y => ∃ l, y = (.tup [.int .i64 1, .sl .nil 0 0 0], h ++ l) := by
  have h1 := fun h => eachF_nil h
  refine Ok.aim fun Q hQ => ?_
  have hQ' := Hid.mk hQ
  clear hQ
  have h2 : ∀ (l : List Blk), D X (.fn 59 [.ptr h.length 0 0]) [.yld (h.length + 1)] (h ++ .cells 0 true [.nilp] :: l) = some (.tup [], h ++ .cells 0 true [.nilp] :: l) := fun l => each_nil (by rw [hcells_ge (Nat.le_refl _), Nat.sub_self]; exact grd_t rfl _)
  (refine Ok.body body23 pin23 ?_; simp only [c23,Try.f23,Option.getD_some,nslot23,List.append_nil,List.map,List.replicate,List.length_cons,List.length_nil,Nat.reduceAdd,Nat.reduceSub,List.cons_append,List.nil_append])
  (repeat' (first | (simp -implicitDefEqProofs (maxSteps := 1000000) (disch := first | assumption | omega | (simp only [ZDI]; omega)) only [*,G23,Za,Zb,Zc,Zd,Ze,Zf,Zg,Zh,Zi,Zj,Zk,Zl,Zm,Zn,Zo,Ja,Jb,Jc,J3,Jd,Je,J4,J5,Jf,Jg,Jh,Ji,Jj,Jk,J6,Jl,Jm,wr,Jn,J7,J8,Jo,Jp,Jq,Jr,Js,Jt,Ju,Jv,Jw,Jx,Jy,Jz,J0,J1,J2,reduceCtorEq,J9,JA,JB,JC,JD,JE,JF,JG]) | ((with_reducible (first | apply Ok.br | apply Ok.gd | apply Ok.ld)) <;> (intro g; (try simp only [ZGS] at g); try (exfalso; omega)))))
  exact hQ'.out _ ⟨_, rfl⟩
end Go.Ev
set_option maxRecDepth 100000
namespace Go.Ev
open Go.Ev renaming exPure -> Ja, ofValue -> Jb, cellsV -> Jc, load -> Jd, store -> Je, binOp -> Jf, intOp -> Jg, rdV -> Jh, vsame -> Ji, vsames -> Jj, makeSliceV -> Jk, resV -> Jl, isCell -> Jm, nilCheckV -> Jn, allV -> Jo, builtinV -> Jp, lenV -> Jq, indexAddrV -> Jr, unOp -> Js, minmaxV -> Jt, minmax -> Ju, sliceV -> Jv, asInt -> Jw, appendV -> Jx, copyV -> Jy, clearV -> Jz, convV -> J0, sliceCells -> J1, shift -> J2
open Bool renaming true -> BT, false -> BF
open Nat renaming reduceEqDiff -> J3, reduceLT -> J4, reduceAdd -> J5, reduceBEq -> J6, reduceSub -> J7, reduceMul -> J8, reduceLeDiff -> JG
open Int renaming reduceLT -> J9, reduceLE -> JA, reduceAdd -> JB, reduceSub -> JC, reduceNeg -> JD, reduceToNat -> JE, reduceEq -> JF
open Go.Proofs
def nobI (i : Int) : In := ⟨6, i, 0, 0, 0, 0, 0, false, 0, 0, 0, 0, 0, .sl .nil 0 0 0, [], 0, .sl .nil 0 0 0, []⟩
theorem nobI_at (h : Heap) (i : Int) : InAt h (nobI i) := ⟨⟨.nil, 0, 0, rfl, Nat.zero_le _, trivial, .inl rfl⟩, ⟨.nil, 0, 0, rfl, Nat.le_refl _, by decide, .inl rfl⟩⟩
structure NobRec (r : LoopR) : Prop where
  state : r.state = 0
  pending : r.pending = none
  fn : r.fn = 10
  params : r.params = [87]
  code : (rangesOf c10)[1]? = some (r.assign, r.body)
  lent : r.lent = false
  len : r.e.length = 114
  t10 : tv r.e 10 = .lp 2 1 0
  t12 : tv r.e 12 = .lp 3 1 0
  t13 : tv r.e 13 = .lp 4 1 0
  t14 : tv r.e 14 = .lp 5 1 0
set_option maxHeartbeats 8000000 in
theorem nob_round {H : Heap} {lp b m : Nat} {r : LoopR} (hL : loopAt H lp = some r) (hr : NobRec r) {v : V} {M Lk : List In} {seen : Int} {x3 x6 x16 : Nat × List V}
    (hl : r.l = [x3, x6, (1, [.int .i64 seen]), (1, [.ptr b 0 0]), (1, [v]), (1, [.bool true]), x16]) (ht : TabAt H b m Lk) (hM : InsAt H v M) {x : In} {i : Nat} (hfi : findL M x.key = (i : Int))
    (hseen : 0 <= seen /\ seen <= 5000) :
    Ev.Ok (D X (.yld lp) [.agg (inV x)] H) fun z => ∃ H' x16' Lk', z = (.bool true, H') /\ loopAt H' lp = some { r with l := [x3, x6, (1, [.int .i64 (seen + 1)]), (1, [.ptr b 0 0]), (1, [v]), (1, [.bool true]), x16'] } /\ TabAt H' b m Lk' /\ KeepC H H' /\ Keeps [m, lp] H H' := by
  refine Ok.aim fun Q hQ => ?_
  have hmne : m ≠ lp := by
    rintro rfl
    obtain ⟨_, _, _, hm, _⟩ := ht.map
    rw [loopAt_get hL] at hm; cases hm
  have hLl := loopAt_lt hL
  have hput : ∀ z, ∃ (e : Int) (G : Heap), D X (.fn 24 []) [.ptr b 0 0, .agg (inV (nobI (1073741824 - seen)))] (H.set lp z) = some (.int .i64 e, G) /\ (∃ Lk', TabAt G b m Lk') /\ KeepC H G /\ Keeps [m] (H.set lp z) G := by
    intro z
    have ht2 := ht.keep (KeepC.setLoop hL z) (List.getElem?_set_ne (Ne.symm hmne))
    obtain ⟨G, x', e1, e2, e3, e4, e5⟩ := put_at ht2 (nobI_at _ (1073741824 - seen))
    exact ⟨_, G, e1, ⟨_, e3⟩, (KeepC.setLoop hL z).trans e4, e5⟩
  obtain ⟨fe, gG, hg⟩ := skol2 hput
  have hp1 := fun z => (hg z).1
  have hlp2 : ∀ r, loopAt (gG (.loop r)) lp = some r := fun r => (hg _).2.2.2.loop (loopAt_set_eq hLl) (by simp; omega)
  have hfind : ∀ z, D X (.fn 32 []) [v, .agg [.int .i64 x.l, .int .i64 x.i]] (gG z) = some (.int .i64 i, gG z) := fun z => by rw [<- hfi]; exact find_at (hM.keep (hg z).2.2.1) x.key
  obtain ⟨va, vc, vz, rfl⟩ := hM.sl
  obtain ⟨st, pe, fn, e, l, ps, asg, bd, le⟩ := r
  obtain ⟨k1, k2, k3, k4, k5, k6, k7, k8, k9, k10, k11⟩ := hr
  dsimp only at k1 k2 k3 k4 k5 k6 k7 k8 k9 k10 k11 hl
  subst k1 k2 k3 k4 k6 hl
  have hfin : ∀ r' z' x16', r' = (⟨0, none, 10, e, [x3, x6, (1, [.int .i64 (seen + 1)]), (1, [.ptr b 0 0]), (1, [.sl va M.length vc vz]), (1, [.bool true]), x16'], [87], asg, bd, false⟩ : LoopR) -> Q (.bool true, (gG (.loop z')).set lp (.loop r')) := by
    intro r' z' x16' er
    obtain ⟨⟨Lk', h1⟩, h2, h3⟩ := (hg (.loop z')).2
    have hz := hlp2 z'
    refine hQ _ ⟨_, x16', Lk', rfl, by rw [loopAt_set_eq (loopAt_lt hz), er], h1.keep (KeepC.setLoop hz _) (List.getElem?_set_ne (Ne.symm hmne)), h2.trans (KeepC.setLoop hz _), ?_⟩
    have k1 : Keeps [m, lp] H (H.set lp (.loop z')) := Keeps.set (.refl _ _) (.inl (by simp)) _
    have k2 : Keeps [m, lp] (H.set lp (.loop z')) (gG (.loop z')) := h3.mono fun i _ hi => by simp at hi ⊢; exact .inl hi
    exact Keeps.set (k1.trans k2) (.inl (by simp)) _
  have hfin' := Hid.mk hfin
  clear hfin hQ hput hg hM ht hfi
  simp only [c10,Try.f10,Option.getD_some,rangesOf,List.nil_append,List.append_nil,List.cons_append,List.getElem?_cons_zero,List.getElem?_cons_succ,Option.some.injEq,Prod.mk.injEq] at k5
  obtain ⟨rfl, rfl⟩ := k5
  have he := congrArg (fun e => setArgs e [87] [.agg (inV x)]) (expand' k7)
  simp only [List.replicate,spread_t,spread_f,spread_n,Nat.zero_add,Nat.reduceAdd,setArgs,List.set_cons_zero,List.set_cons_succ,k8,k9,k10,k11] at he
  refine Ok.round hL rfl rfl ?_
  simp only [setArgs]
  rw [he]
  clear he hL
  simp only [inV,nobI] at *
  have g2 : ¬ (i : Int) < 0 := by omega
  have g3 : 0 <= (i : Int) := by omega
  (repeat' (first | (simp -implicitDefEqProofs (maxSteps := 1000000) (disch := first | assumption | omega | (simp only [ZDI]; omega)) only [*,lenV,G10,Za,Zb,Zc,Zd,Ze,Zf,Zg,Zh,Zi,Zj,Zk,Zl,Zm,Zn,Zo,Ja,Jb,Jc,J3,Jd,Je,J4,J5,Jf,Jg,Jh,Ji,Jj,Jk,J6,Jl,Jm,wr,Jn,J7,J8,Jo,Jp,Jq,Jr,Js,Jt,Ju,Jv,Jw,Jx,Jy,Jz,J0,J1,J2,reduceCtorEq,J9,JA,JB,JC,JD,JE,JF,JG]) | ((with_reducible (first | apply Ok.br | apply Ok.gd | apply Ok.ld)) <;> (intro g; (try simp only [ZGS] at g); try (exfalso; omega)))))
  exact hfin'.out _ _ _ rfl
end Go.Ev
set_option maxRecDepth 100000
namespace Go.Ev
open Go.Ev renaming exPure -> Ja, ofValue -> Jb, cellsV -> Jc, load -> Jd, store -> Je, binOp -> Jf, intOp -> Jg, rdV -> Jh, vsame -> Ji, vsames -> Jj, makeSliceV -> Jk, resV -> Jl, isCell -> Jm, nilCheckV -> Jn, allV -> Jo, builtinV -> Jp, lenV -> Jq, indexAddrV -> Jr, unOp -> Js, minmaxV -> Jt, minmax -> Ju, sliceV -> Jv, asInt -> Jw, appendV -> Jx, copyV -> Jy, clearV -> Jz, convV -> J0, sliceCells -> J1, shift -> J2
open Bool renaming true -> BT, false -> BF
open Nat renaming reduceEqDiff -> J3, reduceLT -> J4, reduceAdd -> J5, reduceBEq -> J6, reduceSub -> J7, reduceMul -> J8, reduceLeDiff -> JG
open Int renaming reduceLT -> J9, reduceLE -> JA, reduceAdd -> JB, reduceSub -> JC, reduceNeg -> JD, reduceToNat -> JE, reduceEq -> JF
open Go.Proofs
structure NobI (v : V) (lp b m : Nat) (r : LoopR) (x3 x6 : Nat × List V) (H1 : Heap) (S : List In) (k : Nat) (H : Heap) : Prop where
  len : H1.length <= H.length
  old : ∀ i, i < H1.length -> i ≠ lp -> i ≠ m -> H[i]? = H1[i]?
  lp1 : loopAt H1 lp = some r
  mp1 : ∃ ex es c, H1[m]? = some (.map ex es c)
  tab : ∃ Lk, TabAt H b m Lk
  all : ∃ x16, loopAt H lp = some { r with l := [x3, x6, (1, [.int .i64 k]), (1, [.ptr b 0 0]), (1, [v]), (1, [.bool true]), x16] }
theorem NobI.keep {v : V} {lp b m : Nat} {r : LoopR} {x3 x6 : Nat × List V} {H1 H : Heap} {S : List In} {k : Nat} (h : NobI v lp b m r x3 x6 H1 S k H) : KeepC H1 H := by
  refine ⟨h.len, fun i g p hc => ?_⟩
  have hi := hcells_lt hc
  have hne : i ≠ lp := by
    rintro rfl
    have := loopAt_get h.lp1
    unfold hcells at hc
    rw [this] at hc; cases hc
  have hnm : i ≠ m := by
    rintro rfl
    obtain ⟨_, _, _, this⟩ := h.mp1
    unfold hcells at hc
    rw [this] at hc; cases hc
  unfold hcells at hc ⊢
  rw [h.old i hi hne hnm]; exact hc
theorem nob_loop {pb b m lp : Nat} {H0 : Heap} {L M : List In} {r : LoopR} (hpb : hcells H0 pb 0 = some (true, [.ptr b 0 0])) (ht : TabAt H0 b m L) (hl : L.length <= 5000) (hL : loopAt H0 lp = some r) (hr : NobRec r)
    {v : V} (hM : InsAt H0 v M) (hLM : L.map In.core = M.map In.core) {x3 x6 x16 : Nat × List V} (hrl : r.l = [x3, x6, (1, [.int .i64 0]), (1, [.ptr b 0 0]), (1, [v]), (1, [.bool true]), x16]) :
    Ev.Ok (D X (.fn 59 [.ptr pb 0 0]) [.yld lp] H0) fun y => ∃ H' x16', y = (.tup [], H') /\
      loopAt H' lp = some { r with l := [x3, x6, (1, [.int .i64 M.length]), (1, [.ptr b 0 0]), (1, [v]), (1, [.bool true]), x16'] } := by
  have hlp := loopAt_lt hL
  have hml : m < H0.length := by
    obtain ⟨_, _, _, hm, _⟩ := ht.map
    exact (List.getElem?_eq_some_iff.1 hm).1
  have hnM : (M.map In.key).Nodup := by rw [<- core_keys hLM]; exact ht.keys
  refine (each_at hpb ht hl (NobI v lp b m r x3 x6) ?_ ?_ ?_).mono ?_
  · intro l S hS
    obtain ⟨ex, es, c, hm, he⟩ := ht.map
    refine ⟨Nat.le_refl _, fun _ _ _ _ => rfl, by rw [loopAt_app hlp]; exact hL, ⟨ex, es, c, by rw [List.getElem?_append_left hml]; exact hm⟩, ⟨L, ht.keep (KeepC.app _ _) (List.getElem?_append_left hml)⟩, x16, ?_⟩
    rw [loopAt_app hlp, hL]
    obtain ⟨st, pe, fn, e, l, ps, asg, bd, le⟩ := r
    dsimp only at hrl
    subst hrl
    rfl
  · intro H1 S k H h
    exact ⟨h.keep, fun i h1 h2 => h.old i h2 (by omega) (by omega)⟩
  · intro l S k x H hS hx h hxa
    have hkp := h.keep
    obtain ⟨h1, h2, h3, h3', ⟨Lk, h4⟩, y16, h5⟩ := h
    have hkS := (List.getElem?_eq_some_iff.1 hx).1
    have hSl := hS.len
    obtain ⟨y, hyL, hyx⟩ := hS.core x (List.mem_of_getElem? hx)
    obtain ⟨w, hwM, hwy⟩ := core_of hLM hyL
    obtain ⟨i, u, f1, f2, f3⟩ := findL_core hnM hwM (hwy.trans hyx)
    refine (nob_round h5 ⟨hr.state, hr.pending, hr.fn, hr.params, hr.code, hr.lent, hr.len, hr.t10, hr.t12, hr.t13, hr.t14⟩ rfl h4 ((hM.keep (KeepC.app _ _)).keep hkp) f1 (by omega)).mono ?_
    rintro z ⟨H', z16, Lk', rfl, g1, g2, g3, g4⟩
    refine ⟨H', rfl, Nat.le_trans h1 g4.1, fun j hj hj1 hj2 => ?_, h3, h3', ⟨Lk', g2⟩, z16, g1⟩
    rw [g4.2 j (by omega) (by simp; exact ⟨hj2, hj1⟩), h2 j hj hj1 hj2]
  · rintro y ⟨l, S, H', rfl, hS, h⟩
    obtain ⟨h1, h2, h3, h3', h4, y16, h5⟩ := h
    rw [hS.len, core_len hLM] at h5
    exact ⟨H', y16, rfl, h5⟩
set_option maxHeartbeats 8000000 in
theorem instsNobody_at {h : Heap} {v0 : V} {l : List In} (hr : InsAt h v0 l) (o c q f t : Int) (v : V) : Ev.Ok (D X (.fn 10 []) [v0, .agg [.int .i64 o, .int .i64 c, .int .i64 q, .int .i64 f, .int .i64 t, v]] h) fun r => r.1 = .bool true := by
  refine Ok.aim fun Q hQ => ?_
  have hQ' := Hid.mk hQ
  clear hQ
  have hlv := D_pin (X := X) (f := 13) (b := true) rfl
  have q1 := fun h => get_nil (0, 1) h
  obtain ⟨yy, hord, l1, rfl⟩ := order_nil h [.int .i64 o, .int .i64 c, .int .i64 q, .int .i64 f, .int .i64 t, v] [.int .i64 0, .int .i64 0]
  have hrG := hr.keep (KeepC.app h l1)
  generalize h ++ l1 = G at hord hrG
  have q2 := fun h => eachF_nil h
  have q3 : ∀ (l : List Blk), D X (.fn 59 [.ptr G.length 0 0]) [.yld (G.length + 1)] (G ++ .cells 0 true [.nilp] :: l) = some (.tup [], G ++ .cells 0 true [.nilp] :: l) := fun l => each_nil (by rw [hcells_ge (Nat.le_refl _), Nat.sub_self]; exact grd_t rfl _)
  have q4 := fun h => len_nil h
  have q5 := fun h => next_nil h 0
  have q6 := fun h => clone_nil h
  have q7 := fun h => put_nil (h := h) ⟨0, 1, 0, 0, 0, 0, 0, false, 0, 0, 0, 0, 0, .sl .nil 0 0 0, [], 0, .sl .nil 0 0 0, []⟩
  simp only [inV,z0] at q1 q7
  obtain ⟨a0, cap0, z0', e0⟩ := hr.sl
  subst e0
  have hrG' := Hid.mk hrG
  clear hr hrG
  (refine Ok.body body10 pin10 ?_; simp only [c10,Try.f10,Option.getD_some,nslot10,List.append_nil,List.map,List.replicate,List.length_cons,List.length_nil,Nat.reduceAdd,Nat.reduceSub,List.cons_append,List.nil_append])
  (repeat' (first | (simp -implicitDefEqProofs (maxSteps := 1000000) (disch := first | assumption | omega | (simp only [ZDI]; omega)) only [*,lenV,eq_self,G10,Za,Zb,Zc,Zd,Ze,Zf,Zg,Zh,Zi,Zj,Zk,Zl,Zm,Zn,Zo,Ja,Jb,Jc,J3,Jd,Je,J4,J5,Jf,Jg,Jh,Ji,Jj,Jk,J6,Jl,Jm,wr,Jn,J7,J8,Jo,Jp,Jq,Jr,Js,Jt,Ju,Jv,Jw,Jx,Jy,Jz,J0,J1,J2,reduceCtorEq,J9,JA,JB,JC,JD,JE,JF,JG]) | ((with_reducible (first | apply Ok.br | apply Ok.gd | apply Ok.ld)) <;> (intro g; (try simp only [ZGS] at g); try (exfalso; omega)))))
  refine Ok.bnd2 (play_at (hrG'.out.keep (KeepC.app _ _))) ?_
  rintro vv g ⟨b, m, w, g', L, M, e3, hp, hM⟩
  simp only [Prod.mk.injEq] at e3
  obtain ⟨rfl, rfl⟩ := e3
  have hef := fun h => eachF_at b h
  obtain ⟨wa, wc, wz, rfl⟩ := hp.row.sl
  have hp' := Hid.mk hp
  clear hp hord q1 q2 q3 q4 q5 q6 q7
  (repeat' (first | (simp -implicitDefEqProofs (maxSteps := 1000000) (disch := first | assumption | omega | (simp only [ZDI]; omega)) only [*,lenV,G10,Za,Zb,Zc,Zd,Ze,Zf,Zg,Zh,Zi,Zj,Zk,Zl,Zm,Zn,Zo,Ja,Jb,Jc,J3,Jd,Je,J4,J5,Jf,Jg,Jh,Ji,Jj,Jk,J6,Jl,Jm,wr,Jn,J7,J8,Jo,Jp,Jq,Jr,Js,Jt,Ju,Jv,Jw,Jx,Jy,Jz,J0,J1,J2,reduceCtorEq,J9,JA,JB,JC,JD,JE,JF,JG]) | ((with_reducible (first | apply Ok.br | apply Ok.gd | apply Ok.ld)) <;> (intro g; (try simp only [ZGS] at g); try (exfalso; omega)))))
  clear hef
  refine Ok.bnd2 (nob_loop (lp := g.length + 1) (pb := g.length) (b := b) (m := m) (L := L) (M := M) (v := .sl wa M.length wc wz) (r := ?rr) (x3 := ?x3) (x6 := ?x6) (x16 := ?x16) ?hpb (hp'.out.tab.keep (KeepC.app g _) ?hmm) (by rw [core_len hp'.out.same]; omega) ?hL ?hr (hp'.out.row.keep (KeepC.app g _)) hp'.out.same ?hl) ?_
  case hpb => rw [hcells_ge (Nat.le_refl _), Nat.sub_self]; exact grd_t rfl _
  case hmm =>
    obtain ⟨_, _, _, h2, _⟩ := hp'.out.tab.map
    exact List.getElem?_append_left (List.getElem?_eq_some_iff.1 h2).1
  case hL => rw [loopAt_ge (by omega)]; simp only [Nat.add_sub_cancel_left]; rfl
  case hr => exact ⟨rfl, rfl, rfl, rfl, by simp only [c10,Try.f10,Option.getD_some,rangesOf,List.nil_append,List.append_nil,List.cons_append,List.getElem?_cons_zero,List.getElem?_cons_succ], rfl, rfl, rfl, rfl, rfl, rfl⟩
  case hl => rfl
  rintro v' H2 ⟨H3, y16, e3, hrec⟩
  simp only [Prod.mk.injEq] at e3
  obtain ⟨rfl, rfl⟩ := e3
  clear hp' hrG'
  simp -implicitDefEqProofs (maxSteps := 1000000) (disch := first | assumption | omega | (simp only [ZDI]; omega)) only [*,lenV,eq_self,G10,Za,Zb,Zc,Zd,Ze,Zf,Zg,Zh,Zi,Zj,Zk,Zl,Zm,Zn,Zo,Ja,Jb,Jc,J3,Jd,Je,J4,J5,Jf,Jg,Jh,Ji,Jj,Jk,J6,Jl,Jm,wr,Jn,J7,J8,Jo,Jp,Jq,Jr,Js,Jt,Ju,Jv,Jw,Jx,Jy,Jz,J0,J1,J2,reduceCtorEq,J9,JA,JB,JC,JD,JE,JF,JG]
  exact hQ'.out _ rfl
end Go.Ev
set_option maxRecDepth 100000
namespace Go.Ev
open Go.Ev renaming exPure -> Ja, ofValue -> Jb, cellsV -> Jc, load -> Jd, store -> Je, binOp -> Jf, intOp -> Jg, rdV -> Jh, vsame -> Ji, vsames -> Jj, makeSliceV -> Jk, resV -> Jl, isCell -> Jm, nilCheckV -> Jn, allV -> Jo, builtinV -> Jp, lenV -> Jq, indexAddrV -> Jr, unOp -> Js, minmaxV -> Jt, minmax -> Ju, sliceV -> Jv, asInt -> Jw, appendV -> Jx, copyV -> Jy, clearV -> Jz, convV -> J0, sliceCells -> J1, shift -> J2
open Bool renaming true -> BT, false -> BF
open Nat renaming reduceEqDiff -> J3, reduceLT -> J4, reduceAdd -> J5, reduceBEq -> J6, reduceSub -> J7, reduceMul -> J8, reduceLeDiff -> JG
open Int renaming reduceLT -> J9, reduceLE -> JA, reduceAdd -> JB, reduceSub -> JC, reduceNeg -> JD, reduceToNat -> JE, reduceEq -> JF
open Go.Proofs
def Fr (H : Heap) (v : V) (n z j : Nat) : Prop := ∃ a cap y, v = .sl a n cap y /\ (n = 0 \/ (a = .at j 0 0 /\ ∃ cs, hcells H j 0 = some (true, cs) /\ cs.length = n * z))
theorem ownSl_strsF {h : Heap} {v : V} {l : List ByteArray} (hs : StrsAt h v l) (hl : l.length <= 5000) (nx : Nat) : ∃ v' bl, ownSl h nx 1 v = some (v', bl) /\ (∀ h', KeepC h h' -> h.length <= nx -> (∀ k, k < bl.length -> h'[nx + k]? = bl[k]?) -> StrsAt h' v' l) /\
    ∃ a cap y, v' = .sl a l.length cap y /\ (l.length = 0 \/ (a = .at (nx + 1) 0 0 /\ bl.length = 2 /\ ∃ cs, bl[1]? = some (.cells 0 true cs) /\ cs.length = l.length * 1)) := by
  obtain ⟨v', bl, e, k⟩ := ownSl_strs hs hl nx
  refine ⟨v', bl, e, k, ?_⟩
  obtain ⟨a, cap, z, rfl, h1, _, h2⟩ := hs
  by_cases h0 : l.length = 0
  · obtain rfl : l = [] := List.length_eq_zero_iff.1 h0
    cases a <;> (cases e; exact ⟨_, _, _, rfl, .inl rfl⟩)
  · rcases h2 with rfl | ⟨b, g, o, rw, full, rfl, hc, hf⟩
    · exact absurd rfl h0
    · have hlen : o + l.length * 1 <= full.length := by
        have := hf (l.length - 1) _ (List.getElem?_eq_getElem (by omega))
        have := (List.getElem?_eq_some_iff.1 this).1
        omega
      rw [ownSl_at (by omega) hl hc hlen] at e
      cases e
      exact ⟨_, _, _, rfl, .inr ⟨rfl, rfl, _, rfl, by rw [List.length_take, List.length_drop]; omega⟩⟩
theorem ownSl_rowF {h : Heap} {v : V} {l : List RP} (hs : RowAt h v l) (hl : l.length <= 5000) (nx : Nat) : ∃ v' bl, ownSl h nx 2 v = some (v', bl) /\ (∀ h', KeepC h h' -> h.length <= nx -> (∀ k, k < bl.length -> h'[nx + k]? = bl[k]?) -> RowAt h' v' l) /\
    ∃ a cap y, v' = .sl a l.length cap y /\ (l.length = 0 \/ (a = .at (nx + 1) 0 0 /\ bl.length = 2 /\ ∃ cs, bl[1]? = some (.cells 0 true cs) /\ cs.length = l.length * 2)) := by
  obtain ⟨v', bl, e, k⟩ := ownSl_row hs hl nx
  refine ⟨v', bl, e, k, ?_⟩
  obtain ⟨a, cap, z, rfl, h1, _, h2⟩ := hs
  by_cases h0 : l.length = 0
  · obtain rfl : l = [] := List.length_eq_zero_iff.1 h0
    cases a <;> (cases e; exact ⟨_, _, _, rfl, .inl rfl⟩)
  · rcases h2 with rfl | ⟨b, g, o, rw, full, rfl, hc, hf, ho⟩
    · exact absurd rfl h0
    · rw [ownSl_at (by omega) hl hc ho] at e
      cases e
      exact ⟨_, _, _, rfl, .inr ⟨rfl, rfl, _, rfl, by rw [List.length_take, List.length_drop]; omega⟩⟩
set_option maxHeartbeats 4000000 in
theorem get_fresh {h : Heap} {b m : Nat} {L : List In} (ht : TabAt h b m L) (k : RP) :
    ∃ (x : In) (l : List Blk) (jd jp : Nat), D X (.fn 34 []) [.ptr b 0 0, .agg [.int .i64 k.1, .int .i64 k.2]] h = some (.tup [.agg (inV x), .bool (isL L k)], h ++ l) /\ h.length <= jd /\ h.length <= jp /\ jd ≠ jp /\ Fr (h ++ l) x.dv x.dl.length 1 jd /\ Fr (h ++ l) x.pv x.pl.length 2 jp /\ x.dl.length <= 5000 /\ x.pl.length <= 5000 := by
  obtain ⟨ex, es, c, hm, he⟩ := ht.map
  have hlk := fun e l => lookup_tab hm he k true e l
  have hg : InAt h (getL L k) /\ (getL L k).dl.length <= 5000 /\ (getL L k).pl.length <= 5000 := by
    unfold getL
    cases hx : L.find? (fun y => decide (k = y.key)) with
    | none => exact ⟨InAt.z0 h, by decide, by decide⟩
    | some y => exact ht.at_ y (List.mem_of_find?_eq_some hx)
  obtain ⟨dv', bd, e1, _, a1, c1, y1, f1, g1⟩ := ownSl_strsF hg.1.1 hg.2.1 h.length
  obtain ⟨pv', bp, e2, _, a2, c2, y2, f2, g2⟩ := ownSl_rowF hg.1.2 hg.2.2 (h.length + bd.length)
  have h1 : ownG h h.length (.agg (inV (getL L k))) = some (.agg (inV { getL L k with dv := dv', pv := pv' }), bd ++ bp) := ownG_mk rfl rfl rfl e1 e2
  have hp : Fr (h ++ (bd ++ bp)) pv' (getL L k).pl.length 2 (h.length + bd.length + 1) := by
    refine ⟨a2, c2, y2, f2, g2.imp id ?_⟩
    rintro ⟨r1, r2, cs, r3, r4⟩
    refine ⟨r1, cs, ?_, r4⟩
    rw [hcells_ge (by omega), show h.length + bd.length + 1 - h.length = bd.length + 1 by omega]
    unfold hcells
    rw [List.getElem?_append_right (by omega), Nat.add_sub_cancel_left, r3]
    exact grd_t rfl _
  have hd : ∃ jd, h.length <= jd /\ jd ≠ h.length + bd.length + 1 /\ Fr (h ++ (bd ++ bp)) dv' (getL L k).dl.length 1 jd := by
    rcases g1 with g1 | ⟨r1, r2, cs, r3, r4⟩
    · exact ⟨h.length + bd.length + 2, by omega, by omega, a1, c1, y1, f1, .inl g1⟩
    · refine ⟨h.length + 1, by omega, by omega, a1, c1, y1, f1, .inr ⟨r1, cs, ?_, r4⟩⟩
      rw [hcells_ge (by omega), Nat.add_sub_cancel_left]
      unfold hcells
      rw [List.getElem?_append_left (by omega), r3]
      exact grd_t rfl _
  obtain ⟨jd, d1, d2, d3⟩ := hd
  refine ⟨{ getL L k with dv := dv', pv := pv' }, bd ++ bp, jd, h.length + bd.length + 1, ?_, d1, by omega, d2, d3, hp, hg.2.1, hg.2.2⟩
  have hc := ht.cell
  have hown := own_at h1
  generalize isL L k = is at hlk ⊢
  generalize getL L k = y at hlk hown
  clear h1 hg he hm ht e1 e2 f1 f2 g2 hp d1 d2 d3
  simp only [inV,outV,cond_true] at hown hlk ⊢
  refine Ok.eq ?_
  (refine Ok.body body34 pin34 ?_; simp only [c34,Try.f34,Option.getD_some,nslot34,List.append_nil,List.map,List.replicate,List.length_cons,List.length_nil,Nat.reduceAdd,Nat.reduceSub,List.cons_append,List.nil_append])
  (repeat' (first | (simp -implicitDefEqProofs (maxSteps := 1000000) (disch := first | assumption | omega | (simp only [ZDI]; omega)) only [*,exOp_lookup,G34,Za,Zb,Zc,Zd,Ze,Zf,Zg,Zh,Zi,Zj,Zk,Zl,Zm,Zn,Zo,Ja,Jb,Jc,J3,Jd,Je,J4,J5,Jf,Jg,Jh,Ji,Jj,Jk,J6,Jl,Jm,wr,Jn,J7,J8,Jo,Jp,Jq,Jr,Js,Jt,Ju,Jv,Jw,Jx,Jy,Jz,J0,J1,J2,reduceCtorEq,J9,JA,JB,JC,JD,JE,JF,JG]) | ((with_reducible (first | apply Ok.br | apply Ok.gd | apply Ok.ld)) <;> (intro g; (try simp only [ZGS] at g); try (exfalso; omega)))))
end Go.Ev
set_option maxRecDepth 100000
namespace Go.Ev
open Go.Ev renaming exPure -> Ja, ofValue -> Jb, cellsV -> Jc, load -> Jd, store -> Je, binOp -> Jf, intOp -> Jg, rdV -> Jh, vsame -> Ji, vsames -> Jj, makeSliceV -> Jk, resV -> Jl, isCell -> Jm, nilCheckV -> Jn, allV -> Jo, builtinV -> Jp, lenV -> Jq, indexAddrV -> Jr, unOp -> Js, minmaxV -> Jt, minmax -> Ju, sliceV -> Jv, asInt -> Jw, appendV -> Jx, copyV -> Jy, clearV -> Jz, convV -> J0, sliceCells -> J1, shift -> J2
open Bool renaming true -> BT, false -> BF
open Nat renaming reduceEqDiff -> J3, reduceLT -> J4, reduceAdd -> J5, reduceBEq -> J6, reduceSub -> J7, reduceMul -> J8, reduceLeDiff -> JG
open Int renaming reduceLT -> J9, reduceLE -> JA, reduceAdd -> JB, reduceSub -> JC, reduceNeg -> JD, reduceToNat -> JE, reduceEq -> JF
open Go.Proofs
def FrB (H : Heap) (j n z : Nat) : Prop := n = 0 \/ ∃ cs, hcells H j 0 = some (true, cs) /\ cs.length = n * z
theorem FrB.set_ne {H : Heap} {j n z k : Nat} {x : Blk} (h : FrB H j n z) (e : j ≠ k) : FrB (H.set k x) j n z := h.imp id fun ⟨cs, h1, h2⟩ => ⟨cs, by rw [hcells_set_ne e]; exact h1, h2⟩
theorem Keeps.keepC {h g : Heap} (k : Keeps [] h g) : KeepC h g := ⟨k.1, fun _ _ _ e => k.cells e (by simp)⟩
theorem TabAt.keeps {h g : Heap} {b m : Nat} {L : List In} (ht : TabAt h b m L) (k : Keeps [] h g) : TabAt g b m L := by
  obtain ⟨_, _, _, hm, _⟩ := ht.map
  exact ht.keep k.keepC (k.2 m (List.getElem?_eq_some_iff.1 hm).1 (by simp))
theorem putL_self (L : List In) (x : In) : x ∈ putL L x := by
  unfold putL
  split
  · rename_i h
    obtain ⟨y, hy, e⟩ := List.mem_map.1 h
    exact List.mem_map.2 ⟨y, hy, by rw [if_pos e]⟩
  · simp
theorem getL_self {L : List In} {x : In} (hn : (L.map In.key).Nodup) (hx : x ∈ L) : getL L x.key = x := by
  obtain ⟨h1, h2⟩ := getL_mem (List.mem_map.2 ⟨x, hx, rfl⟩ : x.key ∈ L.map In.key)
  exact key_inj hn _ h1 x hx h2
set_option maxHeartbeats 16000000 in
theorem instsApart_at {h : Heap} {v0 : V} {l : List In} (hr : InsAt h v0 l) {x0 : In} (hx0 : InAt h x0) : Ev.Ok (D X (.fn 9 []) [v0, .agg (inV x0)] h) fun r => r.1 = .bool true := by
  refine Ok.aim fun Q hQ => ?_
  have hQ' := Hid.mk hQ
  clear hQ
  have hlv := D_pin (X := X) (f := 13) (b := true) rfl
  have hlight := light_at hx0
  generalize (lightB 0 0 x0.dl && decide ((x0.pl.length : Int) <= 5000)) = lb at hlight
  obtain ⟨yy, hplay, b, m, w, g, L, M, rfl, hp, hM⟩ := play_at hr
  obtain ⟨a0, cap0, z0', e0⟩ := hr.sl
  subst e0
  obtain ⟨l1, L', hclone, ht2, hcore⟩ := clone_at hp.tab
  have hml : m < g.length /\ b < g.length := by
    obtain ⟨_, _, _, hm, _⟩ := hp.tab.map
    exact ⟨(List.getElem?_eq_some_iff.1 hm).1, hcells_lt hp.tab.cell⟩
  have ht1 : TabAt (g ++ l1) b m L := hp.tab.keep (KeepC.app _ _) (List.getElem?_append_left hml.1)
  have hrow := hp.row.keep (KeepC.app g l1)
  have hx1 := (hx0.keep hp.ext.keepC).keep (KeepC.app g l1)
  have hmm : m ≠ g.length := by omega
  have hsame := hp.same
  obtain ⟨b2, hb2⟩ : ∃ b2, g.length + 1 = b2 := ⟨_, rfl⟩
  obtain ⟨m2, hm2⟩ : ∃ m2, g.length = m2 := ⟨_, rfl⟩
  rw [hb2] at hclone ht2
  rw [hm2] at ht2 hmm
  obtain ⟨g1, hg1⟩ : ∃ g1, g ++ l1 = g1 := ⟨_, rfl⟩
  rw [hg1] at hclone ht1 ht2 hrow hx1
  obtain ⟨wa, wc, wz, rfl⟩ := hp.row.sl
  have ht1' := Hid.mk ht1
  have ht2' := Hid.mk ht2
  have hrow' := Hid.mk hrow
  have hx1' := Hid.mk hx1
  have hsame' := Hid.mk hsame
  have hcore' := Hid.mk hcore
  clear hp hml ht1 ht2 hrow hx1 hsame hcore hb2 hm2 hg1 hr hx0
  cases lb with
  | false =>
    simp only [inV] at *
    (refine Ok.body body9 pin9 ?_; simp only [c9,Try.f9,Option.getD_some,nslot9,List.append_nil,List.map,List.replicate,List.length_cons,List.length_nil,Nat.reduceAdd,Nat.reduceSub,List.cons_append,List.nil_append])
    (repeat' (first | (simp -implicitDefEqProofs (maxSteps := 1000000) (disch := first | assumption | omega | (simp only [ZDI]; omega)) only [*,lenV,G9,Za,Zb,Zc,Zd,Ze,Zf,Zg,Zh,Zi,Zj,Zk,Zl,Zm,Zn,Zo,Ja,Jb,Jc,J3,Jd,Je,J4,J5,Jf,Jg,Jh,Ji,Jj,Jk,J6,Jl,Jm,wr,Jn,J7,J8,Jo,Jp,Jq,Jr,Js,Jt,Ju,Jv,Jw,Jx,Jy,Jz,J0,J1,J2,reduceCtorEq,J9,JA,JB,JC,JD,JE,JF,JG]) | ((with_reducible (first | apply Ok.br | apply Ok.gd | apply Ok.ld)) <;> (intro g; (try simp only [ZGS] at g); try (exfalso; omega)))))
    exact hQ'.out _ rfl
  | true =>
    simp only [inV] at hlight ⊢
    (refine Ok.body body9 pin9 ?_; simp only [c9,Try.f9,Option.getD_some,nslot9,List.append_nil,List.map,List.replicate,List.length_cons,List.length_nil,Nat.reduceAdd,Nat.reduceSub,List.cons_append,List.nil_append])
    (repeat' (first | (simp -implicitDefEqProofs (maxSteps := 1000000) (disch := first | assumption | omega | (simp only [ZDI]; omega)) only [*,lenV,G9,Za,Zb,Zc,Zd,Ze,Zf,Zg,Zh,Zi,Zj,Zk,Zl,Zm,Zn,Zo,Ja,Jb,Jc,J3,Jd,Je,J4,J5,Jf,Jg,Jh,Ji,Jj,Jk,J6,Jl,Jm,wr,Jn,J7,J8,Jo,Jp,Jq,Jr,Js,Jt,Ju,Jv,Jw,Jx,Jy,Jz,J0,J1,J2,reduceCtorEq,J9,JA,JB,JC,JD,JE,JF,JG]) | ((with_reducible (first | apply Ok.br | apply Ok.gd | apply Ok.ld)) <;> (intro g; (try simp only [ZGS] at g); try (exfalso; omega)))))
    clear hlight hplay hclone
    obtain ⟨va, vc, vz, e1, hv1, hMin, hv2⟩ := hrow'.out
    cases e1
    have hMin' := Hid.mk hMin
    clear hMin
    refine Ok.loop [BF, BF, BF, BF, BF, BF, BF, BF, BF, BF, BT, BT, BT, BT, BT, BF, BF, BF, BF, BF, BF, BF, BF, BF, BF, BF, BF, BF, BF, BF, BF, BF, BF, BF, BF, BF, BF, BT, BT, BT, BT, BT, BT, BT, BT, BT, BT, BT, BT, BT, BT, BT, BT, BT, BT, BT, BT, BT, BT, BT, BT, BT, BT, BT, BT, BT, BT, BT, BT, BT, BT, BT, BT, BT, BF, BF, BF, BF, BF, BF, BF, BF, BF, BF, BF, BF, BF, BF, BF, BF, BF, BF, BF, BF, BF, BF, BF, BF, BF, BF, BF, BF, BF, BF, BF, BF, BF, BF, BF, BF, BF, BF, BF, BF, BF, BF, BF, BF, BF, BF, BF, BF, BF, BF, BF, BF, BF] (fun n s2 => ∃ (i w1 w2 : Nat) (q1 q2 : List V) (y3 y4 y5 : Nat × List V), n = M.length - i /\ i <= M.length /\ tv s2.e 37 = .v (.int .i64 i) /\ s2.l = [(1, [.int .i64 x0.l, .int .i64 x0.i, .int .i64 x0.bn, .int .i64 x0.bd, .int .i64 x0.vn, .int .i64 x0.vd, .int .i64 x0.st, .bool x0.sm, .int .i64 x0.o, .int .i64 x0.c, .int .i64 x0.q, .int .i64 x0.f, .int .i64 x0.t, x0.dv, .int .i64 x0.sq, x0.pv]), (w1, q1), (w2, q2), y3, y4, y5] /\ Keeps [] g1 s2.h)
      (fun y s2 => y = .exit 0 /\ (∃ (w1 w2 : Nat) (q1 q2 : List V) (y3 y4 y5 : Nat × List V), s2.l = [(1, [.int .i64 x0.l, .int .i64 x0.i, .int .i64 x0.bn, .int .i64 x0.bd, .int .i64 x0.vn, .int .i64 x0.vd, .int .i64 x0.st, .bool x0.sm, .int .i64 x0.o, .int .i64 x0.c, .int .i64 x0.q, .int .i64 x0.f, .int .i64 x0.t, x0.dv, .int .i64 x0.sq, x0.pv]), (w1, q1), (w2, q2), y3, y4, y5]) /\ Keeps [] g1 s2.h) (M.length - 0) ⟨0, 0, 0, [], [], _, _, _, rfl, Nat.zero_le _, rfl, rfl, .refl _ _⟩ ?_ ?_
    · intro n ⟨e', l', H⟩ hW ⟨i, w1, w2, q1, q2, y3, y4, y5, hm, hi, h9, k2, hk⟩
      dsimp only at hW h9 k2 hk
      subst l'
      rw [hW.spread]
      simp only [spread_t,spread_f,spread_n,Nat.zero_add,Nat.reduceAdd,h9]
      clear hW hQ'
      by_cases hlt : i < M.length
      · have hlt' : (i : Int) < (M.length : Int) := by omega
        have g1' : 0 <= (i : Int) /\ (i : Int) < (M.length : Int) := by omega
        rcases hv2 with rfl | ⟨bb, qq, oo, rw, full, rfl, hbc, hfull, ho⟩
        · simp at hlt
        · obtain ⟨y, hy⟩ : ∃ y, M[i]? = some y := ⟨_, List.getElem?_eq_getElem hlt⟩
          have hf := hfull i _ hy
          simp only [inV] at hf
          have ho2 : oo + i * 16 + 16 <= full.length := by omega
          have hbc2 := hk.cells hbc (by simp)
          obtain ⟨x, l2, jd, jp, hget, hj1, hj2, hj3, hfd, hfp, hd5, hp5⟩ := get_fresh (ht1'.out.keeps hk) y.key
          have hkl := hk.1
          have hka := Hid.mk (hk.trans (Keeps.app [] H l2))
          obtain ⟨da, dc, dy, ed, hfd⟩ := hfd
          obtain ⟨pa, pc, py, ep, hfp⟩ := hfp
          have hfb : FrB (H ++ l2) jd x.dl.length 1 := hfd.imp id fun ⟨_, h⟩ => h
          have hpb : FrB (H ++ l2) jp x.pl.length 2 := hfp.imp id fun ⟨_, h⟩ => h
          have hda : x.dl.length = 0 \/ da = .at jd 0 0 := hfd.imp id fun ⟨h, _⟩ => h
          have hpa : x.pl.length = 0 \/ pa = .at jp 0 0 := hfp.imp id fun ⟨h, _⟩ => h
          simp only [inV,In.key,ed,ep] at hget
          generalize isL L y.key = tf at hget
          obtain ⟨nd, hnd⟩ : ∃ nd, x.dl.length = nd := ⟨_, rfl⟩
          obtain ⟨np, hnp⟩ : ∃ np, x.pl.length = np := ⟨_, rfl⟩
          rw [hnd] at hget hfb hda hd5
          rw [hnp] at hget hpb hpa hp5
          obtain ⟨G, hG⟩ : ∃ G, H ++ l2 = G := ⟨_, rfl⟩
          rw [hG] at hget hfb hpb hka
          have hfb' := Hid.mk hfb
          have hpb' := Hid.mk hpb
          clear hfull ho hy hbc hk hfd hfp ed ep hnd hnp hG hfb hpb
          (repeat' (first | (simp -implicitDefEqProofs (maxSteps := 1000000) (disch := first | assumption | omega | (simp only [ZDI]; omega)) only [*,lenV,G9,Za,Zb,Zc,Zd,Ze,Zf,Zg,Zh,Zi,Zj,Zk,Zl,Zm,Zn,Zo,Ja,Jb,Jc,J3,Jd,Je,J4,J5,Jf,Jg,Jh,Ji,Jj,Jk,J6,Jl,Jm,wr,Jn,J7,J8,Jo,Jp,Jq,Jr,Js,Jt,Ju,Jv,Jw,Jx,Jy,Jz,J0,J1,J2,reduceCtorEq,J9,JA,JB,JC,JD,JE,JF,JG]) | ((with_reducible (first | apply Ok.br | apply Ok.gd | apply Ok.ld)) <;> (intro g; (try simp only [ZGS] at g); try (exfalso; omega)))))
          clear hget hf hbc2
          refine Ok.loop [BF, BF, BF, BF, BF, BF, BF, BF, BF, BF, BF, BF, BF, BT, BF, BF, BF, BF, BF, BF, BF, BF, BF, BF, BF, BF, BF, BF, BF, BF, BF, BF, BF, BF, BF, BF, BF, BF, BF, BF, BF, BF, BF, BF, BF, BF, BF, BF, BF, BF, BF, BT, BT, BT, BT, BT, BT, BT, BT, BT, BF, BF, BF, BF, BF, BF, BF, BF, BF, BF, BF, BF, BF, BF, BF, BF, BF, BF, BF, BF, BF, BF, BF, BF, BF, BF, BF, BF, BF, BF, BF, BF, BF, BF, BF, BF, BF, BF, BF, BF, BF, BF, BF, BF, BF, BF, BF, BF, BF, BF, BF, BF, BF, BF, BF, BF, BF, BF, BF, BF, BF, BF, BF, BF, BF, BF, BF] (fun n s2 => ∃ (i2 : Nat), n = np - i2 /\ i2 <= np /\ tv s2.e 51 = .v (.int .i64 i2) /\ s2.l = [(1, [.int .i64 x0.l, .int .i64 x0.i, .int .i64 x0.bn, .int .i64 x0.bd, .int .i64 x0.vn, .int .i64 x0.vd, .int .i64 x0.st, .bool x0.sm, .int .i64 x0.o, .int .i64 x0.c, .int .i64 x0.q, .int .i64 x0.f, .int .i64 x0.t, x0.dv, .int .i64 x0.sq, x0.pv]), (w1 + 1, [.int .i64 y.l, .int .i64 y.i, .int .i64 y.bn, .int .i64 y.bd, .int .i64 y.vn, .int .i64 y.vd, .int .i64 y.st, .bool y.sm, .int .i64 y.o, .int .i64 y.c, .int .i64 y.q, .int .i64 y.f, .int .i64 y.t, y.dv, .int .i64 y.sq, y.pv]), (w2 + 1, [.int .i64 x.l, .int .i64 x.i, .int .i64 x.bn, .int .i64 x.bd, .int .i64 x.vn, .int .i64 x.vd, .int .i64 x.st, .bool x.sm, .int .i64 x.o, .int .i64 x.c, .int .i64 x.q, .int .i64 x.f, .int .i64 x.t, .sl da nd dc dy, .int .i64 x.sq, .sl pa np pc py]), y3, y4, y5] /\ Keeps [] g1 s2.h /\ FrB s2.h jd nd 1 /\ FrB s2.h jp np 2)
            (fun z s2 => z = .exit 2 /\ s2.l = [(1, [.int .i64 x0.l, .int .i64 x0.i, .int .i64 x0.bn, .int .i64 x0.bd, .int .i64 x0.vn, .int .i64 x0.vd, .int .i64 x0.st, .bool x0.sm, .int .i64 x0.o, .int .i64 x0.c, .int .i64 x0.q, .int .i64 x0.f, .int .i64 x0.t, x0.dv, .int .i64 x0.sq, x0.pv]), (w1 + 1, [.int .i64 y.l, .int .i64 y.i, .int .i64 y.bn, .int .i64 y.bd, .int .i64 y.vn, .int .i64 y.vd, .int .i64 y.st, .bool y.sm, .int .i64 y.o, .int .i64 y.c, .int .i64 y.q, .int .i64 y.f, .int .i64 y.t, y.dv, .int .i64 y.sq, y.pv]), (w2 + 1, [.int .i64 x.l, .int .i64 x.i, .int .i64 x.bn, .int .i64 x.bd, .int .i64 x.vn, .int .i64 x.vd, .int .i64 x.st, .bool x.sm, .int .i64 x.o, .int .i64 x.c, .int .i64 x.q, .int .i64 x.f, .int .i64 x.t, .sl da nd dc dy, .int .i64 x.sq, .sl pa np pc py]), y3, y4, y5] /\ Keeps [] g1 s2.h /\ FrB s2.h jd nd 1) (np - 0) ⟨0, rfl, Nat.zero_le _, rfl, by first | rfl | (simp only [Nat.zero_add]; rfl), hka.out, hfb'.out, hpb'.out⟩ ?_ ?_
          · intro n2 ⟨e2, l3, H3⟩ hW2 ⟨i2, hm2, hi2, h51, k3, hk3, hfd3, hfp3⟩
            dsimp only at hW2 h51 k3 hk3 hfd3 hfp3
            subst l3
            rw [hW2.spread]
            simp only [spread_t,spread_f,spread_n,Nat.zero_add,Nat.reduceAdd,h51]
            clear hW2
            have hk3' := Hid.mk hk3
            have hfd3' := Hid.mk hfd3
            clear hk3 hfd3
            by_cases hlt2 : i2 < np
            · have hlt2' : (i2 : Int) < (np : Int) := by omega
              have g2 : 0 <= (i2 : Int) /\ (i2 : Int) < (np : Int) := by omega
              rcases hpa with h0 | rfl
              · omega
              rcases hfp3 with h0 | ⟨cs, hc3, hcl⟩
              · omega
              have ho3 : i2 * 2 + 2 <= cs.length := by omega
              have hc3l := hcells_lt hc3
              have hjg : g1.length <= jp := by omega
              (repeat' (first | (simp -implicitDefEqProofs (maxSteps := 1000000) (disch := first | assumption | omega | (simp only [ZDI]; omega)) only [*,lenV,G9,Za,Zb,Zc,Zd,Ze,Zf,Zg,Zh,Zi,Zj,Zk,Zl,Zm,Zn,Zo,Ja,Jb,Jc,J3,Jd,Je,J4,J5,Jf,Jg,Jh,Ji,Jj,Jk,J6,Jl,Jm,wr,Jn,J7,J8,Jo,Jp,Jq,Jr,Js,Jt,Ju,Jv,Jw,Jx,Jy,Jz,J0,J1,J2,reduceCtorEq,J9,JA,JB,JC,JD,JE,JF,JG]) | ((with_reducible (first | apply Ok.br | apply Ok.gd | apply Ok.ld)) <;> (intro g; (try simp only [ZGS] at g); try (exfalso; omega)))))
              refine Turn.next (np - (i2 + 1)) (by omega) ⟨rfl, i2 + 1, rfl, by omega, rfl, rfl, Keeps.set hk3'.out (.inr hjg) _, hfd3'.out.set_ne hj3, .inr ⟨_, hcells_set_eq hc3l, ?_⟩⟩
              simp only [List.length_append,List.length_cons,List.length_nil,List.length_take,List.length_drop]; omega
            · have hlt2' : ¬ (i2 : Int) < (np : Int) := by omega
              (repeat' (first | (simp -implicitDefEqProofs (maxSteps := 1000000) (disch := first | assumption | omega | (simp only [ZDI]; omega)) only [*,lenV,G9,Za,Zb,Zc,Zd,Ze,Zf,Zg,Zh,Zi,Zj,Zk,Zl,Zm,Zn,Zo,Ja,Jb,Jc,J3,Jd,Je,J4,J5,Jf,Jg,Jh,Ji,Jj,Jk,J6,Jl,Jm,wr,Jn,J7,J8,Jo,Jp,Jq,Jr,Js,Jt,Ju,Jv,Jw,Jx,Jy,Jz,J0,J1,J2,reduceCtorEq,J9,JA,JB,JC,JD,JE,JF,JG]) | ((with_reducible (first | apply Ok.br | apply Ok.gd | apply Ok.ld)) <;> (intro g; (try simp only [ZGS] at g); try (exfalso; omega)))))
              exact Turn.exit ⟨rfl, rfl, rfl, hk3'.out, hfd3'.out⟩
          · intro z ⟨e2, l3, H3⟩ hW2 ⟨hz, k3, hk3, hfd3⟩
            dsimp only at hW2 k3 hk3 hfd3
            subst l3 hz
            rw [hW2.spread]
            simp only [spread_t,spread_f,spread_n,Nat.zero_add,Nat.reduceAdd]
            clear hW2 hka hfb' hpb'
            have hk3' := Hid.mk hk3
            have hfd3' := Hid.mk hfd3
            clear hk3 hfd3
            (repeat' (first | (simp -implicitDefEqProofs (maxSteps := 1000000) (disch := first | assumption | omega | (simp only [ZDI]; omega)) only [*,lenV,G9,Za,Zb,Zc,Zd,Ze,Zf,Zg,Zh,Zi,Zj,Zk,Zl,Zm,Zn,Zo,Ja,Jb,Jc,J3,Jd,Je,J4,J5,Jf,Jg,Jh,Ji,Jj,Jk,J6,Jl,Jm,wr,Jn,J7,J8,Jo,Jp,Jq,Jr,Js,Jt,Ju,Jv,Jw,Jx,Jy,Jz,J0,J1,J2,reduceCtorEq,J9,JA,JB,JC,JD,JE,JF,JG]) | ((with_reducible (first | apply Ok.br | apply Ok.gd | apply Ok.ld)) <;> (intro g; (try simp only [ZGS] at g); try (exfalso; omega)))))
            refine Ok.loop [BF, BF, BF, BF, BF, BF, BF, BF, BF, BF, BF, BF, BF, BF, BT, BF, BF, BF, BF, BF, BF, BF, BF, BF, BF, BF, BF, BF, BF, BF, BF, BF, BF, BF, BF, BF, BF, BF, BF, BF, BF, BF, BF, BF, BF, BF, BF, BF, BF, BF, BF, BF, BF, BF, BF, BF, BF, BF, BF, BF, BF, BF, BF, BF, BT, BT, BT, BT, BT, BT, BT, BT, BT, BF, BF, BF, BF, BF, BF, BF, BF, BF, BF, BF, BF, BF, BF, BF, BF, BF, BF, BF, BF, BF, BF, BF, BF, BF, BF, BF, BF, BF, BF, BF, BF, BF, BF, BF, BF, BF, BF, BF, BF, BF, BF, BF, BF, BF, BF, BF, BF, BF, BF, BF, BF, BF, BF] (fun n s2 => ∃ (i2 : Nat), n = nd - i2 /\ i2 <= nd /\ tv s2.e 64 = .v (.int .i64 i2) /\ s2.l = [(1, [.int .i64 x0.l, .int .i64 x0.i, .int .i64 x0.bn, .int .i64 x0.bd, .int .i64 x0.vn, .int .i64 x0.vd, .int .i64 x0.st, .bool x0.sm, .int .i64 x0.o, .int .i64 x0.c, .int .i64 x0.q, .int .i64 x0.f, .int .i64 x0.t, x0.dv, .int .i64 x0.sq, x0.pv]), (w1 + 1, [.int .i64 y.l, .int .i64 y.i, .int .i64 y.bn, .int .i64 y.bd, .int .i64 y.vn, .int .i64 y.vd, .int .i64 y.st, .bool y.sm, .int .i64 y.o, .int .i64 y.c, .int .i64 y.q, .int .i64 y.f, .int .i64 y.t, y.dv, .int .i64 y.sq, y.pv]), (w2 + 1, [.int .i64 x.l, .int .i64 x.i, .int .i64 x.bn, .int .i64 x.bd, .int .i64 x.vn, .int .i64 x.vd, .int .i64 x.st, .bool x.sm, .int .i64 x.o, .int .i64 x.c, .int .i64 x.q, .int .i64 x.f, .int .i64 x.t, .sl da nd dc dy, .int .i64 x.sq, .sl pa np pc py]), y3, y4, y5] /\ Keeps [] g1 s2.h /\ FrB s2.h jd nd 1)
              (fun z s2 => z = .exit 4 /\ s2.l = [(1, [.int .i64 x0.l, .int .i64 x0.i, .int .i64 x0.bn, .int .i64 x0.bd, .int .i64 x0.vn, .int .i64 x0.vd, .int .i64 x0.st, .bool x0.sm, .int .i64 x0.o, .int .i64 x0.c, .int .i64 x0.q, .int .i64 x0.f, .int .i64 x0.t, x0.dv, .int .i64 x0.sq, x0.pv]), (w1 + 1, [.int .i64 y.l, .int .i64 y.i, .int .i64 y.bn, .int .i64 y.bd, .int .i64 y.vn, .int .i64 y.vd, .int .i64 y.st, .bool y.sm, .int .i64 y.o, .int .i64 y.c, .int .i64 y.q, .int .i64 y.f, .int .i64 y.t, y.dv, .int .i64 y.sq, y.pv]), (w2 + 1, [.int .i64 x.l, .int .i64 x.i, .int .i64 x.bn, .int .i64 x.bd, .int .i64 x.vn, .int .i64 x.vd, .int .i64 x.st, .bool x.sm, .int .i64 x.o, .int .i64 x.c, .int .i64 x.q, .int .i64 x.f, .int .i64 x.t, .sl da nd dc dy, .int .i64 x.sq, .sl pa np pc py]), y3, y4, y5] /\ Keeps [] g1 s2.h) (nd - 0) ⟨0, rfl, Nat.zero_le _, rfl, rfl, hk3'.out, hfd3'.out⟩ ?_ ?_
            · intro n2 ⟨e4, l5, H5⟩ hW2 ⟨i2, hm2, hi2, h64, k5, hk5, hfd5⟩
              dsimp only at hW2 h64 k5 hk5 hfd5
              subst l5
              rw [hW2.spread]
              simp only [spread_t,spread_f,spread_n,Nat.zero_add,Nat.reduceAdd,h64]
              clear hW2
              have hk5' := Hid.mk hk5
              clear hk5
              by_cases hlt2 : i2 < nd
              · have hlt2' : (i2 : Int) < (nd : Int) := by omega
                have g2 : 0 <= (i2 : Int) /\ (i2 : Int) < (nd : Int) := by omega
                rcases hda with h0 | rfl
                · omega
                rcases hfd5 with h0 | ⟨cs, hc3, hcl⟩
                · omega
                have ho3 : i2 * 1 + 1 <= cs.length := by omega
                have ho4 : i2 + 1 <= cs.length := by omega
                have hc3l := hcells_lt hc3
                have hjg : g1.length <= jd := by omega
                (repeat' (first | (simp -implicitDefEqProofs (maxSteps := 1000000) (disch := first | assumption | omega | (simp only [ZDI]; omega)) only [*,lenV,G9,Za,Zb,Zc,Zd,Ze,Zf,Zg,Zh,Zi,Zj,Zk,Zl,Zm,Zn,Zo,Ja,Jb,Jc,J3,Jd,Je,J4,J5,Jf,Jg,Jh,Ji,Jj,Jk,J6,Jl,Jm,wr,Jn,J7,J8,Jo,Jp,Jq,Jr,Js,Jt,Ju,Jv,Jw,Jx,Jy,Jz,J0,J1,J2,reduceCtorEq,J9,JA,JB,JC,JD,JE,JF,JG]) | ((with_reducible (first | apply Ok.br | apply Ok.gd | apply Ok.ld)) <;> (intro g; (try simp only [ZGS] at g); try (exfalso; omega)))))
                refine Turn.next (nd - (i2 + 1)) (by omega) ⟨rfl, i2 + 1, rfl, by omega, rfl, rfl, Keeps.set hk5'.out (.inr hjg) _, .inr ⟨_, hcells_set_eq hc3l, ?_⟩⟩
                first | omega | (simp; omega)
              · have hlt2' : ¬ (i2 : Int) < (nd : Int) := by omega
                (repeat' (first | (simp -implicitDefEqProofs (maxSteps := 1000000) (disch := first | assumption | omega | (simp only [ZDI]; omega)) only [*,lenV,G9,Za,Zb,Zc,Zd,Ze,Zf,Zg,Zh,Zi,Zj,Zk,Zl,Zm,Zn,Zo,Ja,Jb,Jc,J3,Jd,Je,J4,J5,Jf,Jg,Jh,Ji,Jj,Jk,J6,Jl,Jm,wr,Jn,J7,J8,Jo,Jp,Jq,Jr,Js,Jt,Ju,Jv,Jw,Jx,Jy,Jz,J0,J1,J2,reduceCtorEq,J9,JA,JB,JC,JD,JE,JF,JG]) | ((with_reducible (first | apply Ok.br | apply Ok.gd | apply Ok.ld)) <;> (intro g; (try simp only [ZGS] at g); try (exfalso; omega)))))
                exact Turn.exit ⟨rfl, rfl, rfl, hk5'.out⟩
            · intro z ⟨e4, l5, H5⟩ hW2 ⟨hz, k5, hk5⟩
              dsimp only at hW2 k5 hk5
              subst l5 hz
              rw [hW2.spread]
              simp only [spread_t,spread_f,spread_n,Nat.zero_add,Nat.reduceAdd]
              clear hW2
              have hk5' := Hid.mk hk5
              clear hk5
              (repeat' (first | (simp -implicitDefEqProofs (maxSteps := 1000000) (disch := first | assumption | omega | (simp only [ZDI]; omega)) only [*,lenV,G9,Za,Zb,Zc,Zd,Ze,Zf,Zg,Zh,Zi,Zj,Zk,Zl,Zm,Zn,Zo,Ja,Jb,Jc,J3,Jd,Je,J4,J5,Jf,Jg,Jh,Ji,Jj,Jk,J6,Jl,Jm,wr,Jn,J7,J8,Jo,Jp,Jq,Jr,Js,Jt,Ju,Jv,Jw,Jx,Jy,Jz,J0,J1,J2,reduceCtorEq,J9,JA,JB,JC,JD,JE,JF,JG]) | ((with_reducible (first | apply Ok.br | apply Ok.gd | apply Ok.ld)) <;> (intro g; (try simp only [ZGS] at g); try (exfalso; omega)))))
              exact Turn.next (M.length - (i + 1)) (by omega) ⟨rfl, i + 1, _, _, _, _, _, _, _, rfl, by omega, rfl, rfl, hk5'.out⟩
      · have hlt' : ¬ (i : Int) < (M.length : Int) := by omega
        have hk' := Hid.mk hk
        clear hk
        (repeat' (first | (simp -implicitDefEqProofs (maxSteps := 1000000) (disch := first | assumption | omega | (simp only [ZDI]; omega)) only [*,lenV,G9,Za,Zb,Zc,Zd,Ze,Zf,Zg,Zh,Zi,Zj,Zk,Zl,Zm,Zn,Zo,Ja,Jb,Jc,J3,Jd,Je,J4,J5,Jf,Jg,Jh,Ji,Jj,Jk,J6,Jl,Jm,wr,Jn,J7,J8,Jo,Jp,Jq,Jr,Js,Jt,Ju,Jv,Jw,Jx,Jy,Jz,J0,J1,J2,reduceCtorEq,J9,JA,JB,JC,JD,JE,JF,JG]) | ((with_reducible (first | apply Ok.br | apply Ok.gd | apply Ok.ld)) <;> (intro g; (try simp only [ZGS] at g); try (exfalso; omega)))))
        exact Turn.exit ⟨rfl, rfl, ⟨_, _, _, _, _, _, _, rfl⟩, hk'.out⟩
    · intro z ⟨e', l', H⟩ hW ⟨hz, ⟨w1, w2, q1, q2, y3, y4, y5, k2⟩, hk⟩
      dsimp only at hW k2 hk
      subst l' hz
      rw [hW.spread]
      simp only [spread_t,spread_f,spread_n,Nat.zero_add,Nat.reduceAdd]
      clear hW
      have hx2 := hx1'.out.keep hk.keepC
      obtain ⟨H3, x', hput, hxc, ht3, hkc, hk3⟩ := put_at (ht2'.out.keeps hk) hx2
      have htb : TabAt H3 b m L := by
        obtain ⟨_, _, _, hm, _⟩ := (ht1'.out.keeps hk).map
        exact (ht1'.out.keeps hk).keep hkc (hk3.2 m (List.getElem?_eq_some_iff.1 hm).1 (by simpa using hmm))
      have hx3 := hx2.keep hkc
      have hbk : ∀ bb qq p, hcells g1 bb qq = some p -> hcells H3 bb qq = some p := fun _ _ _ e => hkc.2 _ _ _ (hk.cells e (by simp))
      have hMin3 : ∀ x ∈ M, InAt H3 x := fun x hx => ((hMin'.out x hx).keep hk.keepC).keep hkc
      have hL60 : L'.length <= 60 := by rw [core_len hcore'.out, core_len hsame'.out]; exact hM
      have hkx : x'.key = x0.key := by have := congrArg In.key hxc; exact this
      have hprop : mayB x0 = true -> isL (if putE L' x0 = 0 then putL L' x' else L') x0.key = true /\ (getL (if putE L' x0 = 0 then putL L' x' else L') x0.key).core = x0.core := by
        intro hmb
        have he : putE L' x0 = 0 := by
          unfold putE
          rw [hmb, if_pos rfl, if_pos (.inr (by omega))]
        rw [if_pos he] at ht3 ⊢
        have h1 := getL_self ht3.keys (putL_self L' x')
        rw [hkx] at h1
        refine ⟨?_, by rw [h1]; exact hxc⟩
        rw [isL_iff, decide_eq_true_iff, <- hkx]
        exact List.mem_map.2 ⟨x', putL_self L' x', rfl⟩
      generalize (if putE L' x0 = 0 then putL L' x' else L') = L2 at ht3 hprop
      generalize putE L' x0 = pe at hput
      simp only [inV] at hput
      have htb' := Hid.mk htb
      have ht3' := Hid.mk ht3
      have hx3' := Hid.mk hx3
      have hMin3' := Hid.mk hMin3
      have hprop' := Hid.mk hprop
      have hbk' := Hid.mk hbk
      clear hk hx2 ht3 hkc hk3 htb hx3 hMin3 hprop hxc hkx hL60 hMin' hbk
      (repeat' (first | (simp -implicitDefEqProofs (maxSteps := 1000000) (disch := first | assumption | omega | (simp only [ZDI]; omega)) only [*,lenV,G9,Za,Zb,Zc,Zd,Ze,Zf,Zg,Zh,Zi,Zj,Zk,Zl,Zm,Zn,Zo,Ja,Jb,Jc,J3,Jd,Je,J4,J5,Jf,Jg,Jh,Ji,Jj,Jk,J6,Jl,Jm,wr,Jn,J7,J8,Jo,Jp,Jq,Jr,Js,Jt,Ju,Jv,Jw,Jx,Jy,Jz,J0,J1,J2,reduceCtorEq,J9,JA,JB,JC,JD,JE,JF,JG]) | ((with_reducible (first | apply Ok.br | apply Ok.gd | apply Ok.ld)) <;> (intro g; (try simp only [ZGS] at g); try (exfalso; omega)))))
      clear hput
      refine Ok.loop [BF, BF, BF, BF, BT, BF, BF, BF, BF, BF, BF, BF, BF, BF, BF, BF, BT, BT, BT, BF, BF, BF, BF, BF, BF, BF, BF, BF, BF, BF, BF, BF, BF, BF, BF, BF, BF, BF, BF, BF, BF, BF, BF, BF, BF, BF, BF, BF, BF, BF, BF, BF, BF, BF, BF, BF, BF, BF, BF, BF, BF, BF, BF, BF, BF, BF, BF, BF, BF, BF, BF, BF, BF, BF, BF, BF, BF, BF, BF, BT, BT, BT, BT, BT, BT, BT, BT, BT, BT, BT, BT, BT, BT, BT, BT, BT, BT, BT, BT, BF, BF, BF, BF, BF, BF, BF, BF, BF, BF, BF, BF, BF, BF, BF, BF, BF, BF, BF, BF, BF, BF, BF, BF, BF, BF, BF, BF] (fun n s2 => ∃ (i : Nat) (y3 y4 : Nat × List V), n = M.length - i /\ i <= M.length /\ tv s2.e 79 = .v (.int .i64 i) /\ s2.l = [(1, [.int .i64 x0.l, .int .i64 x0.i, .int .i64 x0.bn, .int .i64 x0.bd, .int .i64 x0.vn, .int .i64 x0.vd, .int .i64 x0.st, .bool x0.sm, .int .i64 x0.o, .int .i64 x0.c, .int .i64 x0.q, .int .i64 x0.f, .int .i64 x0.t, x0.dv, .int .i64 x0.sq, x0.pv]), (w1, q1), (w2, q2), y3, y4, y5] /\ Keeps [] H3 s2.h)
        (fun y s2 => y = .exit 6 /\ (∃ (y3 y4 : Nat × List V), s2.l = [(1, [.int .i64 x0.l, .int .i64 x0.i, .int .i64 x0.bn, .int .i64 x0.bd, .int .i64 x0.vn, .int .i64 x0.vd, .int .i64 x0.st, .bool x0.sm, .int .i64 x0.o, .int .i64 x0.c, .int .i64 x0.q, .int .i64 x0.f, .int .i64 x0.t, x0.dv, .int .i64 x0.sq, x0.pv]), (w1, q1), (w2, q2), y3, y4, y5]) /\ Keeps [] H3 s2.h) (M.length - 0) ⟨0, y3, y4, rfl, Nat.zero_le _, rfl, rfl, .refl _ _⟩ ?_ ?_
      · intro n ⟨e', l', Hc⟩ hW ⟨i, y3, y4, hm, hi, h9, k2, hk⟩
        dsimp only at hW h9 k2 hk
        subst l'
        rw [hW.spread]
        simp only [spread_t,spread_f,spread_n,Nat.zero_add,Nat.reduceAdd,h9]
        clear hW hQ'
        by_cases hlt : i < M.length
        · have hlt' : (i : Int) < (M.length : Int) := by omega
          have g1' : 0 <= (i : Int) /\ (i : Int) < (M.length : Int) := by omega
          rcases hv2 with rfl | ⟨bb, qq, oo, rw, full, rfl, hbc, hfull, ho⟩
          · simp at hlt
          · obtain ⟨y, hy⟩ : ∃ y, M[i]? = some y := ⟨_, List.getElem?_eq_getElem hlt⟩
            have hyM := List.mem_of_getElem? hy
            have hf := hfull i _ hy
            simp only [inV] at hf
            have ho2 : oo + i * 16 + 16 <= full.length := by omega
            have hbc2 := hk.cells (hbk'.out _ _ _ hbc) (by simp)
            obtain ⟨x, l2, hget, hxc, hxa⟩ := get_at (htb'.out.keeps hk) y.key
            have hkk := core_keys hsame'.out
            have hil : isL L y.key = true := by rw [isL_iff, decide_eq_true_iff, hkk]; exact List.mem_map.2 ⟨y, hyM, rfl⟩
            rw [hil] at hget
            obtain ⟨yL, hyL, hye⟩ := (core_of hsame'.out.symm hyM)
            have hgl : (getL L y.key).core = y.core := by
              have hke : yL.key = y.key := by have := congrArg In.key hye; exact this
              rw [<- hke, getL_self htb'.out.keys hyL, hye]
            have hs := rSame_at hxa (((hMin3'.out y hyM).keep hk.keepC).keep (KeepC.app _ l2))
            rw [smB_iff.2 (hxc.trans hgl)] at hs
            have hk' := Hid.mk (hk.trans (Keeps.app [] Hc l2))
            simp only [inV,In.key] at hget hs
            clear hfull ho hy hbc hk hkk hil hyL hye hgl hxc hxa hyM
            (repeat' (first | (simp -implicitDefEqProofs (maxSteps := 1000000) (disch := first | assumption | omega | (simp only [ZDI]; omega)) only [*,lenV,G9,Za,Zb,Zc,Zd,Ze,Zf,Zg,Zh,Zi,Zj,Zk,Zl,Zm,Zn,Zo,Ja,Jb,Jc,J3,Jd,Je,J4,J5,Jf,Jg,Jh,Ji,Jj,Jk,J6,Jl,Jm,wr,Jn,J7,J8,Jo,Jp,Jq,Jr,Js,Jt,Ju,Jv,Jw,Jx,Jy,Jz,J0,J1,J2,reduceCtorEq,J9,JA,JB,JC,JD,JE,JF,JG]) | ((with_reducible (first | apply Ok.br | apply Ok.gd | apply Ok.ld)) <;> (intro g; (try simp only [ZGS] at g); try (exfalso; omega)))))
            exact Turn.next (M.length - (i + 1)) (by omega) ⟨rfl, i + 1, _, _, rfl, by omega, rfl, rfl, hk'.out⟩
        · have hlt' : ¬ (i : Int) < (M.length : Int) := by omega
          have hk' := Hid.mk hk
          clear hk
          (repeat' (first | (simp -implicitDefEqProofs (maxSteps := 1000000) (disch := first | assumption | omega | (simp only [ZDI]; omega)) only [*,lenV,G9,Za,Zb,Zc,Zd,Ze,Zf,Zg,Zh,Zi,Zj,Zk,Zl,Zm,Zn,Zo,Ja,Jb,Jc,J3,Jd,Je,J4,J5,Jf,Jg,Jh,Ji,Jj,Jk,J6,Jl,Jm,wr,Jn,J7,J8,Jo,Jp,Jq,Jr,Js,Jt,Ju,Jv,Jw,Jx,Jy,Jz,J0,J1,J2,reduceCtorEq,J9,JA,JB,JC,JD,JE,JF,JG]) | ((with_reducible (first | apply Ok.br | apply Ok.gd | apply Ok.ld)) <;> (intro g; (try simp only [ZGS] at g); try (exfalso; omega)))))
          exact Turn.exit ⟨rfl, rfl, ⟨_, _, rfl⟩, hk'.out⟩
      · intro z ⟨e', l', Hc⟩ hW ⟨hz, ⟨y3, y4, k2⟩, hk⟩
        dsimp only at hW k2 hk
        subst l' hz
        rw [hW.spread]
        simp only [spread_t,spread_f,spread_n,Nat.zero_add,Nat.reduceAdd]
        clear hW
        obtain ⟨x, l2, hget, hxc, hxa⟩ := get_at (ht3'.out.keeps hk) x0.key
        have hlen := len_at ((htb'.out.keeps hk).keeps (Keeps.app [] Hc l2))
        rw [core_len hsame'.out] at hlen
        have hx4 := (hx3'.out.keep hk.keepC).keep (KeepC.app _ l2)
        have hmay := rMayI_at hx4
        cases hmb : mayB x0 with
        | false =>
          rw [hmb] at hmay
          generalize isL L2 x0.key = tf at hget
          simp only [inV,In.key] at hget hmay
          clear hk hxc hxa hmb hx4
          (repeat' (first | (simp -implicitDefEqProofs (maxSteps := 1000000) (disch := first | assumption | omega | (simp only [ZDI]; omega)) only [*,lenV,eq_self,G9,Za,Zb,Zc,Zd,Ze,Zf,Zg,Zh,Zi,Zj,Zk,Zl,Zm,Zn,Zo,Ja,Jb,Jc,J3,Jd,Je,J4,J5,Jf,Jg,Jh,Ji,Jj,Jk,J6,Jl,Jm,wr,Jn,J7,J8,Jo,Jp,Jq,Jr,Js,Jt,Ju,Jv,Jw,Jx,Jy,Jz,J0,J1,J2,reduceCtorEq,J9,JA,JB,JC,JD,JE,JF,JG]) | ((with_reducible (first | apply Ok.br | apply Ok.gd | apply Ok.ld)) <;> (intro g; (try simp only [ZGS] at g); try (exfalso; omega)))))
          exact hQ'.out _ rfl
        | true =>
          obtain ⟨r1, r2⟩ := hprop'.out hmb
          have hs := rSame_at hxa hx4
          rw [smB_iff.2 (hxc.trans r2)] at hs
          rw [hmb] at hmay
          rw [r1] at hget
          simp only [inV,In.key] at hget hmay hs
          clear hk hxc hxa hmb hx4 r1 r2
          (repeat' (first | (simp -implicitDefEqProofs (maxSteps := 1000000) (disch := first | assumption | omega | (simp only [ZDI]; omega)) only [*,lenV,eq_self,G9,Za,Zb,Zc,Zd,Ze,Zf,Zg,Zh,Zi,Zj,Zk,Zl,Zm,Zn,Zo,Ja,Jb,Jc,J3,Jd,Je,J4,J5,Jf,Jg,Jh,Ji,Jj,Jk,J6,Jl,Jm,wr,Jn,J7,J8,Jo,Jp,Jq,Jr,Js,Jt,Ju,Jv,Jw,Jx,Jy,Jz,J0,J1,J2,reduceCtorEq,J9,JA,JB,JC,JD,JE,JF,JG]) | ((with_reducible (first | apply Ok.br | apply Ok.gd | apply Ok.ld)) <;> (intro g; (try simp only [ZGS] at g); try (exfalso; omega)))))
          exact hQ'.out _ rfl
end Go.Ev
