/-
Texts of this claim, one behind the other.
-/
import Derived.Test.YtidlajmifppcnaaAf
set_option linter.unusedSimpArgs false
set_option linter.unusedVariables false
set_option maxRecDepth 100000
set_option maxRecDepth 100000
namespace Go.Ev
open Go.Ev renaming exPure -> Ja, ofValue -> Jb, cellsV -> Jc, load -> Jd, store -> Je, binOp -> Jf, intOp -> Jg, rdV -> Jh, vsame -> Ji, vsames -> Jj, makeSliceV -> Jk, resV -> Jl, isCell -> Jm, nilCheckV -> Jn, allV -> Jo, builtinV -> Jp, lenV -> Jq, indexAddrV -> Jr, unOp -> Js, minmaxV -> Jt, minmax -> Ju, sliceV -> Jv, asInt -> Jw, appendV -> Jx, copyV -> Jy, clearV -> Jz, convV -> J0, sliceCells -> J1, shift -> J2
open Bool renaming true -> BT, false -> BF
open Nat renaming reduceEqDiff -> J3, reduceLT -> J4, reduceAdd -> J5, reduceBEq -> J6, reduceSub -> J7, reduceMul -> J8, reduceLeDiff -> JG
open Int renaming reduceLT -> J9, reduceLE -> JA, reduceAdd -> JB, reduceSub -> JC, reduceNeg -> JD, reduceToNat -> JE, reduceEq -> JF
open Go.Proofs
theorem mayB_dl {x : In} (h : mayB x = true) : x.dl.length <= 5000 /\ x.pl.length <= 5000 := by
  unfold mayB nonB bodB at h
  simp only [Bool.and_eq_true] at h
  obtain ⟨_, h⟩ := h
  by_cases hs : x.st = 0
  · rw [decide_eq_true hs] at h
    simp only [cond_true, Bool.and_eq_true, decide_eq_true_eq] at h
    obtain ⟨⟨_, _, h1⟩, h2⟩ := h
    rw [h1, h2]; simp
  · rw [decide_eq_false hs] at h
    simp only [cond_false, Bool.and_eq_true, decide_eq_true_eq] at h
    obtain ⟨h1, _, h2⟩ := h
    refine ⟨?_, by omega⟩
    unfold mayP at h1
    omega
theorem len_at {h : Heap} {b m : Nat} {L : List In} (ht : TabAt h b m L) : D X (.fn 30 []) [.ptr b 0 0] h = some (.int .i64 L.length, h) := by
  obtain ⟨ex, es, c, hm, he⟩ := ht.map
  have hc := ht.cell
  rw [<- TabAt.len he]
  clear ht he
  refine Ok.eq ?_
  (refine Ok.body body30 pin30 ?_; simp only [c30, Try.f30, Option.getD_some, nslot30, List.append_nil, List.map, List.replicate, List.length_cons, List.length_nil, Nat.reduceAdd, Nat.reduceSub, List.cons_append, List.nil_append])
  (repeat' (first | (simp -implicitDefEqProofs (maxSteps := 1000000) (disch := first | assumption | omega | (simp only [ZDI]; omega)) only [*, lenV, G30, Za, Zb, Zc, Zd, Ze, Zf, Zg, Zh, Zi, Zj, Zk, Zl, Zm, Zn, Zo, Ja, Jb, Jc, J3, Jd, Je, J4, J5, Jf, Jg, Jh, Ji, Jj, Jk, J6, Jl, Jm, wr, Jn, J7, J8, Jo, Jp, Jq, Jr, Js, Jt, Ju, Jv, Jw, Jx, Jy, Jz, J0, J1, J2, reduceCtorEq, J9, JA, JB, JC, JD, JE, JF, JG]) | ((with_reducible (first | apply Ok.br | apply Ok.gd | apply Ok.ld)) <;> (intro g; (try simp only [ZGS] at g); try (exfalso; omega)))))
def putE (L : List In) (x : In) : Int := if mayB x then (if x.key ∈ L.map In.key \/ L.length < 4096 then 0 else 2) else 1
theorem isL_iff {L : List In} {k : RP} : isL L k = decide (k ∈ L.map In.key) := by
  unfold isL
  by_cases hk : k ∈ L.map In.key
  · rw [decide_eq_true hk]
    obtain ⟨y, hy, he⟩ := List.mem_map.1 hk
    rw [List.find?_isSome]
    exact ⟨y, hy, by simp [he]⟩
  · rw [decide_eq_false hk]
    cases hx : L.find? (fun y => decide (k = y.key)) with
    | none => rfl
    | some y =>
      exfalso
      refine hk (List.mem_map.2 ⟨y, List.mem_of_find?_eq_some hx, ?_⟩)
      have := List.find?_some hx
      simp at this
      exact this.symm
theorem putL_keys (L : List In) (x : In) : (putL L x).map In.key = if x.key ∈ L.map In.key then L.map In.key else L.map In.key ++ [x.key] := by
  unfold putL
  split
  · rw [List.map_map]
    refine List.map_congr_left fun y _ => ?_
    show In.key (if y.key = x.key then x else y) = y.key
    split
    · rename_i h; exact h.symm
    · rfl
  · rw [List.map_append]; rfl
theorem putL_nodup {L : List In} {x : In} (h : (L.map In.key).Nodup) : ((putL L x).map In.key).Nodup := by
  rw [putL_keys]
  split
  · exact h
  · rename_i hn
    exact List.nodup_append.2 ⟨h, by simp, fun a ha b hb => by rw [List.mem_singleton.1 hb]; rintro rfl; exact hn ha⟩
theorem putL_mem {L : List In} {x y : In} (h : y ∈ putL L x) : y = x \/ y ∈ L := by
  unfold putL at h
  split at h
  · obtain ⟨z, hz, he⟩ := List.mem_map.1 h
    split at he
    · exact .inl he.symm
    · exact .inr (he ▸ hz)
  · rcases List.mem_append.1 h with h | h
    · exact .inr h
    · exact .inl (List.mem_singleton.1 h)
set_option maxHeartbeats 8000000 in
theorem put_at {h : Heap} {b m : Nat} {L : List In} (ht : TabAt h b m L) {x : In} (hx : InAt h x) :
    ∃ (h' : Heap) (x' : In), D X (.fn 24 []) [.ptr b 0 0, .agg (inV x)] h = some (.int .i64 (putE L x), h') /\ x'.core = x.core /\ TabAt h' b m (if putE L x = 0 then putL L x' else L) /\ KeepC h h' /\ Keeps [m] h h' := by
  obtain ⟨ex, es, c, hm, he⟩ := ht.map
  have hml := (List.getElem?_eq_some_iff.1 hm).1
  have hmay := mayI_at hx
  cases hmb : mayB x with
  | false =>
    rw [hmb] at hmay
    have hpe : putE L x = 1 := by unfold putE; rw [hmb]; rfl
    rw [hpe]
    refine ⟨h, x, ?_, rfl, by rw [if_neg (by decide)]; exact ht, KeepC.refl h, Keeps.refl _ h⟩
    obtain ⟨a, cap, z, e1⟩ := hx.1.sl
    obtain ⟨a3, cap3, z3, e3⟩ := hx.2.sl
    simp only [inV, e1, e3] at hmay ⊢
    clear e1 e3 hx
    refine Ok.eq ?_
    (refine Ok.body body24 pin24 ?_; simp only [c24, Try.f24, Option.getD_some, nslot24, List.append_nil, List.map, List.replicate, List.length_cons, List.length_nil, Nat.reduceAdd, Nat.reduceSub, List.cons_append, List.nil_append])
    (repeat' (first | (simp -implicitDefEqProofs (maxSteps := 1000000) (disch := first | assumption | omega | (simp only [ZDI]; omega)) only [*, G24, Za, Zb, Zc, Zd, Ze, Zf, Zg, Zh, Zi, Zj, Zk, Zl, Zm, Zn, Zo, Ja, Jb, Jc, J3, Jd, Je, J4, J5, Jf, Jg, Jh, Ji, Jj, Jk, J6, Jl, Jm, wr, Jn, J7, J8, Jo, Jp, Jq, Jr, Js, Jt, Ju, Jv, Jw, Jx, Jy, Jz, J0, J1, J2, reduceCtorEq, J9, JA, JB, JC, JD, JE, JF, JG]) | ((with_reducible (first | apply Ok.br | apply Ok.gd | apply Ok.ld)) <;> (intro g; (try simp only [ZGS] at g); try (exfalso; omega)))))
  | true =>
    rw [hmb] at hmay
    obtain ⟨hd1, hd2⟩ := mayB_dl hmb
    have hlk := fun e l => lookup_tab hm he x.key true e l
    rw [isL_iff] at hlk
    generalize hd : decide (x.key ∈ L.map In.key) = is at hlk
    by_cases hfree : x.key ∈ L.map In.key \/ L.length < 4096
    · have hpe : putE L x = 0 := by unfold putE; rw [hmb, if_pos rfl, if_pos hfree]
      rw [hpe]
      obtain ⟨x', bl, h1, h2, h3⟩ := own_in hx hd1 hd2 h.length
      have hown := own_at h1
      have hkx : x'.key = x.key := by have := congrArg In.key h2; exact this
      have hko := keyOk_ref x.key (TabAt.keysM (h := h) he)
      have hkc : KeepC h ((h ++ bl).set m (.map ex (putM (elt x.key) (.agg (inV x')) es c).1 (putM (elt x.key) (.agg (inV x')) es c).2)) :=
        (KeepC.app h bl).trans (.setMap (by rw [List.getElem?_append_left hml]; exact hm))
      refine ⟨(h ++ bl).set m (.map ex (putM (elt x.key) (.agg (inV x')) es c).1 (putM (elt x.key) (.agg (inV x')) es c).2), x', ?_, h2, ?_, hkc, (Keeps.app [m] h bl).set (.inl (by simp)) _⟩
      · have hc := ht.cell
        have hlen := TabAt.len (L := L) he
        have hmm : ∀ y, (h ++ y)[m]? = some (.map ex es c) := fun y => by rw [List.getElem?_append_left hml]; exact hm
        have hbl := hcells_lt hc
        obtain ⟨a, cap, z, e1⟩ := hx.1.sl
        obtain ⟨a3, cap3, z3, e3⟩ := hx.2.sl
        obtain ⟨pm, hpm⟩ : ∃ pm, putM (elt x.key) (.agg (inV x')) es c = pm := ⟨_, rfl⟩
        rw [hpm]
        unfold elt at hpm hko
        simp only [inV, e1, e3, In.key, outV, cond_true] at hmay hown hlk hpm hko ⊢
        clear e1 e3 hx h1 h2 h3 hd1 hd2 hkc he ht
        generalize getL L (x.l, x.i) = y at hlk
        refine Ok.eq ?_
        by_cases hk : x.key ∈ L.map In.key
        · rw [decide_eq_true hk] at hd
          subst hd
          clear hk hfree
          (refine Ok.body body24 pin24 ?_; simp only [c24, Try.f24, Option.getD_some, nslot24, List.append_nil, List.map, List.replicate, List.length_cons, List.length_nil, Nat.reduceAdd, Nat.reduceSub, List.cons_append, List.nil_append])
          (repeat' (first | (simp -implicitDefEqProofs (maxSteps := 1000000) (disch := first | assumption | omega | (simp only [ZDI]; omega)) only [*, exOp_lookup, exOp_mapUpdate, updateV, G24, Za, Zb, Zc, Zd, Ze, Zf, Zg, Zh, Zi, Zj, Zk, Zl, Zm, Zn, Zo, Ja, Jb, Jc, J3, Jd, Je, J4, J5, Jf, Jg, Jh, Ji, Jj, Jk, J6, Jl, Jm, wr, Jn, J7, J8, Jo, Jp, Jq, Jr, Js, Jt, Ju, Jv, Jw, Jx, Jy, Jz, J0, J1, J2, reduceCtorEq, J9, JA, JB, JC, JD, JE, JF, JG]) | ((with_reducible (first | apply Ok.br | apply Ok.gd | apply Ok.ld)) <;> (intro g; (try simp only [ZGS] at g); try (exfalso; omega)))))
        · rw [decide_eq_false hk] at hd
          subst hd
          have hlt : ¬ (4096 : Int) <= (es.length : Int) := by
            rcases hfree with h | h
            · exact absurd h hk
            · omega
          clear hk hfree
          (refine Ok.body body24 pin24 ?_; simp only [c24, Try.f24, Option.getD_some, nslot24, List.append_nil, List.map, List.replicate, List.length_cons, List.length_nil, Nat.reduceAdd, Nat.reduceSub, List.cons_append, List.nil_append])
          (repeat' (first | (simp -implicitDefEqProofs (maxSteps := 1000000) (disch := first | assumption | omega | (simp only [ZDI]; omega)) only [*, exOp_lookup, exOp_mapUpdate, updateV, lenV, G24, Za, Zb, Zc, Zd, Ze, Zf, Zg, Zh, Zi, Zj, Zk, Zl, Zm, Zn, Zo, Ja, Jb, Jc, J3, Jd, Je, J4, J5, Jf, Jg, Jh, Ji, Jj, Jk, J6, Jl, Jm, wr, Jn, J7, J8, Jo, Jp, Jq, Jr, Js, Jt, Ju, Jv, Jw, Jx, Jy, Jz, J0, J1, J2, reduceCtorEq, J9, JA, JB, JC, JD, JE, JF, JG]) | ((with_reducible (first | apply Ok.br | apply Ok.gd | apply Ok.ld)) <;> (intro g; (try simp only [ZGS] at g); try (exfalso; omega)))))
      · rw [if_pos rfl]
        have hm2 : (((h ++ bl).set m (.map ex (putM (elt x.key) (.agg (inV x')) es c).1 (putM (elt x.key) (.agg (inV x')) es c).2)))[m]? = some (.map ex (putM (elt x.key) (.agg (inV x')) es c).1 (putM (elt x.key) (.agg (inV x')) es c).2) :=
          List.getElem?_set_self (by simp; omega)
        refine ⟨hkc.2 _ _ _ ht.cell, ⟨_, _, _, hm2, ?_⟩, fun y hy => ?_, putL_nodup ht.keys⟩
        · rw [<- hkx]; exact putM_tab he
        · rcases putL_mem hy with rfl | hy
          · have hl1 : y.dl = x.dl := by have := congrArg In.dl h2; exact this
            have hl2 : y.pl = x.pl := by have := congrArg In.pl h2; exact this
            refine ⟨?_, by rw [hl1]; exact hd1, by rw [hl2]; exact hd2⟩
            exact (h3 (h ++ bl) (KeepC.app _ _) (Nat.le_refl _) fun j hj => by rw [List.getElem?_append_right (by omega), Nat.add_sub_cancel_left]).keep (.setMap (by rw [List.getElem?_append_left hml]; exact hm))
          · exact ⟨(ht.at_ y hy).1.keep hkc, (ht.at_ y hy).2⟩
    · have hpe : putE L x = 2 := by unfold putE; rw [hmb, if_pos rfl, if_neg hfree]
      rw [hpe]
      refine ⟨h, x, ?_, rfl, by rw [if_neg (by decide)]; exact ht, KeepC.refl h, Keeps.refl _ h⟩
      have hk : x.key ∉ L.map In.key := fun h => hfree (.inl h)
      rw [decide_eq_false hk] at hd
      subst hd
      have hc := ht.cell
      have hlen := TabAt.len (L := L) he
      have hge : (4096 : Int) <= (es.length : Int) := by
        have : ¬ L.length < 4096 := fun h => hfree (.inr h)
        omega
      obtain ⟨a, cap, z, e1⟩ := hx.1.sl
      obtain ⟨a3, cap3, z3, e3⟩ := hx.2.sl
      simp only [inV, e1, e3, In.key, outV, cond_true] at hmay hlk ⊢
      clear e1 e3 hx hfree he ht hk
      generalize getL L (x.l, x.i) = y at hlk
      refine Ok.eq ?_
      (refine Ok.body body24 pin24 ?_; simp only [c24, Try.f24, Option.getD_some, nslot24, List.append_nil, List.map, List.replicate, List.length_cons, List.length_nil, Nat.reduceAdd, Nat.reduceSub, List.cons_append, List.nil_append])
      (repeat' (first | (simp -implicitDefEqProofs (maxSteps := 1000000) (disch := first | assumption | omega | (simp only [ZDI]; omega)) only [*, exOp_lookup, lenV, G24, Za, Zb, Zc, Zd, Ze, Zf, Zg, Zh, Zi, Zj, Zk, Zl, Zm, Zn, Zo, Ja, Jb, Jc, J3, Jd, Je, J4, J5, Jf, Jg, Jh, Ji, Jj, Jk, J6, Jl, Jm, wr, Jn, J7, J8, Jo, Jp, Jq, Jr, Js, Jt, Ju, Jv, Jw, Jx, Jy, Jz, J0, J1, J2, reduceCtorEq, J9, JA, JB, JC, JD, JE, JF, JG]) | ((with_reducible (first | apply Ok.br | apply Ok.gd | apply Ok.ld)) <;> (intro g; (try simp only [ZGS] at g); try (exfalso; omega)))))
end Go.Ev
set_option maxRecDepth 100000
namespace Go.Ev
open Go.Ev renaming exPure -> Ja, ofValue -> Jb, cellsV -> Jc, load -> Jd, store -> Je, binOp -> Jf, intOp -> Jg, rdV -> Jh, vsame -> Ji, vsames -> Jj, makeSliceV -> Jk, resV -> Jl, isCell -> Jm, nilCheckV -> Jn, allV -> Jo, builtinV -> Jp, lenV -> Jq, indexAddrV -> Jr, unOp -> Js, minmaxV -> Jt, minmax -> Ju, sliceV -> Jv, asInt -> Jw, appendV -> Jx, copyV -> Jy, clearV -> Jz, convV -> J0, sliceCells -> J1, shift -> J2
open Bool renaming true -> BT, false -> BF
open Nat renaming reduceEqDiff -> J3, reduceLT -> J4, reduceAdd -> J5, reduceBEq -> J6, reduceSub -> J7, reduceMul -> J8, reduceLeDiff -> JG
open Int renaming reduceLT -> J9, reduceLE -> JA, reduceAdd -> JB, reduceSub -> JC, reduceNeg -> JD, reduceToNat -> JE, reduceEq -> JF
open Go.Proofs
theorem getL_mem {L : List In} {k : RP} (h : k ∈ L.map In.key) : getL L k ∈ L /\ (getL L k).key = k := by
  unfold getL
  obtain ⟨y, hy, he⟩ := List.mem_map.1 h
  cases hx : L.find? (fun y => decide (k = y.key)) with
  | none =>
    have := List.find?_eq_none.1 hx y hy
    simp [he] at this
  | some z =>
    refine ⟨List.mem_of_find?_eq_some hx, ?_⟩
    have := List.find?_some hx
    simp at this
    exact this.symm
structure SeqOf (H1 : Heap) (L S : List In) : Prop where
  keys : S.map In.key = addsR [] (L.map In.key)
  at_ : ∀ x ∈ S, InAt H1 x
  core : ∀ x ∈ S, ∃ y ∈ L, y.core = x.core
  len : S.length = L.length
set_option maxHeartbeats 8000000 in
theorem each_at {pb b m lp : Nat} {H0 : Heap} {L : List In} (hpb : hcells H0 pb 0 = some (true, [.ptr b 0 0])) (ht : TabAt H0 b m L) (hl : L.length <= 5000) (Inv : Heap -> List In -> Nat -> Heap -> Prop)
    (h0 : ∀ l S, SeqOf (H0 ++ l) L S -> Inv (H0 ++ l) S 0 (H0 ++ l))
    (hI : ∀ H1 S k H, Inv H1 S k H -> KeepC H1 H /\ ∀ i, H0.length <= i -> i < H1.length -> H[i]? = H1[i]?)
    (hy : ∀ l S k x H, SeqOf (H0 ++ l) L S -> S[k]? = some x -> Inv (H0 ++ l) S k H -> InAt H x -> Ev.Ok (D X (.yld lp) [.agg (inV x)] H) fun r => ∃ H', r = (.bool true, H') /\ Inv (H0 ++ l) S (k + 1) H') :
    Ev.Ok (D X (.fn 59 [.ptr pb 0 0]) [.yld lp] H0) fun r => ∃ l S H', r = (.tup [], H') /\ SeqOf (H0 ++ l) L S /\ Inv (H0 ++ l) S S.length H' := by
  refine Ok.aim fun Q hQ => ?_
  obtain ⟨l1, L', hclone, ht', hcore⟩ := clone_at ht
  have hkk : L'.map In.key = L.map In.key := by
    have := congrArg (List.map In.key) hcore
    rw [List.map_map, List.map_map] at this
    exact this
  have hlen' : L'.length = L.length := by have := congrArg List.length hcore; simpa using this
  obtain ⟨v, l2, hrefs, hrow⟩ := refs_at ht' (by omega)
  rw [hkk] at hrow
  have hl0 : H0.length <= (H0 ++ l1).length := by simp
  obtain ⟨lc, hlc⟩ : ∃ lc, H0.length = lc := ⟨_, rfl⟩
  obtain ⟨ex, es, c, hm0, _⟩ := ht'.map
  have hm1 := (List.getElem?_eq_some_iff.1 hm0).1
  have ht1 : TabAt (H0 ++ l1 ++ l2) (H0.length + 1) H0.length L' := ht'.keep (KeepC.app _ _) (by rw [List.getElem?_append_left hm1])
  obtain ⟨S, hS⟩ : ∃ S, S = (addsR [] (L.map In.key)).map (getL L') := ⟨_, rfl⟩
  have hmem : ∀ k ∈ addsR [] (L.map In.key), k ∈ L'.map In.key := fun k hk => by rw [hkk]; rw [addsR_mem] at hk; simpa using hk
  have hseq : SeqOf (H0 ++ l1 ++ l2) L S := by
    refine ⟨?_, fun x hx => ?_, fun x hx => ?_, ?_⟩
    · rw [hS, List.map_map]
      conv => rhs; rw [<- List.map_id (addsR [] (L.map In.key))]
      exact List.map_congr_left fun k hk => (getL_mem (hmem k hk)).2
    · rw [hS] at hx
      obtain ⟨k, hk, rfl⟩ := List.mem_map.1 hx
      exact (ht1.at_ _ (getL_mem (hmem k hk)).1).1
    · rw [hS] at hx
      obtain ⟨k, hk, rfl⟩ := List.mem_map.1 hx
      have h1 : (getL L' k).core ∈ L'.map In.core := List.mem_map.2 ⟨_, (getL_mem (hmem k hk)).1, rfl⟩
      rw [hcore] at h1
      obtain ⟨y, hy, he⟩ := List.mem_map.1 h1
      exact ⟨y, hy, he⟩
    · rw [hS, List.length_map, addsR_nodup_len ht.keys, List.length_map]
  have hSg : ∀ i k, (addsR [] (L.map In.key))[i]? = some k -> S[i]? = some (getL L' k) := fun i k hk => by rw [hS, List.getElem?_map, hk]; rfl
  rw [List.append_assoc] at hseq ht1 hrefs hrow
  have hSl : S.length = (addsR [] (L.map In.key)).length := by rw [hS]; simp
  have hInv0 := h0 _ S hseq
  have hy1 := fun k x H => hy (l1 ++ l2) S k x H hseq
  have hfin : ∀ H', Inv (H0 ++ (l1 ++ l2)) S S.length H' -> Q (.tup [], H') := fun H' h => hQ _ ⟨_, S, H', rfl, hseq, h⟩
  have hI1 := fun k H => hI (H0 ++ (l1 ++ l2)) S k H
  have hfin' := Hid.mk hfin
  have hy' := Hid.mk hy1
  have hI' := Hid.mk hI1
  have hInv0' := Hid.mk hInv0
  have ht1' := Hid.mk ht1
  have hSg' := Hid.mk hSg
  clear hfin hy hy1 hI hI1 h0 hInv0 ht1 hSg hseq hS hmem hQ ht' hcore hkk hlen' ht hm0 hm1
  obtain ⟨a, cap, z, rfl, h1, h1', h2⟩ := hrow
  generalize addsR [] (L.map In.key) = r at hSl hSg' hrefs h1 h1' h2 ⊢
  generalize hH1 : H0 ++ (l1 ++ l2) = H1 at *
  have hH1l : H0.length <= H1.length := by rw [<- hH1]; simp
  simp only [hlc] at *
  have hSl' := Hid.mk hSl
  clear hSl
  have hmH : lc < H1.length := by
    obtain ⟨_, _, _, hmm, _⟩ := ht1'.out.map
    exact (List.getElem?_eq_some_iff.1 hmm).1
  clear hH1
  (refine Ok.body body59 pin59 ?_; simp only [c59, Try.f59, Option.getD_some, nslot59, List.append_nil, List.map, List.replicate, List.length_cons, List.length_nil, Nat.reduceAdd, Nat.reduceSub, List.cons_append, List.nil_append])
  (repeat' (first | (simp -implicitDefEqProofs (maxSteps := 1000000) (disch := first | assumption | omega | (simp only [ZDI]; omega)) only [*, lenV, G59, Za, Zb, Zc, Zd, Ze, Zf, Zg, Zh, Zi, Zj, Zk, Zl, Zm, Zn, Zo, Ja, Jb, Jc, J3, Jd, Je, J4, J5, Jf, Jg, Jh, Ji, Jj, Jk, J6, Jl, Jm, wr, Jn, J7, J8, Jo, Jp, Jq, Jr, Js, Jt, Ju, Jv, Jw, Jx, Jy, Jz, J0, J1, J2, reduceCtorEq, J9, JA, JB, JC, JD, JE, JF, JG]) | ((with_reducible (first | apply Ok.br | apply Ok.gd | apply Ok.ld)) <;> (intro g; (try simp only [ZGS] at g); try (exfalso; omega)))))
  clear hclone hrefs hpb
  refine Ok.loop [BF, BF, BF, BF, BF, BT, BF, BF, BF, BF, BF, BT, BT, BT, BT, BT, BT, BT, BT, BT, BT, BT, BT, BT, BT] (fun n s2 => ∃ (i w1 : Nat) (q1 : List V), n = r.length - i /\ i <= r.length /\ tv s2.e 11 = .v (.int .i64 i) /\ s2.l = [(w1, q1)] /\ Inv H1 S i s2.h)
    (fun y s2 => y = .exit 0 /\ (∃ (w1 : Nat) (q1 : List V), s2.l = [(w1, q1)]) /\ Inv H1 S S.length s2.h) (r.length - 0) ⟨0, 0, [], rfl, Nat.zero_le _, rfl, rfl, hInv0'.out⟩ ?_ ?_
  · intro n ⟨e', l', g⟩ hW ⟨i, w1, q1, hm, hi, h9, k2, hinv⟩
    dsimp only at hW h9 k2 hinv
    subst l'
    rw [hW.spread]
    simp only [spread_t, spread_f, spread_n, Nat.zero_add, Nat.reduceAdd, h9]
    clear hW hfin' hInv0'
    obtain ⟨hkc, hkn⟩ := hI'.out _ _ hinv
    by_cases hlt : i < r.length
    · have hlt' : (i : Int) < (r.length : Int) := by omega
      have g1 : 0 <= (i : Int) /\ (i : Int) < (r.length : Int) := by omega
      rcases h2 with rfl | ⟨bb, q, o, rw, full, rfl, hbc, hfull, ho⟩
      · simp at hlt
      · obtain ⟨⟨y1, y2⟩, hyk⟩ : ∃ y, r[i]? = some y := ⟨_, List.getElem?_eq_getElem hlt⟩
        have hf := hfull i _ hyk
        dsimp only at hf
        have ho2 : o + i * 2 + 2 <= full.length := by omega
        have hbg := hkc.2 _ _ _ hbc
        have htg : TabAt g (lc + 1) lc L' := ht1'.out.keep hkc (hkn lc (Nat.le_refl _) hmH)
        obtain ⟨ex, es, c, hmg, heg⟩ := htg.map
        have hlk := fun e l => lookup_tab hmg heg (y1, y2) false e l
        have hcg := htg.cell
        have hsx := hSg'.out i _ hyk
        have hxat : InAt g (getL L' (y1, y2)) := by
          unfold getL
          cases hx : L'.find? (fun y => decide ((y1, y2) = y.key)) with
          | none => exact InAt.z0 g
          | some y => exact (htg.at_ y (List.mem_of_find?_eq_some hx)).1
        obtain ⟨⟨vv, g2⟩, hyld, H2, he2, hinv2⟩ := hy'.out i _ g hsx hinv hxat
        cases he2
        have hinv3 := Hid.mk hinv2
        have hcg2 := (hI'.out _ _ hinv2).1
        have htg2 : TabAt g2 (lc + 1) lc L' := ht1'.out.keep hcg2 ((hI'.out _ _ hinv2).2 lc (Nat.le_refl _) hmH)
        have hcg3 := htg2.cell
        generalize getL L' (y1, y2) = x at hlk hyld
        simp only [outV, cond_false, inV] at hlk hyld
        clear hfull ho hkc hkn htg heg hmg hsx hxat hinv hinv2 hcg2 htg2 hyk hbc
        (repeat' (first | (simp -implicitDefEqProofs (maxSteps := 1000000) (disch := first | assumption | omega | (simp only [ZDI]; omega)) only [*, lenV, exOp_lookup, G59, Za, Zb, Zc, Zd, Ze, Zf, Zg, Zh, Zi, Zj, Zk, Zl, Zm, Zn, Zo, Ja, Jb, Jc, J3, Jd, Je, J4, J5, Jf, Jg, Jh, Ji, Jj, Jk, J6, Jl, Jm, wr, Jn, J7, J8, Jo, Jp, Jq, Jr, Js, Jt, Ju, Jv, Jw, Jx, Jy, Jz, J0, J1, J2, reduceCtorEq, J9, JA, JB, JC, JD, JE, JF, JG]) | ((with_reducible (first | apply Ok.br | apply Ok.gd | apply Ok.ld)) <;> (intro g; (try simp only [ZGS] at g); try (exfalso; omega)))))
        exact Turn.next (r.length - (i + 1)) (by omega) ⟨rfl, i + 1, _, _, rfl, by omega, rfl, rfl, hinv3.out⟩
    · have hlt' : ¬ (i : Int) < (r.length : Int) := by omega
      have e : i = S.length := by have := hSl'.out; omega
      rw [e] at hinv
      have hinv3 := Hid.mk hinv
      clear hinv hkc hkn e
      (repeat' (first | (simp -implicitDefEqProofs (maxSteps := 1000000) (disch := first | assumption | omega | (simp only [ZDI]; omega)) only [*, lenV, G59, Za, Zb, Zc, Zd, Ze, Zf, Zg, Zh, Zi, Zj, Zk, Zl, Zm, Zn, Zo, Ja, Jb, Jc, J3, Jd, Je, J4, J5, Jf, Jg, Jh, Ji, Jj, Jk, J6, Jl, Jm, wr, Jn, J7, J8, Jo, Jp, Jq, Jr, Js, Jt, Ju, Jv, Jw, Jx, Jy, Jz, J0, J1, J2, reduceCtorEq, J9, JA, JB, JC, JD, JE, JF, JG]) | ((with_reducible (first | apply Ok.br | apply Ok.gd | apply Ok.ld)) <;> (intro g; (try simp only [ZGS] at g); try (exfalso; omega)))))
      exact Turn.exit ⟨rfl, rfl, ⟨_, _, rfl⟩, hinv3.out⟩
  · intro y ⟨e', l', g⟩ hW ⟨hyy, ⟨w1, q1, k2⟩, hinv⟩
    dsimp only at hW k2 hinv
    subst l' hyy
    rw [hW.spread]
    clear hW
    simp only [spread_t, spread_f, spread_n, Nat.zero_add, Nat.reduceAdd]
    have hinv3 := Hid.mk hinv
    clear hinv hInv0'
    (repeat' (first | (simp -implicitDefEqProofs (maxSteps := 1000000) (disch := first | assumption | omega | (simp only [ZDI]; omega)) only [*, G59, Za, Zb, Zc, Zd, Ze, Zf, Zg, Zh, Zi, Zj, Zk, Zl, Zm, Zn, Zo, Ja, Jb, Jc, J3, Jd, Je, J4, J5, Jf, Jg, Jh, Ji, Jj, Jk, J6, Jl, Jm, wr, Jn, J7, J8, Jo, Jp, Jq, Jr, Js, Jt, Ju, Jv, Jw, Jx, Jy, Jz, J0, J1, J2, reduceCtorEq, J9, JA, JB, JC, JD, JE, JF, JG]) | ((with_reducible (first | apply Ok.br | apply Ok.gd | apply Ok.ld)) <;> (intro g; (try simp only [ZGS] at g); try (exfalso; omega)))))
    exact hfin'.out _ hinv3.out
end Go.Ev
namespace Go.Ev
open Go.Ev renaming exPure -> Ja, ofValue -> Jb, cellsV -> Jc, load -> Jd, store -> Je, binOp -> Jf, intOp -> Jg, rdV -> Jh, vsame -> Ji, vsames -> Jj, makeSliceV -> Jk, resV -> Jl, isCell -> Jm, nilCheckV -> Jn, allV -> Jo, builtinV -> Jp, lenV -> Jq, indexAddrV -> Jr, unOp -> Js, minmaxV -> Jt, minmax -> Ju, sliceV -> Jv, asInt -> Jw, appendV -> Jx, copyV -> Jy, clearV -> Jz, convV -> J0, sliceCells -> J1, shift -> J2
open Bool renaming true -> BT, false -> BF
open Nat renaming reduceEqDiff -> J3, reduceLT -> J4, reduceAdd -> J5, reduceBEq -> J6, reduceSub -> J7, reduceMul -> J8, reduceLeDiff -> JG
open Int renaming reduceLT -> J9, reduceLE -> JA, reduceAdd -> JB, reduceSub -> JC, reduceNeg -> JD, reduceToNat -> JE, reduceEq -> JF
open Go.Proofs
theorem empty_at (a b : Int) (h : Heap) : D X (.fn 101 []) [.agg [.int .i64 a, .int .i64 b]] h = some (.bool (decide (b <= a)), h) := by
  refine Ok.eq ?_
  (refine Ok.body body101 pin101 ?_; simp only [c101, Try.f101, Option.getD_some, nslot101, List.append_nil, List.map, List.replicate, List.length_cons, List.length_nil, Nat.reduceAdd, Nat.reduceSub, List.cons_append, List.nil_append])
  (repeat' (first | (simp -implicitDefEqProofs (maxSteps := 1000000) (disch := first | assumption | omega | (simp only [ZDI]; omega)) only [*, G101, Za, Zb, Zc, Zd, Ze, Zf, Zg, Zh, Zi, Zj, Zk, Zl, Zm, Zn, Zo, Ja, Jb, Jc, J3, Jd, Je, J4, J5, Jf, Jg, Jh, Ji, Jj, Jk, J6, Jl, Jm, wr, Jn, J7, J8, Jo, Jp, Jq, Jr, Js, Jt, Ju, Jv, Jw, Jx, Jy, Jz, J0, J1, J2, reduceCtorEq, J9, JA, JB, JC, JD, JE, JF, JG]) | ((with_reducible (first | apply Ok.br | apply Ok.gd | apply Ok.ld)) <;> (intro g; (try simp only [ZGS] at g); try (exfalso; omega)))))
theorem looks_at (a : Int) (h : Heap) : D X (.fn 82 []) [.int .i64 a] h = some (.bool (decide (a = 1 \/ a = 4)), h) := by
  refine Ok.eq ?_
  (refine Ok.body body82 pin82 ?_; simp only [c82, Try.f82, Option.getD_some, nslot82, List.append_nil, List.map, List.replicate, List.length_cons, List.length_nil, Nat.reduceAdd, Nat.reduceSub, List.cons_append, List.nil_append])
  (repeat' (first | (simp -implicitDefEqProofs (maxSteps := 1000000) (disch := first | assumption | omega | (simp only [ZDI]; omega)) only [*, G82, Za, Zb, Zc, Zd, Ze, Zf, Zg, Zh, Zi, Zj, Zk, Zl, Zm, Zn, Zo, Ja, Jb, Jc, J3, Jd, Je, J4, J5, Jf, Jg, Jh, Ji, Jj, Jk, J6, Jl, Jm, wr, Jn, J7, J8, Jo, Jp, Jq, Jr, Js, Jt, Ju, Jv, Jw, Jx, Jy, Jz, J0, J1, J2, reduceCtorEq, J9, JA, JB, JC, JD, JE, JF, JG]) | ((with_reducible (first | apply Ok.br | apply Ok.gd | apply Ok.ld)) <;> (intro g; (try simp only [ZGS] at g); try (exfalso; omega)))))
  all_goals try (first | rfl | (exfalso; omega) | exact leaf_t (by (try simp only [Bool.and_eq_true, Bool.or_eq_true, decide_eq_true_eq, Bool.not_eq_true', decide_eq_false_iff_not, Bool.false_eq_true, Bool.true_eq_false, Bool.not_false, Bool.not_true, eq_self, iff_true, iff_false, true_iff, false_iff, false_or, true_or, or_false, or_true, true_and, and_true, false_and, and_false, not_true_eq_false, not_false_eq_true]); (first | done | omega)) | exact leaf_f (by (try simp only [Bool.and_eq_true, Bool.or_eq_true, decide_eq_true_eq, Bool.not_eq_true', decide_eq_false_iff_not, Bool.false_eq_true, Bool.true_eq_false, Bool.not_false, Bool.not_true, eq_self, iff_true, iff_false, true_iff, false_iff, false_or, true_or, or_false, or_true, true_and, and_true, false_and, and_false, not_true_eq_false, not_false_eq_true]); (first | done | omega)) | exact leaf_b (by (try simp only [Bool.and_eq_true, Bool.or_eq_true, decide_eq_true_eq, Bool.not_eq_true', decide_eq_false_iff_not, Bool.false_eq_true, Bool.true_eq_false, Bool.not_false, Bool.not_true, eq_self, iff_true, iff_false, true_iff, false_iff, false_or, true_or, or_false, or_true, true_and, and_true, false_and, and_false, not_true_eq_false, not_false_eq_true]); (first | done | omega)))
set_option maxRecDepth 100000 in
theorem both_at (a b c d : Int) (h : Heap) : D X (.fn 102 []) [.agg [.int .i64 a, .int .i64 b], .agg [.int .i64 c, .int .i64 d]] h = some (.agg [.int .i64 (max a c), .int .i64 (min b d)], h) := by
  refine Ok.eq ?_
  (refine Ok.body body102 pin102 ?_; simp only [c102, Try.f102, Option.getD_some, nslot102, List.append_nil, List.map, List.replicate, List.length_cons, List.length_nil, Nat.reduceAdd, Nat.reduceSub, List.cons_append, List.nil_append])
  (repeat' (first | (simp -implicitDefEqProofs (maxSteps := 1000000) (disch := first | assumption | omega | (simp only [ZDI]; omega)) only [*, minmaxV, G102, Za, Zb, Zc, Zd, Ze, Zf, Zg, Zh, Zi, Zj, Zk, Zl, Zm, Zn, Zo, Ja, Jb, Jc, J3, Jd, Je, J4, J5, Jf, Jg, Jh, Ji, Jj, Jk, J6, Jl, Jm, wr, Jn, J7, J8, Jo, Jp, Jq, Jr, Js, Jt, Ju, Jv, Jw, Jx, Jy, Jz, J0, J1, J2, reduceCtorEq, J9, JA, JB, JC, JD, JE, JF, JG]) | ((with_reducible (first | apply Ok.br | apply Ok.gd | apply Ok.ld)) <;> (intro g; (try simp only [ZGS] at g); try (exfalso; omega)))))
  have h1 : (if a < c then c else a) = max a c := by split <;> omega
  have h2 : (if d < b then d else b) = min b d := by split <;> omega
  rw [h1, h2]
set_option maxRecDepth 100000 in
theorem touch_at (a b c d : Int) (h : Heap) : D X (.fn 81 []) [.agg [.int .i64 a, .int .i64 b], .agg [.int .i64 c, .int .i64 d]] h = some (.bool (decide (a < b /\ c < d /\ a < d /\ c < b)), h) := by
  refine Ok.eq ?_
  (refine Ok.body body81 pin81 ?_; simp only [c81, Try.f81, Option.getD_some, nslot81, List.append_nil, List.map, List.replicate, List.length_cons, List.length_nil, Nat.reduceAdd, Nat.reduceSub, List.cons_append, List.nil_append])
  (repeat' (first | (simp -implicitDefEqProofs (maxSteps := 1000000) (disch := first | assumption | omega | (simp only [ZDI]; omega)) only [*, empty_at, both_at, G81, Za, Zb, Zc, Zd, Ze, Zf, Zg, Zh, Zi, Zj, Zk, Zl, Zm, Zn, Zo, Ja, Jb, Jc, J3, Jd, Je, J4, J5, Jf, Jg, Jh, Ji, Jj, Jk, J6, Jl, Jm, wr, Jn, J7, J8, Jo, Jp, Jq, Jr, Js, Jt, Ju, Jv, Jw, Jx, Jy, Jz, J0, J1, J2, reduceCtorEq, J9, JA, JB, JC, JD, JE, JF, JG]) | ((with_reducible (first | apply Ok.br | apply Ok.gd | apply Ok.ld)) <;> (intro g; (try simp only [ZGS] at g); try (exfalso; omega)))))
  all_goals try (first | rfl | (exfalso; omega) | exact leaf_t (by (try simp only [Bool.and_eq_true, Bool.or_eq_true, decide_eq_true_eq, Bool.not_eq_true', decide_eq_false_iff_not, Bool.false_eq_true, Bool.true_eq_false, Bool.not_false, Bool.not_true, eq_self, iff_true, iff_false, true_iff, false_iff, false_or, true_or, or_false, or_true, true_and, and_true, false_and, and_false, not_true_eq_false, not_false_eq_true]); (first | done | omega)) | exact leaf_f (by (try simp only [Bool.and_eq_true, Bool.or_eq_true, decide_eq_true_eq, Bool.not_eq_true', decide_eq_false_iff_not, Bool.false_eq_true, Bool.true_eq_false, Bool.not_false, Bool.not_true, eq_self, iff_true, iff_false, true_iff, false_iff, false_or, true_or, or_false, or_true, true_and, and_true, false_and, and_false, not_true_eq_false, not_false_eq_true]); (first | done | omega)) | exact leaf_b (by (try simp only [Bool.and_eq_true, Bool.or_eq_true, decide_eq_true_eq, Bool.not_eq_true', decide_eq_false_iff_not, Bool.false_eq_true, Bool.true_eq_false, Bool.not_false, Bool.not_true, eq_self, iff_true, iff_false, true_iff, false_iff, false_or, true_or, or_false, or_true, true_and, and_true, false_and, and_false, not_true_eq_false, not_false_eq_true]); (first | done | omega)))
end Go.Ev
namespace Go.Ev
open Go.Ev renaming exPure -> Ja, ofValue -> Jb, cellsV -> Jc, load -> Jd, store -> Je, binOp -> Jf, intOp -> Jg, rdV -> Jh, vsame -> Ji, vsames -> Jj, makeSliceV -> Jk, resV -> Jl, isCell -> Jm, nilCheckV -> Jn, allV -> Jo, builtinV -> Jp, lenV -> Jq, indexAddrV -> Jr, unOp -> Js, minmaxV -> Jt, minmax -> Ju, sliceV -> Jv, asInt -> Jw, appendV -> Jx, copyV -> Jy, clearV -> Jz, convV -> J0, sliceCells -> J1, shift -> J2
open Bool renaming true -> BT, false -> BF
open Nat renaming reduceEqDiff -> J3, reduceLT -> J4, reduceAdd -> J5, reduceBEq -> J6, reduceSub -> J7, reduceMul -> J8, reduceLeDiff -> JG
open Int renaming reduceLT -> J9, reduceLE -> JA, reduceAdd -> JB, reduceSub -> JC, reduceNeg -> JD, reduceToNat -> JE, reduceEq -> JF
open Go.Proofs
def meddleP (o c f t o' c' f' t' : Int) : Prop := ¬ (o = 0 \/ o' = 0) /\ ((o = 5 \/ o' = 5 \/ c = c') \/ ((f < t /\ f' < t' /\ f < t' /\ f' < t) /\ ¬ ((o = 1 \/ o = 4) /\ (o' = 1 \/ o' = 4))))
instance (o c f t o' c' f' t' : Int) : Decidable (meddleP o c f t o' c' f' t') := by unfold meddleP; infer_instance
set_option maxRecDepth 100000 in
theorem meddle_at (o c q f t o' c' q' f' t' : Int) (s s' : V) (h : Heap) : D X (.fn 55 []) [.agg [.int .i64 o, .int .i64 c, .int .i64 q, .int .i64 f, .int .i64 t, s], .agg [.int .i64 o', .int .i64 c', .int .i64 q', .int .i64 f', .int .i64 t', s']] h = some (.bool (decide (meddleP o c f t o' c' f' t')), h) := by
  refine Ok.eq ?_
  (refine Ok.body body55 pin55 ?_; simp only [c55, Try.f55, Option.getD_some, nslot55, List.append_nil, List.map, List.replicate, List.length_cons, List.length_nil, Nat.reduceAdd, Nat.reduceSub, List.cons_append, List.nil_append])
  (repeat' (first | (simp -implicitDefEqProofs (maxSteps := 1000000) (disch := first | assumption | omega | (simp only [ZDI]; omega)) only [*, touch_at, looks_at, G55, Za, Zb, Zc, Zd, Ze, Zf, Zg, Zh, Zi, Zj, Zk, Zl, Zm, Zn, Zo, Ja, Jb, Jc, J3, Jd, Je, J4, J5, Jf, Jg, Jh, Ji, Jj, Jk, J6, Jl, Jm, wr, Jn, J7, J8, Jo, Jp, Jq, Jr, Js, Jt, Ju, Jv, Jw, Jx, Jy, Jz, J0, J1, J2, reduceCtorEq, J9, JA, JB, JC, JD, JE, JF, JG]) | ((with_reducible (first | apply Ok.br | apply Ok.gd | apply Ok.ld)) <;> (intro g; (try simp only [ZGS] at g); try (exfalso; omega)))))
  all_goals try (unfold meddleP; (first | rfl | (exfalso; omega) | exact leaf_t (by (try simp only [Bool.and_eq_true, Bool.or_eq_true, decide_eq_true_eq, Bool.not_eq_true', decide_eq_false_iff_not, Bool.false_eq_true, Bool.true_eq_false, Bool.not_false, Bool.not_true, eq_self, iff_true, iff_false, true_iff, false_iff, false_or, true_or, or_false, or_true, true_and, and_true, false_and, and_false, not_true_eq_false, not_false_eq_true]); (first | done | omega)) | exact leaf_f (by (try simp only [Bool.and_eq_true, Bool.or_eq_true, decide_eq_true_eq, Bool.not_eq_true', decide_eq_false_iff_not, Bool.false_eq_true, Bool.true_eq_false, Bool.not_false, Bool.not_true, eq_self, iff_true, iff_false, true_iff, false_iff, false_or, true_or, or_false, or_true, true_and, and_true, false_and, and_false, not_true_eq_false, not_false_eq_true]); (first | done | omega)) | exact leaf_b (by (try simp only [Bool.and_eq_true, Bool.or_eq_true, decide_eq_true_eq, Bool.not_eq_true', decide_eq_false_iff_not, Bool.false_eq_true, Bool.true_eq_false, Bool.not_false, Bool.not_true, eq_self, iff_true, iff_false, true_iff, false_iff, false_or, true_or, or_false, or_true, true_and, and_true, false_and, and_false, not_true_eq_false, not_false_eq_true]); (first | done | omega))))
set_option maxRecDepth 100000 in
set_option maxHeartbeats 4000000 in
theorem rmeddle_at (o c q f t o' c' q' f' t' : Int) (s s' : V) (h : Heap) : D X (.fn 25 []) [.agg [.int .i64 o, .int .i64 c, .int .i64 q, .int .i64 f, .int .i64 t, s], .agg [.int .i64 o', .int .i64 c', .int .i64 q', .int .i64 f', .int .i64 t', s']] h = some (.bool (decide (meddleP o c f t o' c' f' t')), h) := by
  refine Ok.eq ?_
  (refine Ok.body body25 pin25 ?_; simp only [c25, Try.f25, Option.getD_some, nslot25, List.append_nil, List.map, List.replicate, List.length_cons, List.length_nil, Nat.reduceAdd, Nat.reduceSub, List.cons_append, List.nil_append])
  (repeat' (first | (simp -implicitDefEqProofs (maxSteps := 1000000) (disch := first | assumption | omega | (simp only [ZDI]; omega)) only [*, G25, Za, Zb, Zc, Zd, Ze, Zf, Zg, Zh, Zi, Zj, Zk, Zl, Zm, Zn, Zo, Ja, Jb, Jc, J3, Jd, Je, J4, J5, Jf, Jg, Jh, Ji, Jj, Jk, J6, Jl, Jm, wr, Jn, J7, J8, Jo, Jp, Jq, Jr, Js, Jt, Ju, Jv, Jw, Jx, Jy, Jz, J0, J1, J2, reduceCtorEq, J9, JA, JB, JC, JD, JE, JF, JG]) | ((with_reducible (first | apply Ok.br | apply Ok.gd | apply Ok.ld)) <;> (intro g; (try simp only [ZGS] at g); try (exfalso; omega)))))
  all_goals try (unfold meddleP; (first | rfl | (exfalso; omega) | exact leaf_t (by (try simp only [Bool.and_eq_true, Bool.or_eq_true, decide_eq_true_eq, Bool.not_eq_true', decide_eq_false_iff_not, Bool.false_eq_true, Bool.true_eq_false, Bool.not_false, Bool.not_true, eq_self, iff_true, iff_false, true_iff, false_iff, false_or, true_or, or_false, or_true, true_and, and_true, false_and, and_false, not_true_eq_false, not_false_eq_true]); (first | done | omega)) | exact leaf_f (by (try simp only [Bool.and_eq_true, Bool.or_eq_true, decide_eq_true_eq, Bool.not_eq_true', decide_eq_false_iff_not, Bool.false_eq_true, Bool.true_eq_false, Bool.not_false, Bool.not_true, eq_self, iff_true, iff_false, true_iff, false_iff, false_or, true_or, or_false, or_true, true_and, and_true, false_and, and_false, not_true_eq_false, not_false_eq_true]); (first | done | omega)) | exact leaf_b (by (try simp only [Bool.and_eq_true, Bool.or_eq_true, decide_eq_true_eq, Bool.not_eq_true', decide_eq_false_iff_not, Bool.false_eq_true, Bool.true_eq_false, Bool.not_false, Bool.not_true, eq_self, iff_true, iff_false, true_iff, false_iff, false_or, true_or, or_false, or_true, true_and, and_true, false_and, and_false, not_true_eq_false, not_false_eq_true]); (first | done | omega))))
end Go.Ev
set_option maxRecDepth 100000
namespace Go.Ev
open Go.Ev renaming exPure -> Ja, ofValue -> Jb, cellsV -> Jc, load -> Jd, store -> Je, binOp -> Jf, intOp -> Jg, rdV -> Jh, vsame -> Ji, vsames -> Jj, makeSliceV -> Jk, resV -> Jl, isCell -> Jm, nilCheckV -> Jn, allV -> Jo, builtinV -> Jp, lenV -> Jq, indexAddrV -> Jr, unOp -> Js, minmaxV -> Jt, minmax -> Ju, sliceV -> Jv, asInt -> Jw, appendV -> Jx, copyV -> Jy, clearV -> Jz, convV -> J0, sliceCells -> J1, shift -> J2
open Bool renaming true -> BT, false -> BF
open Nat renaming reduceEqDiff -> J3, reduceLT -> J4, reduceAdd -> J5, reduceBEq -> J6, reduceSub -> J7, reduceMul -> J8, reduceLeDiff -> JG
open Int renaming reduceLT -> J9, reduceLE -> JA, reduceAdd -> JB, reduceSub -> JC, reduceNeg -> JD, reduceToNat -> JE, reduceEq -> JF
open Go.Proofs
def flI : List In -> List V
  | [] => []
  | x :: l => .int .i64 x.l :: .int .i64 x.i :: .int .i64 x.bn :: .int .i64 x.bd :: .int .i64 x.vn :: .int .i64 x.vd :: .int .i64 x.st :: .bool x.sm :: .int .i64 x.o :: .int .i64 x.c :: .int .i64 x.q :: .int .i64 x.f :: .int .i64 x.t :: x.dv :: .int .i64 x.sq :: x.pv :: flI l
theorem flI_len : ∀ l : List In, (flI l).length = l.length * 16
  | [] => rfl
  | x :: l => by simp only [flI, List.length_cons, flI_len l]; omega
theorem flI_app : ∀ l m : List In, flI (l ++ m) = flI l ++ flI m
  | [], m => rfl
  | x :: l, m => by simp only [List.cons_append, flI, flI_app l m]
theorem flI_at : ∀ (l : List In) (i : Nat) (x : In), l[i]? = some x -> ((flI l).drop (i * 16)).take 16 = inV x
  | [], i, x, h => by simp at h
  | y :: l, 0, x, h => by simp at h; subst h; rfl
  | y :: l, i + 1, x, h => by
    have e : (i + 1) * 16 = i * 16 + 16 := by omega
    rw [e]
    show (((inV y ++ flI l)).drop (i * 16 + 16)).take 16 = _
    rw [Nat.add_comm, List.drop_append, show List.drop (16 + i * 16) (inV y) = [] from List.drop_eq_nil_of_le (by simp [inV]), List.nil_append, show 16 + i * 16 - (inV y).length = i * 16 by simp [inV]]
    exact flI_at l i x (by simpa using h)
theorem fl_snocI (l : List In) (x : In) : (flI l).take (l.length * 16) ++ [V.int .i64 x.l, .int .i64 x.i, .int .i64 x.bn, .int .i64 x.bd, .int .i64 x.vn, .int .i64 x.vd, .int .i64 x.st, .bool x.sm, .int .i64 x.o, .int .i64 x.c, .int .i64 x.q, .int .i64 x.f, .int .i64 x.t, x.dv, .int .i64 x.sq, x.pv] = flI (l ++ [x]) := by
  rw [flI_app, List.take_of_length_le (by rw [flI_len]; exact Nat.le_refl _)]; rfl
def InsAt (h : Heap) (v : V) (l : List In) : Prop :=
  ∃ a cap z, v = .sl a l.length cap z /\ l.length <= 9223372036854775807 /\ (∀ x ∈ l, InAt h x) /\ (l = [] \/ ∃ b g o rw full, a = .at b g o /\ hcells h b g = some (rw, full) /\ (∀ (i : Nat) (x : In), l[i]? = some x -> (full.drop (o + i * 16)).take 16 = inV x) /\ o + l.length * 16 <= full.length)
theorem InsAt.keep {h h' : Heap} {v : V} {l : List In} (hs : InsAt h v l) (k : KeepC h h') : InsAt h' v l := by
  obtain ⟨a, cap, z, h1, h2, h3, h4⟩ := hs
  refine ⟨a, cap, z, h1, h2, fun x hx => (h3 x hx).keep k, h4.imp id ?_⟩
  rintro ⟨b, g, o, rw, full, e1, e2, e3⟩
  exact ⟨b, g, o, rw, full, e1, k.2 _ _ _ e2, e3⟩
theorem InsAt.sl {h : Heap} {v : V} {l : List In} (hs : InsAt h v l) : ∃ a cap z, v = .sl a l.length cap z := let ⟨a, cap, z, e, _⟩ := hs; ⟨a, cap, z, e⟩
def GroI (h g : Heap) (w : V) (l : List In) : Prop :=
  (l = [] /\ w = .sl .nil 0 0 0) \/ ∃ b q, w = .sl (.at b q 0) l.length l.length 16 /\ h.length <= b /\ hcells g b q = some (true, flI l)
theorem GroI.row {h g : Heap} {w : V} {l : List In} (k : GroI h g w l) (hl : l.length <= 1000000) (ha : ∀ x ∈ l, InAt g x) : InsAt g w l := by
  rcases k with ⟨rfl, rfl⟩ | ⟨b, q, rfl, _, hc⟩
  · exact ⟨_, _, _, rfl, by decide, ha, .inl rfl⟩
  · refine ⟨_, _, _, rfl, by omega, ha, .inr ⟨b, q, 0, _, _, rfl, hc, fun i x hx => ?_, by rw [flI_len]; omega⟩⟩
    rw [Nat.zero_add]; exact flI_at l i x hx
def putR (x y : In) : In := if y.key = x.key then x else y
theorem putL_eq (l : List In) (x : In) : (if decide (x.key ∈ l.map In.key) then l.map (putR x) else l.map (putR x) ++ [x]) = putL l x := by
  unfold putL
  by_cases h : x.key ∈ l.map In.key
  · rw [if_pos h, decide_eq_true h, if_pos rfl]; rfl
  · rw [if_neg h, decide_eq_false h, if_neg (by simp)]
    congr 1
    conv => rhs; rw [<- List.map_id l]
    refine List.map_congr_left fun y hy => ?_
    unfold putR
    rw [if_neg fun e => h (List.mem_map.2 ⟨y, hy, e⟩)]; rfl
set_option maxHeartbeats 8000000 in
theorem rPut_at {h : Heap} {v : V} {l : List In} (hr : InsAt h v l) (hl : l.length <= 10000) {x : In} (hx : InAt h x) :
    Ev.Ok (D X (.fn 57 []) [v, .agg (inV x)] h) fun y => ∃ w l', y = (w, h ++ l') /\ InsAt (h ++ l') w (putL l x) := by
  refine Ok.aim fun Q hQ => ?_
  obtain ⟨a, cap, z, rfl, h1, hall, h2⟩ := hr
  have hfin : ∀ L put w g, l.map (putR x) = L -> decide (x.key ∈ l.map In.key) = put -> Ext h g -> GroI h g w (if put then L else L ++ [x]) -> Q (w, g) := by
    intro L put w g e1 e2 ⟨l', e3⟩ e4
    subst e3
    refine hQ _ ⟨w, l', rfl, ?_⟩
    rw [<- e1, <- e2, putL_eq] at e4
    refine e4.row ?_ fun y hy => ?_
    · have : (putL l x).length <= l.length + 1 := by unfold putL; split <;> simp
      omega
    · rcases putL_mem hy with rfl | hy
      · exact hx.keep (KeepC.app _ _)
      · exact (hall y hy).keep (KeepC.app _ _)
  have hfin' := Hid.mk hfin
  clear hfin hQ hall hx
  simp only [inV]
  (refine Ok.body body57 pin57 ?_; simp only [c57, Try.f57, Option.getD_some, nslot57, List.append_nil, List.map, List.replicate, List.length_cons, List.length_nil, Nat.reduceAdd, Nat.reduceSub, List.cons_append, List.nil_append])
  (repeat' (first | (simp -implicitDefEqProofs (maxSteps := 1000000) (disch := first | assumption | omega | (simp only [ZDI]; omega)) only [*, lenV, G57, Za, Zb, Zc, Zd, Ze, Zf, Zg, Zh, Zi, Zj, Zk, Zl, Zm, Zn, Zo, Ja, Jb, Jc, J3, Jd, Je, J4, J5, Jf, Jg, Jh, Ji, Jj, Jk, J6, Jl, Jm, wr, Jn, J7, J8, Jo, Jp, Jq, Jr, Js, Jt, Ju, Jv, Jw, Jx, Jy, Jz, J0, J1, J2, reduceCtorEq, J9, JA, JB, JC, JD, JE, JF, JG]) | ((with_reducible (first | apply Ok.br | apply Ok.gd | apply Ok.ld)) <;> (intro g; (try simp only [ZGS] at g); try (exfalso; omega)))))
  refine Ok.loop [BF, BF, BF, BF, BF, BT, BT, BF, BT, BF, BF, BT, BT, BT, BT, BT, BT, BT, BT, BT, BT, BT, BT, BT, BT, BT, BT, BT, BT, BF, BF, BF, BF, BF, BF, BF] (fun m s2 => ∃ (i k1 k2 k3 k4 : Nat) (c1 c2 c3 c4 : List V) (w : V) (L : List In) (put : Bool), m = l.length - i /\ i <= l.length /\ tv s2.e 11 = .v (.int .i64 i) /\ tv s2.e 5 = .v w /\ tv s2.e 6 = .v (.bool put) /\ s2.l = [(1, [.int .i64 x.l, .int .i64 x.i, .int .i64 x.bn, .int .i64 x.bd, .int .i64 x.vn, .int .i64 x.vd, .int .i64 x.st, .bool x.sm, .int .i64 x.o, .int .i64 x.c, .int .i64 x.q, .int .i64 x.f, .int .i64 x.t, x.dv, .int .i64 x.sq, x.pv]), (k1, c1), (k2, c2), (k3, c3), (k4, c4)] /\ Ext h s2.h /\ GroI h s2.h w L /\ (l.take i).map (putR x) = L /\ decide (x.key ∈ (l.take i).map In.key) = put)
    (fun y s2 => y = .exit 0 /\ ∃ (k1 k2 k3 k4 : Nat) (c1 c2 c3 c4 : List V) (w : V) (L : List In) (put : Bool), tv s2.e 5 = .v w /\ tv s2.e 6 = .v (.bool put) /\ s2.l = [(1, [.int .i64 x.l, .int .i64 x.i, .int .i64 x.bn, .int .i64 x.bd, .int .i64 x.vn, .int .i64 x.vd, .int .i64 x.st, .bool x.sm, .int .i64 x.o, .int .i64 x.c, .int .i64 x.q, .int .i64 x.f, .int .i64 x.t, x.dv, .int .i64 x.sq, x.pv]), (k1, c1), (k2, c2), (k3, c3), (k4, c4)] /\ Ext h s2.h /\ GroI h s2.h w L /\ l.map (putR x) = L /\ decide (x.key ∈ l.map In.key) = put) (l.length - 0) ⟨0, 0, 0, 0, 0, [], [], [], [], _, [], false, rfl, Nat.zero_le _, rfl, rfl, rfl, rfl, .refl _, .inl ⟨rfl, rfl⟩, rfl, by simp⟩ ?_ ?_
  · intro m ⟨e', l', g⟩ hW ⟨i, k1, k2, k3, k4, c1, c2, c3, c4, w, L, put, hm, hi, h9, h5, h6, hsl, hxt, hG, hma, hpu⟩
    dsimp only at hW h9 h5 h6 hsl hxt hG
    subst l'
    rw [hW.spread]
    simp only [spread_t, spread_f, spread_n, Nat.zero_add, Nat.reduceAdd, h9, h5, h6]
    clear hW hfin'
    by_cases hlt : i < l.length
    · have hlt' : (i : Int) < (l.length : Int) := by omega
      have g1 : 0 <= (i : Int) /\ (i : Int) < (l.length : Int) := by omega
      rcases h2 with rfl | ⟨b, q, o, rw, full, rfl, hb, hfull, ho⟩
      · simp at hlt
      · have hb2 := hxt.cells hb
        obtain ⟨y, hy⟩ : ∃ y, l[i]? = some y := ⟨_, List.getElem?_eq_getElem hlt⟩
        have hf := hfull i y hy
        simp only [inV] at hf
        have hgl := hxt.len
        have hLl : L.length <= 10000 := by rw [<- hma]; simp; omega
        have ha1 : (l.take (i + 1)).map (putR x) = L ++ [putR x y] := by rw [List.take_add_one, hy, List.map_append, hma]; rfl
        have ha2 : decide (x.key ∈ (l.take (i + 1)).map In.key) = (put || decide (y.key = x.key)) := by
          rw [List.take_add_one, hy, List.map_append, <- hpu]
          by_cases h2 : y.key = x.key
          · rw [decide_eq_true h2, Bool.or_true]
            exact decide_eq_true (by simp [h2])
          · rw [decide_eq_false h2, Bool.or_false]
            refine decide_eq_decide.2 ?_
            have h3 : ¬ x.key = y.key := fun e => h2 e.symm
            simp [h3]
        have hk : (y.key = x.key) ↔ (y.l = x.l /\ y.i = x.i) := by unfold In.key; simp
        have ha1' := Hid.mk ha1
        have ha2' := Hid.mk ha2
        have hxt' := Hid.mk hxt
        have ho2 : o + i * 16 + 16 <= full.length := by omega
        clear ha1 ha2 hy hfull hxt hma hpu hb ho
        have hb2l := hcells_lt hb2
        have hLb : (L.length + 2) * 160 <= 35184372088832 /\ L.length + 2 <= 35184372088832 := by omega
        have hLb1 : (L.length + 1) * 160 <= 35184372088832 /\ L.length + 1 <= 35184372088832 := by omega
        have hn1 : ¬ (L.length + 1 <= L.length) := by omega
        have hk' := Hid.mk hk
        clear hk
        cases hd1 : decide (y.l = x.l) with
        | true =>
          cases hd2 : decide (y.i = x.i) with
          | true =>
            have hp : putR x y = x := by unfold putR; rw [if_pos (hk'.out.2 ⟨of_decide_eq_true hd1, of_decide_eq_true hd2⟩)]
            have hq : decide (y.key = x.key) = true := decide_eq_true (hk'.out.2 ⟨of_decide_eq_true hd1, of_decide_eq_true hd2⟩)
            have hp' := Hid.mk hp
            have hq' := Hid.mk hq
            clear hp hq
            rcases hG with ⟨rfl, rfl⟩ | ⟨b3, q3, rfl, hbl, hcl⟩
            · (repeat' (first | (simp -implicitDefEqProofs (maxSteps := 1000000) (disch := first | assumption | omega | (simp only [ZDI]; omega)) only [*, lenV, flI_len, fl_snocI, List.drop_zero, Nat.zero_add, List.length_append, List.length_cons, List.length_nil, G57, Za, Zb, Zc, Zd, Ze, Zf, Zg, Zh, Zi, Zj, Zk, Zl, Zm, Zn, Zo, Ja, Jb, Jc, J3, Jd, Je, J4, J5, Jf, Jg, Jh, Ji, Jj, Jk, J6, Jl, Jm, wr, Jn, J7, J8, Jo, Jp, Jq, Jr, Js, Jt, Ju, Jv, Jw, Jx, Jy, Jz, J0, J1, J2, reduceCtorEq, J9, JA, JB, JC, JD, JE, JF, JG]) | ((with_reducible (first | apply Ok.br | apply Ok.gd | apply Ok.ld)) <;> (intro g; (try simp only [ZGS] at g); try (exfalso; omega)))))
              exact Turn.next (l.length - (i + 1)) (by omega) ⟨rfl, i + 1, _, _, _, _, _, _, _, _, _, [x], true, rfl, by omega, rfl, rfl, rfl, rfl, hxt'.out.app _, .inr ⟨_, _, rfl, hgl, hcells_new⟩, by rw [ha1'.out, hp'.out]; rfl, by rw [ha2'.out, hq'.out]; simp⟩
            · have hcl2 := hcells_lt hcl
              (repeat' (first | (simp -implicitDefEqProofs (maxSteps := 1000000) (disch := first | assumption | omega | (simp only [ZDI]; omega)) only [*, lenV, flI_len, fl_snocI, List.drop_zero, Nat.zero_add, List.length_append, List.length_cons, List.length_nil, G57, Za, Zb, Zc, Zd, Ze, Zf, Zg, Zh, Zi, Zj, Zk, Zl, Zm, Zn, Zo, Ja, Jb, Jc, J3, Jd, Je, J4, J5, Jf, Jg, Jh, Ji, Jj, Jk, J6, Jl, Jm, wr, Jn, J7, J8, Jo, Jp, Jq, Jr, Js, Jt, Ju, Jv, Jw, Jx, Jy, Jz, J0, J1, J2, reduceCtorEq, J9, JA, JB, JC, JD, JE, JF, JG]) | ((with_reducible (first | apply Ok.br | apply Ok.gd | apply Ok.ld)) <;> (intro g; (try simp only [ZGS] at g); try (exfalso; omega)))))
              exact Turn.next (l.length - (i + 1)) (by omega) ⟨rfl, i + 1, _, _, _, _, _, _, _, _, _, (L ++ [x]), true, rfl, by omega, rfl, rfl, rfl, rfl, hxt'.out.set hbl _, .inr ⟨b3, q3 + 1, by simp, hbl, by first | exact hcells_set_eq hcl2 | (rw [hcells_set_eq] <;> simp [hcl2])⟩, by rw [ha1'.out, hp'.out], by rw [ha2'.out, hq'.out]; simp⟩
          | false =>
            have hnk : ¬ y.key = x.key := fun e => of_decide_eq_false hd2 (hk'.out.1 e).2
            have hp : putR x y = y := by unfold putR; rw [if_neg hnk]
            have hq : decide (y.key = x.key) = false := decide_eq_false hnk
            have hp' := Hid.mk hp
            have hq' := Hid.mk hq
            clear hp hq hnk
            rcases hG with ⟨rfl, rfl⟩ | ⟨b3, q3, rfl, hbl, hcl⟩
            · (repeat' (first | (simp -implicitDefEqProofs (maxSteps := 1000000) (disch := first | assumption | omega | (simp only [ZDI]; omega)) only [*, lenV, flI_len, fl_snocI, List.drop_zero, Nat.zero_add, List.length_append, List.length_cons, List.length_nil, G57, Za, Zb, Zc, Zd, Ze, Zf, Zg, Zh, Zi, Zj, Zk, Zl, Zm, Zn, Zo, Ja, Jb, Jc, J3, Jd, Je, J4, J5, Jf, Jg, Jh, Ji, Jj, Jk, J6, Jl, Jm, wr, Jn, J7, J8, Jo, Jp, Jq, Jr, Js, Jt, Ju, Jv, Jw, Jx, Jy, Jz, J0, J1, J2, reduceCtorEq, J9, JA, JB, JC, JD, JE, JF, JG]) | ((with_reducible (first | apply Ok.br | apply Ok.gd | apply Ok.ld)) <;> (intro g; (try simp only [ZGS] at g); try (exfalso; omega)))))
              exact Turn.next (l.length - (i + 1)) (by omega) ⟨rfl, i + 1, _, _, _, _, _, _, _, _, _, [y], put, rfl, by omega, rfl, rfl, rfl, rfl, hxt'.out.app _, .inr ⟨_, _, rfl, hgl, hcells_new⟩, by rw [ha1'.out, hp'.out]; rfl, by rw [ha2'.out, hq'.out]; simp⟩
            · have hcl2 := hcells_lt hcl
              (repeat' (first | (simp -implicitDefEqProofs (maxSteps := 1000000) (disch := first | assumption | omega | (simp only [ZDI]; omega)) only [*, lenV, flI_len, fl_snocI, List.drop_zero, Nat.zero_add, List.length_append, List.length_cons, List.length_nil, G57, Za, Zb, Zc, Zd, Ze, Zf, Zg, Zh, Zi, Zj, Zk, Zl, Zm, Zn, Zo, Ja, Jb, Jc, J3, Jd, Je, J4, J5, Jf, Jg, Jh, Ji, Jj, Jk, J6, Jl, Jm, wr, Jn, J7, J8, Jo, Jp, Jq, Jr, Js, Jt, Ju, Jv, Jw, Jx, Jy, Jz, J0, J1, J2, reduceCtorEq, J9, JA, JB, JC, JD, JE, JF, JG]) | ((with_reducible (first | apply Ok.br | apply Ok.gd | apply Ok.ld)) <;> (intro g; (try simp only [ZGS] at g); try (exfalso; omega)))))
              exact Turn.next (l.length - (i + 1)) (by omega) ⟨rfl, i + 1, _, _, _, _, _, _, _, _, _, (L ++ [y]), put, rfl, by omega, rfl, rfl, rfl, rfl, hxt'.out.set hbl _, .inr ⟨b3, q3 + 1, by simp, hbl, by first | exact hcells_set_eq hcl2 | (rw [hcells_set_eq] <;> simp [hcl2])⟩, by rw [ha1'.out, hp'.out], by rw [ha2'.out, hq'.out]; simp⟩
        | false =>
          have hnk : ¬ y.key = x.key := fun e => of_decide_eq_false hd1 (hk'.out.1 e).1
          have hp : putR x y = y := by unfold putR; rw [if_neg hnk]
          have hq : decide (y.key = x.key) = false := decide_eq_false hnk
          have hp' := Hid.mk hp
          have hq' := Hid.mk hq
          clear hp hq hnk
          rcases hG with ⟨rfl, rfl⟩ | ⟨b3, q3, rfl, hbl, hcl⟩
          · (repeat' (first | (simp -implicitDefEqProofs (maxSteps := 1000000) (disch := first | assumption | omega | (simp only [ZDI]; omega)) only [*, lenV, flI_len, fl_snocI, List.drop_zero, Nat.zero_add, List.length_append, List.length_cons, List.length_nil, G57, Za, Zb, Zc, Zd, Ze, Zf, Zg, Zh, Zi, Zj, Zk, Zl, Zm, Zn, Zo, Ja, Jb, Jc, J3, Jd, Je, J4, J5, Jf, Jg, Jh, Ji, Jj, Jk, J6, Jl, Jm, wr, Jn, J7, J8, Jo, Jp, Jq, Jr, Js, Jt, Ju, Jv, Jw, Jx, Jy, Jz, J0, J1, J2, reduceCtorEq, J9, JA, JB, JC, JD, JE, JF, JG]) | ((with_reducible (first | apply Ok.br | apply Ok.gd | apply Ok.ld)) <;> (intro g; (try simp only [ZGS] at g); try (exfalso; omega)))))
            exact Turn.next (l.length - (i + 1)) (by omega) ⟨rfl, i + 1, _, _, _, _, _, _, _, _, _, [y], put, rfl, by omega, rfl, rfl, rfl, rfl, hxt'.out.app _, .inr ⟨_, _, rfl, hgl, hcells_new⟩, by rw [ha1'.out, hp'.out]; rfl, by rw [ha2'.out, hq'.out]; simp⟩
          · have hcl2 := hcells_lt hcl
            (repeat' (first | (simp -implicitDefEqProofs (maxSteps := 1000000) (disch := first | assumption | omega | (simp only [ZDI]; omega)) only [*, lenV, flI_len, fl_snocI, List.drop_zero, Nat.zero_add, List.length_append, List.length_cons, List.length_nil, G57, Za, Zb, Zc, Zd, Ze, Zf, Zg, Zh, Zi, Zj, Zk, Zl, Zm, Zn, Zo, Ja, Jb, Jc, J3, Jd, Je, J4, J5, Jf, Jg, Jh, Ji, Jj, Jk, J6, Jl, Jm, wr, Jn, J7, J8, Jo, Jp, Jq, Jr, Js, Jt, Ju, Jv, Jw, Jx, Jy, Jz, J0, J1, J2, reduceCtorEq, J9, JA, JB, JC, JD, JE, JF, JG]) | ((with_reducible (first | apply Ok.br | apply Ok.gd | apply Ok.ld)) <;> (intro g; (try simp only [ZGS] at g); try (exfalso; omega)))))
            exact Turn.next (l.length - (i + 1)) (by omega) ⟨rfl, i + 1, _, _, _, _, _, _, _, _, _, (L ++ [y]), put, rfl, by omega, rfl, rfl, rfl, rfl, hxt'.out.set hbl _, .inr ⟨b3, q3 + 1, by simp, hbl, by first | exact hcells_set_eq hcl2 | (rw [hcells_set_eq] <;> simp [hcl2])⟩, by rw [ha1'.out, hp'.out], by rw [ha2'.out, hq'.out]; simp⟩
    · have hlt' : ¬ (i : Int) < (l.length : Int) := by omega
      (repeat' (first | (simp -implicitDefEqProofs (maxSteps := 1000000) (disch := first | assumption | omega | (simp only [ZDI]; omega)) only [*, lenV, G57, Za, Zb, Zc, Zd, Ze, Zf, Zg, Zh, Zi, Zj, Zk, Zl, Zm, Zn, Zo, Ja, Jb, Jc, J3, Jd, Je, J4, J5, Jf, Jg, Jh, Ji, Jj, Jk, J6, Jl, Jm, wr, Jn, J7, J8, Jo, Jp, Jq, Jr, Js, Jt, Ju, Jv, Jw, Jx, Jy, Jz, J0, J1, J2, reduceCtorEq, J9, JA, JB, JC, JD, JE, JF, JG]) | ((with_reducible (first | apply Ok.br | apply Ok.gd | apply Ok.ld)) <;> (intro g; (try simp only [ZGS] at g); try (exfalso; omega)))))
      refine Turn.exit ⟨rfl, rfl, _, _, _, _, _, _, _, _, _, L, put, rfl, rfl, rfl, hxt, hG, ?_, ?_⟩
      · rwa [List.take_of_length_le (by omega)] at hma
      · rwa [List.take_of_length_le (by omega)] at hpu
  · intro y ⟨e', l', g⟩ hW ⟨hy, k1, k2, k3, k4, c1, c2, c3, c4, w, L, put, h5, h6, hsl, hxt, hG, hma, hpu⟩
    dsimp only at hW h5 h6 hsl hxt hG
    subst l' hy
    rw [hW.spread]
    clear hW
    simp only [spread_t, spread_f, spread_n, Nat.zero_add, Nat.reduceAdd, h5, h6]
    have hLl : L.length <= 10000 := by rw [<- hma]; simp; omega
    have hLb1 : (L.length + 1) * 160 <= 35184372088832 /\ L.length + 1 <= 35184372088832 := by omega
    have hn1 : ¬ (L.length + 1 <= L.length) := by omega
    have hgl := hxt.len
    have hxt' := Hid.mk hxt
    have hma' := Hid.mk hma
    have hpu' := Hid.mk hpu
    clear hxt hma hpu
    cases put with
    | true =>
      obtain ⟨a2, n2, c2, z2, rfl⟩ : ∃ a n c z, w = .sl a n c z := by
        rcases hG with ⟨_, rfl⟩ | ⟨b, q, rfl, _⟩ <;> exact ⟨_, _, _, _, rfl⟩
      (repeat' (first | (simp -implicitDefEqProofs (maxSteps := 1000000) (disch := first | assumption | omega | (simp only [ZDI]; omega)) only [*, lenV, G57, Za, Zb, Zc, Zd, Ze, Zf, Zg, Zh, Zi, Zj, Zk, Zl, Zm, Zn, Zo, Ja, Jb, Jc, J3, Jd, Je, J4, J5, Jf, Jg, Jh, Ji, Jj, Jk, J6, Jl, Jm, wr, Jn, J7, J8, Jo, Jp, Jq, Jr, Js, Jt, Ju, Jv, Jw, Jx, Jy, Jz, J0, J1, J2, reduceCtorEq, J9, JA, JB, JC, JD, JE, JF, JG]) | ((with_reducible (first | apply Ok.br | apply Ok.gd | apply Ok.ld)) <;> (intro g; (try simp only [ZGS] at g); try (exfalso; omega)))))
      exact hfin'.out L true _ _ hma'.out hpu'.out hxt'.out hG
    | false =>
      rcases hG with ⟨rfl, rfl⟩ | ⟨b, q, rfl, hbl, hcl⟩
      · (repeat' (first | (simp -implicitDefEqProofs (maxSteps := 1000000) (disch := first | assumption | omega | (simp only [ZDI]; omega)) only [*, lenV, flI_len, fl_snocI, List.drop_zero, Nat.zero_add, List.length_append, List.length_cons, List.length_nil, G57, Za, Zb, Zc, Zd, Ze, Zf, Zg, Zh, Zi, Zj, Zk, Zl, Zm, Zn, Zo, Ja, Jb, Jc, J3, Jd, Je, J4, J5, Jf, Jg, Jh, Ji, Jj, Jk, J6, Jl, Jm, wr, Jn, J7, J8, Jo, Jp, Jq, Jr, Js, Jt, Ju, Jv, Jw, Jx, Jy, Jz, J0, J1, J2, reduceCtorEq, J9, JA, JB, JC, JD, JE, JF, JG]) | ((with_reducible (first | apply Ok.br | apply Ok.gd | apply Ok.ld)) <;> (intro g; (try simp only [ZGS] at g); try (exfalso; omega)))))
        exact hfin'.out [] false _ _ hma'.out hpu'.out (hxt'.out.app _) (.inr ⟨_, _, rfl, hgl, hcells_new⟩)
      · have hcl2 := hcells_lt hcl
        (repeat' (first | (simp -implicitDefEqProofs (maxSteps := 1000000) (disch := first | assumption | omega | (simp only [ZDI]; omega)) only [*, lenV, flI_len, fl_snocI, List.drop_zero, Nat.zero_add, List.length_append, List.length_cons, List.length_nil, G57, Za, Zb, Zc, Zd, Ze, Zf, Zg, Zh, Zi, Zj, Zk, Zl, Zm, Zn, Zo, Ja, Jb, Jc, J3, Jd, Je, J4, J5, Jf, Jg, Jh, Ji, Jj, Jk, J6, Jl, Jm, wr, Jn, J7, J8, Jo, Jp, Jq, Jr, Js, Jt, Ju, Jv, Jw, Jx, Jy, Jz, J0, J1, J2, reduceCtorEq, J9, JA, JB, JC, JD, JE, JF, JG]) | ((with_reducible (first | apply Ok.br | apply Ok.gd | apply Ok.ld)) <;> (intro g; (try simp only [ZGS] at g); try (exfalso; omega)))))
        exact hfin'.out L false _ _ hma'.out hpu'.out (hxt'.out.set hbl _) (.inr ⟨_, _, by simp, hbl, hcells_set_eq hcl2⟩)
end Go.Ev
set_option maxRecDepth 100000
namespace Go.Ev
open Go.Ev renaming exPure -> Ja, ofValue -> Jb, cellsV -> Jc, load -> Jd, store -> Je, binOp -> Jf, intOp -> Jg, rdV -> Jh, vsame -> Ji, vsames -> Jj, makeSliceV -> Jk, resV -> Jl, isCell -> Jm, nilCheckV -> Jn, allV -> Jo, builtinV -> Jp, lenV -> Jq, indexAddrV -> Jr, unOp -> Js, minmaxV -> Jt, minmax -> Ju, sliceV -> Jv, asInt -> Jw, appendV -> Jx, copyV -> Jy, clearV -> Jz, convV -> J0, sliceCells -> J1, shift -> J2
open Bool renaming true -> BT, false -> BF
open Nat renaming reduceEqDiff -> J3, reduceLT -> J4, reduceAdd -> J5, reduceBEq -> J6, reduceSub -> J7, reduceMul -> J8, reduceLeDiff -> JG
open Int renaming reduceLT -> J9, reduceLE -> JA, reduceAdd -> JB, reduceSub -> JC, reduceNeg -> JD, reduceToNat -> JE, reduceEq -> JF
open Go.Proofs
def lightB : Nat -> Nat -> List ByteArray -> Bool
  | _, _, [] => true
  | i, n, s :: r => cond (decide ((100 : Int) < i)) false (cond (decide ((10000 : Int) < s.size)) false (cond (decide ((100000 : Int) < n)) false (lightB (i + 1) (n + s.size) r)))
theorem lightB_drop {i n : Nat} {l : List ByteArray} {s : ByteArray} (h : l[i]? = some s) : lightB i n (l.drop i) = cond (decide ((100 : Int) < i)) false (cond (decide ((10000 : Int) < s.size)) false (cond (decide ((100000 : Int) < n)) false (lightB (i + 1) (n + s.size) (l.drop (i + 1))))) := by
  have hi := (List.getElem?_eq_some_iff.1 h).1
  rw [List.drop_eq_getElem_cons hi]
  have : l[i] = s := by rw [List.getElem?_eq_getElem hi] at h; exact Option.some.inj h
  rw [this, lightB]
theorem light_at {h : Heap} {x : In} (hx : InAt h x) : D X (.fn 12 []) [.agg (inV x)] h = some (.bool (lightB 0 0 x.dl && decide ((x.pl.length : Int) <= 5000)), h) := by
  refine Ok.eq ?_
  refine Ok.aim fun Q hQ => ?_
  have hQ' := Hid.mk hQ
  clear hQ
  obtain ⟨a, cap, z, e1, hl, _, ha⟩ := hx.1
  obtain ⟨a3, cap3, z3, e3, _⟩ := hx.2
  have hh := Hid.mk ha
  clear ha hx
  simp only [inV, e1, e3]
  clear e1 e3
  generalize x.dl = l at hl hh hQ' ⊢
  (refine Ok.body body12 pin12 ?_; simp only [c12, Try.f12, Option.getD_some, nslot12, List.append_nil, List.map, List.replicate, List.length_cons, List.length_nil, Nat.reduceAdd, Nat.reduceSub, List.cons_append, List.nil_append])
  simp -implicitDefEqProofs (maxSteps := 1000000) (disch := first | assumption | omega | (simp only [ZDI]; omega)) only [*, lenV, G12, Za, Zb, Zc, Zd, Ze, Zf, Zg, Zh, Zi, Zj, Zk, Zl, Zm, Zn, Zo, Ja, Jb, Jc, J3, Jd, Je, J4, J5, Jf, Jg, Jh, Ji, Jj, Jk, J6, Jl, Jm, wr, Jn, J7, J8, Jo, Jp, Jq, Jr, Js, Jt, Ju, Jv, Jw, Jx, Jy, Jz, J0, J1, J2, reduceCtorEq, J9, JA, JB, JC, JD, JE, JF, JG]
  refine Ok.loop [BF, BF, BT, BT, BT, BT, BF, BF, BF, BF, BT, BT, BT, BT, BT, BT, BT, BT, BT, BT, BT, BT, BT, BT, BT, BT, BT, BT, BT, BT, BT, BF, BF, BF, BF] (fun n s => ∃ i m : Nat, n = l.length - i /\ i <= l.length /\ m <= 110000 /\ tv s.e 10 = .v (.int .i64 i) /\ tv s.e 3 = .v (.int .i64 m) /\ s.l = [(1, [.int .i64 x.l, .int .i64 x.i, .int .i64 x.bn, .int .i64 x.bd, .int .i64 x.vn, .int .i64 x.vd, .int .i64 x.st, .bool x.sm, .int .i64 x.o, .int .i64 x.c, .int .i64 x.q, .int .i64 x.f, .int .i64 x.t, .sl a l.length cap z, .int .i64 x.sq, .sl a3 x.pl.length cap3 z3])] /\ s.h = h /\ lightB 0 0 l = lightB i m (l.drop i))
    (fun xx s => s.l = [(1, [.int .i64 x.l, .int .i64 x.i, .int .i64 x.bn, .int .i64 x.bd, .int .i64 x.vn, .int .i64 x.vd, .int .i64 x.st, .bool x.sm, .int .i64 x.o, .int .i64 x.c, .int .i64 x.q, .int .i64 x.f, .int .i64 x.t, .sl a l.length cap z, .int .i64 x.sq, .sl a3 x.pl.length cap3 z3])] /\ s.h = h /\ ((xx = .exit 0 /\ lightB 0 0 l = true) \/ (xx = .ret /\ lightB 0 0 l = false /\ tv s.e 2 = .v (.bool false)))) (l.length - 0) ⟨0, 0, rfl, by omega, by omega, rfl, rfl, rfl, rfl, rfl⟩ ?_ ?_
  · intro n ⟨e', l', h'⟩ hW ⟨i, m, hn, hi, hm, h9, h3, h1, h2, hno⟩
    dsimp only at hW h9 h3 h1 h2
    subst l' h'
    rw [hW.spread]
    simp only [spread_t, spread_f, spread_n, Nat.zero_add, Nat.reduceAdd, h9, h3]
    by_cases hlt : i < l.length
    · rcases hh.out with rfl | ⟨b, g, oo, rw, full, rfl, hb, hfull⟩
      · simp at hlt
      · obtain ⟨s, hs⟩ : ∃ s, l[i]? = some s := ⟨_, List.getElem?_eq_getElem hlt⟩
        have hf := hfull i s hs
        have hno' := hno
        rw [lightB_drop hs] at hno'
        have hno2 := Hid.mk hno'
        clear hno hno' hfull
        (repeat' (first | (simp -implicitDefEqProofs (maxSteps := 1000000) (disch := first | assumption | omega | (simp only [ZDI]; omega)) only [*, Int.ofNat_lt, Int.natCast_nonneg, lenV, Int.natCast_zero, G12, Za, Zb, Zc, Zd, Ze, Zf, Zg, Zh, Zi, Zj, Zk, Zl, Zm, Zn, Zo, Ja, Jb, Jc, J3, Jd, Je, J4, J5, Jf, Jg, Jh, Ji, Jj, Jk, J6, Jl, Jm, wr, Jn, J7, J8, Jo, Jp, Jq, Jr, Js, Jt, Ju, Jv, Jw, Jx, Jy, Jz, J0, J1, J2, reduceCtorEq, J9, JA, JB, JC, JD, JE, JF, JG]) | ((with_reducible (first | apply Ok.br | apply Ok.gd | apply Ok.ld)) <;> (intro g; (try simp only [ZGS] at g); try (exfalso; omega)))))
        all_goals first
          | (refine Turn.ret ⟨rfl, rfl, rfl, .inr ⟨rfl, ?_, rfl⟩⟩; rw [hno2.out]; simp only [*, decide_true, decide_false, cond_true, cond_false]; done)
          | (refine Turn.next (l.length - (i + 1)) (by omega) ⟨rfl, i + 1, m + s.size, rfl, by omega, by omega, rfl, rfl, rfl, rfl, ?_⟩; rw [hno2.out]; simp only [*, decide_false, cond_false])
    · simp -implicitDefEqProofs (maxSteps := 1000000) (disch := first | assumption | omega | (simp only [ZDI]; omega)) only [*, Int.ofNat_lt, G12, Za, Zb, Zc, Zd, Ze, Zf, Zg, Zh, Zi, Zj, Zk, Zl, Zm, Zn, Zo, Ja, Jb, Jc, J3, Jd, Je, J4, J5, Jf, Jg, Jh, Ji, Jj, Jk, J6, Jl, Jm, wr, Jn, J7, J8, Jo, Jp, Jq, Jr, Js, Jt, Ju, Jv, Jw, Jx, Jy, Jz, J0, J1, J2, reduceCtorEq, J9, JA, JB, JC, JD, JE, JF, JG]
      refine Turn.exit ⟨rfl, rfl, rfl, .inl ⟨rfl, ?_⟩⟩
      rw [List.drop_of_length_le (by omega), lightB]
  · intro xx ⟨e', l', h'⟩ hW ⟨h1, h2, hE⟩
    dsimp only at hW h1 h2 hE
    subst l' h'
    rw [hW.spread]
    rcases hE with ⟨rfl, hany⟩ | ⟨rfl, hany, h4⟩
    · simp only [spread_t, spread_f, spread_n, Nat.zero_add, Nat.reduceAdd]
      simp -implicitDefEqProofs (maxSteps := 1000000) (disch := first | assumption | omega | (simp only [ZDI]; omega)) only [*, lenV, G12, Za, Zb, Zc, Zd, Ze, Zf, Zg, Zh, Zi, Zj, Zk, Zl, Zm, Zn, Zo, Ja, Jb, Jc, J3, Jd, Je, J4, J5, Jf, Jg, Jh, Ji, Jj, Jk, J6, Jl, Jm, wr, Jn, J7, J8, Jo, Jp, Jq, Jr, Js, Jt, Ju, Jv, Jw, Jx, Jy, Jz, J0, J1, J2, reduceCtorEq, J9, JA, JB, JC, JD, JE, JF, JG]
      exact hQ'.out _ (by rw [hany]; simp)
    · simp only [spread_t, spread_f, spread_n, Nat.zero_add, Nat.reduceAdd, h4]
      simp -implicitDefEqProofs (maxSteps := 1000000) (disch := first | assumption | omega | (simp only [ZDI]; omega)) only [*, lenV, G12, Za, Zb, Zc, Zd, Ze, Zf, Zg, Zh, Zi, Zj, Zk, Zl, Zm, Zn, Zo, Ja, Jb, Jc, J3, Jd, Je, J4, J5, Jf, Jg, Jh, Ji, Jj, Jk, J6, Jl, Jm, wr, Jn, J7, J8, Jo, Jp, Jq, Jr, Js, Jt, Ju, Jv, Jw, Jx, Jy, Jz, J0, J1, J2, reduceCtorEq, J9, JA, JB, JC, JD, JE, JF, JG]
      exact hQ'.out _ (by rw [hany]; simp)
end Go.Ev
set_option maxRecDepth 100000
namespace Go.Ev
open Go.Ev renaming exPure -> Ja, ofValue -> Jb, cellsV -> Jc, load -> Jd, store -> Je, binOp -> Jf, intOp -> Jg, rdV -> Jh, vsame -> Ji, vsames -> Jj, makeSliceV -> Jk, resV -> Jl, isCell -> Jm, nilCheckV -> Jn, allV -> Jo, builtinV -> Jp, lenV -> Jq, indexAddrV -> Jr, unOp -> Js, minmaxV -> Jt, minmax -> Ju, sliceV -> Jv, asInt -> Jw, appendV -> Jx, copyV -> Jy, clearV -> Jz, convV -> J0, sliceCells -> J1, shift -> J2
open Bool renaming true -> BT, false -> BF
open Nat renaming reduceEqDiff -> J3, reduceLT -> J4, reduceAdd -> J5, reduceBEq -> J6, reduceSub -> J7, reduceMul -> J8, reduceLeDiff -> JG
open Int renaming reduceLT -> J9, reduceLE -> JA, reduceAdd -> JB, reduceSub -> JC, reduceNeg -> JD, reduceToNat -> JE, reduceEq -> JF
open Go.Proofs
theorem Ext.of_keeps {h a b : Heap} {F : List Nat} (he : Ext h a) (k : Keeps F a b) (hF : ∀ i ∈ F, h.length <= i) : Ext h b := by
  have hl := he.len
  obtain ⟨l, rfl⟩ := he
  refine ⟨b.drop h.length, ?_⟩
  apply List.ext_getElem?
  intro i
  by_cases hi : i < h.length
  · rw [List.getElem?_append_left hi]
    have := k.2 i (by simp; omega) (fun hm => by have := hF i hm; omega)
    rw [this, List.getElem?_append_left hi]
  · rw [List.getElem?_append_right (by omega), List.getElem?_drop]
    congr 1; omega
theorem Ext.keepC {h g : Heap} (k : Ext h g) : KeepC h g := by
  obtain ⟨l, rfl⟩ := k
  exact KeepC.app h l
theorem putL_core (L : List In) (x : In) : (putL L x).map In.core = putL (L.map In.core) x.core := by
  have hk : ∀ L : List In, (L.map In.core).map In.key = L.map In.key := fun L => by rw [List.map_map]; rfl
  unfold putL
  rw [hk]
  by_cases h : x.key ∈ L.map In.key
  · rw [if_pos h, if_pos (show x.core.key ∈ _ from h), List.map_map, List.map_map]
    refine List.map_congr_left fun y _ => ?_
    show In.core (if y.key = x.key then x else y) = if y.core.key = x.core.key then x.core else y.core
    by_cases e : y.key = x.key
    · rw [if_pos e, if_pos (show y.core.key = x.core.key from e)]
    · rw [if_neg e, if_neg (show ¬ y.core.key = x.core.key from e)]
  · rw [if_neg h, if_neg (show ¬ x.core.key ∈ _ from h), List.map_append]; rfl
theorem putL_len (L : List In) (x : In) : (putL L x).length <= L.length + 1 := by
  unfold putL; split <;> simp
theorem core_len {L M : List In} (h : L.map In.core = M.map In.core) : L.length = M.length := by have := congrArg List.length h; simpa using this
theorem core_keys {L M : List In} (h : L.map In.core = M.map In.core) : L.map In.key = M.map In.key := by
  have := congrArg (List.map In.key) h
  rw [List.map_map, List.map_map] at this
  exact this
structure Played (h g : Heap) (b m : Nat) (w : V) (L M : List In) : Prop where
  ext : Ext h g
  tab : TabAt g b m L
  new : h.length <= b /\ h.length <= m
  row : InsAt g w M
  same : L.map In.core = M.map In.core
  may : ∀ x ∈ M, mayB x = true
set_option maxHeartbeats 8000000 in
theorem play_at {h : Heap} {v : V} {l : List In} (hr : InsAt h v l) :
    Ev.Ok (D X (.fn 27 []) [v] h) fun y => ∃ b m w g L M, y = (.tup [.ptr b 0 0, w, .bool true], g) /\ Played h g b m w L M /\ M.length <= 60 := by
  refine Ok.aim fun Q hQ => ?_
  have hQ' := Hid.mk hQ
  clear hQ
  obtain ⟨a, cap, z, rfl, h1, hall, h2⟩ := hr
  have hnew := newT_at h
  have hst : Played h (h ++ [Blk.map true [] 0, .cells 0 true [.map h.length]]) (h.length + 1) h.length (.sl .nil 0 0 0) [] [] := by
    refine ⟨⟨_, rfl⟩, ⟨?_, ⟨true, [], 0, ?_, rfl⟩, (fun x hx => nomatch hx), List.nodup_nil⟩, ⟨by omega, Nat.le_refl _⟩, ⟨_, _, _, rfl, by decide, (fun x hx => nomatch hx), .inl rfl⟩, rfl, (fun x hx => nomatch hx)⟩
    · rw [hcells_ge (by omega), Nat.add_sub_cancel_left]; rfl
    · rw [List.getElem?_append_right (Nat.le_refl _), Nat.sub_self]; rfl
  have hst' := Hid.mk hst
  clear hst
  (refine Ok.body body27 pin27 ?_; simp only [c27, Try.f27, Option.getD_some, nslot27, List.append_nil, List.map, List.replicate, List.length_cons, List.length_nil, Nat.reduceAdd, Nat.reduceSub, List.cons_append, List.nil_append])
  (repeat' (first | (simp -implicitDefEqProofs (maxSteps := 1000000) (disch := first | assumption | omega | (simp only [ZDI]; omega)) only [*, lenV, G27, Za, Zb, Zc, Zd, Ze, Zf, Zg, Zh, Zi, Zj, Zk, Zl, Zm, Zn, Zo, Ja, Jb, Jc, J3, Jd, Je, J4, J5, Jf, Jg, Jh, Ji, Jj, Jk, J6, Jl, Jm, wr, Jn, J7, J8, Jo, Jp, Jq, Jr, Js, Jt, Ju, Jv, Jw, Jx, Jy, Jz, J0, J1, J2, reduceCtorEq, J9, JA, JB, JC, JD, JE, JF, JG]) | ((with_reducible (first | apply Ok.br | apply Ok.gd | apply Ok.ld)) <;> (intro g; (try simp only [ZGS] at g); try (exfalso; omega)))))
  generalize h.length + 1 = b at hst' ⊢
  obtain ⟨N, hN⟩ : ∃ N, h.length = N := ⟨_, rfl⟩
  clear hnew
  refine Ok.loop [BF, BF, BT, BT, BT, BF, BT, BT, BT, BT, BF, BF, BF, BT, BT, BT, BT, BT, BT, BT, BT, BT, BT, BT, BT, BT, BT, BT, BT, BT, BT, BT, BT, BT, BT, BT, BT, BT, BT, BT, BT, BT, BT, BT, BT, BT, BT, BF, BF, BF, BF, BF, BF, BF] (fun n s2 => ∃ (i w1 : Nat) (q1 : List V) (w : V) (L M : List In), n = l.length - i /\ i <= l.length /\ tv s2.e 13 = .v (.int .i64 i) /\ tv s2.e 6 = .v w /\ s2.l = [(w1, q1)] /\ Played h s2.h b N w L M /\ M.length <= i /\ M.length <= 60)
    (fun y s2 => y = .exit 0 /\ ∃ (w1 : Nat) (q1 : List V) (w : V) (L M : List In), tv s2.e 6 = .v w /\ s2.l = [(w1, q1)] /\ Played h s2.h b N w L M /\ M.length <= 60) (l.length - 0) ⟨0, 0, [], _, [], [], rfl, Nat.zero_le _, rfl, rfl, rfl, by rw [<- hN]; exact hst'.out, Nat.le_refl _, by decide⟩ ?_ ?_
  · intro n ⟨e', l', g⟩ hW ⟨i, w1, q1, w, L, M, hm, hi, h9, h6, k2, hp, hM1, hM2⟩
    dsimp only at hW h9 h6 k2 hp
    subst l'
    rw [hW.spread]
    simp only [spread_t, spread_f, spread_n, Nat.zero_add, Nat.reduceAdd, h9, h6]
    clear hW hQ' hst'
    have hp' := Hid.mk hp
    by_cases hlt : i < l.length
    · have hlt' : (i : Int) < (l.length : Int) := by omega
      have g1 : 0 <= (i : Int) /\ (i : Int) < (l.length : Int) := by omega
      rcases h2 with rfl | ⟨bb, q, o, rw, full, rfl, hb, hfull, ho⟩
      · simp at hlt
      · have hb2 := hp.ext.cells hb
        obtain ⟨y, hy⟩ : ∃ y, l[i]? = some y := ⟨_, List.getElem?_eq_getElem hlt⟩
        have hf := hfull i y hy
        have hya : InAt g y := (hall y (List.mem_of_getElem? hy)).keep hp.ext.keepC
        have ho2 : o + i * 16 + 16 <= full.length := by omega
        have hbl := hcells_lt hb2
        by_cases h60 : 60 <= i
        · have h60' : (60 : Int) <= (i : Int) := by omega
          simp only [inV] at hf
          clear hy hfull ho hp hya hb
          (repeat' (first | (simp -implicitDefEqProofs (maxSteps := 1000000) (disch := first | assumption | omega | (simp only [ZDI]; omega)) only [*, lenV, G27, Za, Zb, Zc, Zd, Ze, Zf, Zg, Zh, Zi, Zj, Zk, Zl, Zm, Zn, Zo, Ja, Jb, Jc, J3, Jd, Je, J4, J5, Jf, Jg, Jh, Ji, Jj, Jk, J6, Jl, Jm, wr, Jn, J7, J8, Jo, Jp, Jq, Jr, Js, Jt, Ju, Jv, Jw, Jx, Jy, Jz, J0, J1, J2, reduceCtorEq, J9, JA, JB, JC, JD, JE, JF, JG]) | ((with_reducible (first | apply Ok.br | apply Ok.gd | apply Ok.ld)) <;> (intro g; (try simp only [ZGS] at g); try (exfalso; omega)))))
          exact Turn.exit ⟨rfl, rfl, _, _, _, _, _, rfl, rfl, hp'.out, hM2⟩
        · have h60' : ¬ (60 : Int) <= (i : Int) := by omega
          have hlight := light_at hya
          generalize (lightB 0 0 y.dl && decide ((y.pl.length : Int) <= 5000)) = lb at hlight
          cases lb with
          | false =>
            simp only [inV] at hf hlight
            clear hy hfull ho hp hya hb
            (repeat' (first | (simp -implicitDefEqProofs (maxSteps := 1000000) (disch := first | assumption | omega | (simp only [ZDI]; omega)) only [*, lenV, G27, Za, Zb, Zc, Zd, Ze, Zf, Zg, Zh, Zi, Zj, Zk, Zl, Zm, Zn, Zo, Ja, Jb, Jc, J3, Jd, Je, J4, J5, Jf, Jg, Jh, Ji, Jj, Jk, J6, Jl, Jm, wr, Jn, J7, J8, Jo, Jp, Jq, Jr, Js, Jt, Ju, Jv, Jw, Jx, Jy, Jz, J0, J1, J2, reduceCtorEq, J9, JA, JB, JC, JD, JE, JF, JG]) | ((with_reducible (first | apply Ok.br | apply Ok.gd | apply Ok.ld)) <;> (intro g; (try simp only [ZGS] at g); try (exfalso; omega)))))
            exact Turn.exit ⟨rfl, rfl, _, _, _, _, _, rfl, rfl, hp'.out, hM2⟩
          | true =>
            obtain ⟨h3, x', hput, hx', htab, hkc, hks⟩ := put_at hp.tab hya
            have hya3 : InAt h3 y := hya.keep hkc
            have hmay := rMayI_at hya3
            have hext3 : Ext h h3 := hp.ext.of_keeps hks fun j hj => by rw [List.mem_singleton.1 hj]; exact hp.new.2
            have hrow3 : InsAt h3 w M := hp.row.keep hkc
            have hLM : L.length = M.length := core_len hp.same
            cases hmb : mayB y with
            | false =>
              have hpe : putE L y = 1 := by unfold putE; rw [hmb]; rfl
              rw [hpe] at hput htab
              rw [if_neg (by decide)] at htab
              rw [hmb] at hmay
              have hp3 := Hid.mk (Played.mk hext3 htab hp.new hrow3 hp.same hp.may)
              simp only [inV] at hf hlight hput hmay
              clear hy hfull ho hp hya hb hya3 hext3 htab hrow3 hkc hks hx' hp' hpe
              (repeat' (first | (simp -implicitDefEqProofs (maxSteps := 1000000) (disch := first | assumption | omega | (simp only [ZDI]; omega)) only [*, lenV, G27, Za, Zb, Zc, Zd, Ze, Zf, Zg, Zh, Zi, Zj, Zk, Zl, Zm, Zn, Zo, Ja, Jb, Jc, J3, Jd, Je, J4, J5, Jf, Jg, Jh, Ji, Jj, Jk, J6, Jl, Jm, wr, Jn, J7, J8, Jo, Jp, Jq, Jr, Js, Jt, Ju, Jv, Jw, Jx, Jy, Jz, J0, J1, J2, reduceCtorEq, J9, JA, JB, JC, JD, JE, JF, JG]) | ((with_reducible (first | apply Ok.br | apply Ok.gd | apply Ok.ld)) <;> (intro g; (try simp only [ZGS] at g); try (exfalso; omega)))))
              exact Turn.next (l.length - (i + 1)) (by omega) ⟨rfl, i + 1, _, _, _, _, _, rfl, by omega, rfl, rfl, rfl, hp3.out, by omega, hM2⟩
            | true =>
              have hpe : putE L y = 0 := by unfold putE; rw [hmb, if_pos rfl, if_pos (.inr (by omega))]
              rw [hpe] at hput htab
              rw [if_pos rfl] at htab
              rw [hmb] at hmay
              obtain ⟨yy, hrp, w', l3, rfl, hrow4⟩ := rPut_at hrow3 (by omega) hya3
              have hp4 : Played h (h3 ++ l3) b N w' (putL L x') (putL M y) := by
                refine ⟨hext3.app l3, htab.keep (KeepC.app _ _) ?_, hp.new, hrow4, by rw [putL_core, putL_core, hp.same, hx'], fun x hx => ?_⟩
                · have : N < h3.length := by
                    obtain ⟨_, _, _, hmm, _⟩ := htab.map
                    exact (List.getElem?_eq_some_iff.1 hmm).1
                  rw [List.getElem?_append_left this]
                · rcases putL_mem hx with rfl | hx
                  · exact hmb
                  · exact hp.may x hx
              have hp5 := Hid.mk hp4
              have hlen := putL_len M y
              simp only [inV] at hf hlight hput hmay hrp
              clear hy hfull ho hp hya hb hya3 hext3 htab hrow3 hkc hks hx' hp' hpe hp4 hrow4
              (repeat' (first | (simp -implicitDefEqProofs (maxSteps := 1000000) (disch := first | assumption | omega | (simp only [ZDI]; omega)) only [*, lenV, G27, Za, Zb, Zc, Zd, Ze, Zf, Zg, Zh, Zi, Zj, Zk, Zl, Zm, Zn, Zo, Ja, Jb, Jc, J3, Jd, Je, J4, J5, Jf, Jg, Jh, Ji, Jj, Jk, J6, Jl, Jm, wr, Jn, J7, J8, Jo, Jp, Jq, Jr, Js, Jt, Ju, Jv, Jw, Jx, Jy, Jz, J0, J1, J2, reduceCtorEq, J9, JA, JB, JC, JD, JE, JF, JG]) | ((with_reducible (first | apply Ok.br | apply Ok.gd | apply Ok.ld)) <;> (intro g; (try simp only [ZGS] at g); try (exfalso; omega)))))
              exact Turn.next (l.length - (i + 1)) (by omega) ⟨rfl, i + 1, _, _, _, _, _, rfl, by omega, rfl, rfl, rfl, hp5.out, by omega, by omega⟩
    · have hlt' : ¬ (i : Int) < (l.length : Int) := by omega
      clear hp
      (repeat' (first | (simp -implicitDefEqProofs (maxSteps := 1000000) (disch := first | assumption | omega | (simp only [ZDI]; omega)) only [*, lenV, G27, Za, Zb, Zc, Zd, Ze, Zf, Zg, Zh, Zi, Zj, Zk, Zl, Zm, Zn, Zo, Ja, Jb, Jc, J3, Jd, Je, J4, J5, Jf, Jg, Jh, Ji, Jj, Jk, J6, Jl, Jm, wr, Jn, J7, J8, Jo, Jp, Jq, Jr, Js, Jt, Ju, Jv, Jw, Jx, Jy, Jz, J0, J1, J2, reduceCtorEq, J9, JA, JB, JC, JD, JE, JF, JG]) | ((with_reducible (first | apply Ok.br | apply Ok.gd | apply Ok.ld)) <;> (intro g; (try simp only [ZGS] at g); try (exfalso; omega)))))
      exact Turn.exit ⟨rfl, rfl, _, _, _, _, _, rfl, rfl, hp'.out, hM2⟩
  · intro y ⟨e', l', g⟩ hW ⟨hy, w1, q1, w, L, M, h6, k2, hp, hM2⟩
    dsimp only at hW h6 k2 hp
    subst l' hy
    rw [hW.spread]
    clear hW
    simp only [spread_t, spread_f, spread_n, Nat.zero_add, Nat.reduceAdd, h6]
    have hlen := len_at hp.tab
    rw [core_len hp.same] at hlen
    obtain ⟨a5, cap5, z5, rfl⟩ := hp.row.sl
    have hp' := Hid.mk hp
    clear hp
    (repeat' (first | (simp -implicitDefEqProofs (maxSteps := 1000000) (disch := first | assumption | omega | (simp only [ZDI]; omega)) only [*, lenV, eq_self, G27, Za, Zb, Zc, Zd, Ze, Zf, Zg, Zh, Zi, Zj, Zk, Zl, Zm, Zn, Zo, Ja, Jb, Jc, J3, Jd, Je, J4, J5, Jf, Jg, Jh, Ji, Jj, Jk, J6, Jl, Jm, wr, Jn, J7, J8, Jo, Jp, Jq, Jr, Js, Jt, Ju, Jv, Jw, Jx, Jy, Jz, J0, J1, J2, reduceCtorEq, J9, JA, JB, JC, JD, JE, JF, JG]) | ((with_reducible (first | apply Ok.br | apply Ok.gd | apply Ok.ld)) <;> (intro g; (try simp only [ZGS] at g); try (exfalso; omega)))))
    exact hQ'.out _ ⟨_, _, _, _, _, _, rfl, hp'.out, hM2⟩
end Go.Ev
set_option maxRecDepth 100000
namespace Go.Ev
open Go.Ev renaming exPure -> Ja, ofValue -> Jb, cellsV -> Jc, load -> Jd, store -> Je, binOp -> Jf, intOp -> Jg, rdV -> Jh, vsame -> Ji, vsames -> Jj, makeSliceV -> Jk, resV -> Jl, isCell -> Jm, nilCheckV -> Jn, allV -> Jo, builtinV -> Jp, lenV -> Jq, indexAddrV -> Jr, unOp -> Js, minmaxV -> Jt, minmax -> Ju, sliceV -> Jv, asInt -> Jw, appendV -> Jx, copyV -> Jy, clearV -> Jz, convV -> J0, sliceCells -> J1, shift -> J2
open Bool renaming true -> BT, false -> BF
open Nat renaming reduceEqDiff -> J3, reduceLT -> J4, reduceAdd -> J5, reduceBEq -> J6, reduceSub -> J7, reduceMul -> J8, reduceLeDiff -> JG
open Int renaming reduceLT -> J9, reduceLE -> JA, reduceAdd -> JB, reduceSub -> JC, reduceNeg -> JD, reduceToNat -> JE, reduceEq -> JF
open Go.Proofs
def mxS (lead : Int) (a : Int) (k : RP) : Int := if k.1 = lead then (if a < k.2 then k.2 else a) else a
def mxR (lead : Int) (ks : List RP) : Int := ks.foldl (mxS lead) 0
theorem mxS_fold (lead : Int) : ∀ (ks : List RP) (a : Int), (a <= ks.foldl (mxS lead) a) /\ (∀ k ∈ ks, k.1 = lead -> k.2 <= ks.foldl (mxS lead) a) /\ (ks.foldl (mxS lead) a = a \/ ∃ k ∈ ks, k.1 = lead /\ k.2 = ks.foldl (mxS lead) a)
  | [], a => ⟨Int.le_refl _, fun k hk => (nomatch hk), .inl rfl⟩
  | x :: ks, a => by
    obtain ⟨h1, h2, h3⟩ := mxS_fold lead ks (mxS lead a x)
    have hs : a <= mxS lead a x /\ (x.1 = lead -> x.2 <= mxS lead a x) /\ (mxS lead a x = a \/ (x.1 = lead /\ mxS lead a x = x.2)) := by
      unfold mxS
      by_cases he : x.1 = lead
      · rw [if_pos he]
        by_cases hl : a < x.2
        · rw [if_pos hl]; exact ⟨by omega, fun _ => Int.le_refl _, .inr ⟨he, rfl⟩⟩
        · rw [if_neg hl]; exact ⟨Int.le_refl _, fun _ => by omega, .inl rfl⟩
      · rw [if_neg he]; exact ⟨Int.le_refl _, fun h => absurd h he, .inl rfl⟩
    rw [List.foldl_cons]
    refine ⟨by omega, fun k hk hl => ?_, ?_⟩
    · rcases List.mem_cons.1 hk with rfl | hk
      · have := hs.2.1 hl; omega
      · exact h2 k hk hl
    · rcases h3 with h3 | ⟨k, hk, hl, he⟩
      · rw [h3]
        rcases hs.2.2 with h4 | ⟨h4, h5⟩
        · exact .inl h4
        · exact .inr ⟨x, by simp, h4, h5.symm⟩
      · exact .inr ⟨k, by simp [hk], hl, he⟩
theorem mxR_eq {lead : Int} {p q : List RP} (h : ∀ x, x ∈ p ↔ x ∈ q) : mxR lead p = mxR lead q := by
  obtain ⟨a1, a2, a3⟩ := mxS_fold lead p 0
  obtain ⟨b1, b2, b3⟩ := mxS_fold lead q 0
  unfold mxR
  have h1 : p.foldl (mxS lead) 0 <= q.foldl (mxS lead) 0 := by
    rcases a3 with e | ⟨k, hk, hl, e⟩
    · omega
    · have := b2 k ((h k).1 hk) hl; omega
  have h2 : q.foldl (mxS lead) 0 <= p.foldl (mxS lead) 0 := by
    rcases b3 with e | ⟨k, hk, hl, e⟩
    · omega
    · have := a2 k ((h k).2 hk) hl; omega
  omega
theorem mxR_le {lead : Int} {p : List RP} {B : Int} (h0 : 0 <= B) (h : ∀ k ∈ p, k.2 <= B) : 0 <= mxR lead p /\ mxR lead p <= B := by
  obtain ⟨a1, a2, a3⟩ := mxS_fold lead p 0
  unfold mxR
  refine ⟨a1, ?_⟩
  rcases a3 with e | ⟨k, hk, hl, e⟩
  · omega
  · have := h k hk; omega
theorem mxR_snoc {lead : Int} {l : List RP} {i : Nat} {x : RP} (hx : l[i]? = some x) : mxR lead (l.take (i + 1)) = mxS lead (mxR lead (l.take i)) x := by
  unfold mxR
  rw [List.take_add_one, hx, List.foldl_append]; rfl
set_option maxHeartbeats 4000000 in
theorem next_at {h : Heap} {b m : Nat} {L : List In} (ht : TabAt h b m L) (hl : L.length <= 5000) (hb : ∀ k ∈ L.map In.key, k.2 <= 1073741824) (lead : Int) :
    Ev.Ok (D X (.fn 22 []) [.ptr b 0 0, .int .i64 lead] h) fun y => ∃ l, y = (.int .i64 (mxR lead (L.map In.key) + 1), h ++ l) := by
  refine Ok.aim fun Q hQ => ?_
  obtain ⟨v, l, hrefs, hrow⟩ := refs_at ht hl
  have hmem : ∀ x, x ∈ addsR [] (L.map In.key) ↔ x ∈ L.map In.key := fun x => by rw [addsR_mem]; simp
  have hQ2 : Q (.int .i64 (mxR lead (addsR [] (L.map In.key)) + 1), h ++ l) := by
    rw [mxR_eq hmem]; exact hQ _ ⟨l, rfl⟩
  have hbb : ∀ k ∈ addsR [] (L.map In.key), k.2 <= 1073741824 := fun k hk => hb k ((hmem k).1 hk)
  clear hQ hb ht hl hmem
  generalize addsR [] (L.map In.key) = r at hrow hQ2 hbb
  have hQ' := Hid.mk hQ2
  clear hQ2
  obtain ⟨a, cap, z, rfl, h1, h1', h2⟩ := hrow
  generalize h ++ l = H at hrefs h2 hQ'
  have hb' : ∀ i, 0 <= mxR lead (r.take i) /\ mxR lead (r.take i) <= 1073741824 := fun i => mxR_le (by decide) fun k hk => hbb k (List.mem_of_mem_take hk)
  have hb2 := Hid.mk hb'
  clear hbb hb'
  (refine Ok.body body22 pin22 ?_; simp only [c22, Try.f22, Option.getD_some, nslot22, List.append_nil, List.map, List.replicate, List.length_cons, List.length_nil, Nat.reduceAdd, Nat.reduceSub, List.cons_append, List.nil_append])
  (repeat' (first | (simp -implicitDefEqProofs (maxSteps := 1000000) (disch := first | assumption | omega | (simp only [ZDI]; omega)) only [*, lenV, G22, Za, Zb, Zc, Zd, Ze, Zf, Zg, Zh, Zi, Zj, Zk, Zl, Zm, Zn, Zo, Ja, Jb, Jc, J3, Jd, Je, J4, J5, Jf, Jg, Jh, Ji, Jj, Jk, J6, Jl, Jm, wr, Jn, J7, J8, Jo, Jp, Jq, Jr, Js, Jt, Ju, Jv, Jw, Jx, Jy, Jz, J0, J1, J2, reduceCtorEq, J9, JA, JB, JC, JD, JE, JF, JG]) | ((with_reducible (first | apply Ok.br | apply Ok.gd | apply Ok.ld)) <;> (intro g; (try simp only [ZGS] at g); try (exfalso; omega)))))
  clear hrefs
  refine Ok.loop [BF, BF, BF, BF, BF, BT, BF, BT, BF, BF, BF, BT, BT, BT, BT, BT, BT, BT, BT, BT, BT, BT, BT, BT, BF, BF] (fun n s2 => ∃ (i w1 : Nat) (q1 : List V), n = r.length - i /\ i <= r.length /\ tv s2.e 11 = .v (.int .i64 i) /\ tv s2.e 5 = .v (.int .i64 (mxR lead (r.take i))) /\ s2.l = [(w1, q1)] /\ s2.h = H)
    (fun y s2 => y = .exit 0 /\ (∃ (w1 : Nat) (q1 : List V), s2.l = [(w1, q1)]) /\ s2.h = H /\ tv s2.e 5 = .v (.int .i64 (mxR lead r))) (r.length - 0) ⟨0, 0, [], rfl, Nat.zero_le _, rfl, rfl, rfl, rfl⟩ ?_ ?_
  · intro n ⟨e', l', H'⟩ hW ⟨i, w1, q1, hm, hi, h9, h5, k2, k3⟩
    dsimp only at hW h9 h5 k2 k3
    subst l' H'
    rw [hW.spread]
    simp only [spread_t, spread_f, spread_n, Nat.zero_add, Nat.reduceAdd, h9, h5]
    clear hW hQ'
    by_cases hlt : i < r.length
    · have hlt' : (i : Int) < (r.length : Int) := by omega
      have g1 : 0 <= (i : Int) /\ (i : Int) < (r.length : Int) := by omega
      rcases h2 with rfl | ⟨bb, q, o, rw, full, rfl, hbc, hfull, ho⟩
      · simp at hlt
      · obtain ⟨⟨y1, y2⟩, hy⟩ : ∃ y, r[i]? = some y := ⟨_, List.getElem?_eq_getElem hlt⟩
        have hf := hfull i _ hy
        dsimp only at hf
        have ho2 : o + i * 2 + 2 <= full.length := by omega
        have hs := Hid.mk (mxR_snoc (lead := lead) hy)
        clear hy hfull ho
        generalize mxR lead (r.take i) = n0 at hs ⊢
        cases hd1 : decide (y1 = lead) with
        | true =>
          have he := of_decide_eq_true hd1
          by_cases hl2 : n0 < y2
          · have hs2 : mxS lead n0 (y1, y2) = y2 := by unfold mxS; rw [if_pos he, if_pos hl2]
            have hs3 := Hid.mk (hs.out.trans hs2)
            clear hs2 hs he
            (repeat' (first | (simp -implicitDefEqProofs (maxSteps := 1000000) (disch := first | assumption | omega | (simp only [ZDI]; omega)) only [*, lenV, minmaxV, minmax, itT, if_true, G22, Za, Zb, Zc, Zd, Ze, Zf, Zg, Zh, Zi, Zj, Zk, Zl, Zm, Zn, Zo, Ja, Jb, Jc, J3, Jd, Je, J4, J5, Jf, Jg, Jh, Ji, Jj, Jk, J6, Jl, Jm, wr, Jn, J7, J8, Jo, Jp, Jq, Jr, Js, Jt, Ju, Jv, Jw, Jx, Jy, Jz, J0, J1, J2, reduceCtorEq, J9, JA, JB, JC, JD, JE, JF, JG]) | ((with_reducible (first | apply Ok.br | apply Ok.gd | apply Ok.ld)) <;> (intro g; (try simp only [ZGS] at g); try (exfalso; omega)))))
            exact Turn.next (r.length - (i + 1)) (by omega) ⟨rfl, i + 1, _, _, rfl, by omega, rfl, by rw [hs3.out]; rfl, rfl, rfl⟩
          · have hs2 : mxS lead n0 (y1, y2) = n0 := by unfold mxS; rw [if_pos he, if_neg hl2]
            have hs3 := Hid.mk (hs.out.trans hs2)
            clear hs2 hs he
            (repeat' (first | (simp -implicitDefEqProofs (maxSteps := 1000000) (disch := first | assumption | omega | (simp only [ZDI]; omega)) only [*, lenV, minmaxV, minmax, itF, if_false, G22, Za, Zb, Zc, Zd, Ze, Zf, Zg, Zh, Zi, Zj, Zk, Zl, Zm, Zn, Zo, Ja, Jb, Jc, J3, Jd, Je, J4, J5, Jf, Jg, Jh, Ji, Jj, Jk, J6, Jl, Jm, wr, Jn, J7, J8, Jo, Jp, Jq, Jr, Js, Jt, Ju, Jv, Jw, Jx, Jy, Jz, J0, J1, J2, reduceCtorEq, J9, JA, JB, JC, JD, JE, JF, JG]) | ((with_reducible (first | apply Ok.br | apply Ok.gd | apply Ok.ld)) <;> (intro g; (try simp only [ZGS] at g); try (exfalso; omega)))))
            exact Turn.next (r.length - (i + 1)) (by omega) ⟨rfl, i + 1, _, _, rfl, by omega, rfl, by rw [hs3.out]; rfl, rfl, rfl⟩
        | false =>
          have he := of_decide_eq_false hd1
          have hs2 : mxS lead n0 (y1, y2) = n0 := by unfold mxS; rw [if_neg he]
          have hs3 := Hid.mk (hs.out.trans hs2)
          clear hs2 hs he
          (repeat' (first | (simp -implicitDefEqProofs (maxSteps := 1000000) (disch := first | assumption | omega | (simp only [ZDI]; omega)) only [*, lenV, G22, Za, Zb, Zc, Zd, Ze, Zf, Zg, Zh, Zi, Zj, Zk, Zl, Zm, Zn, Zo, Ja, Jb, Jc, J3, Jd, Je, J4, J5, Jf, Jg, Jh, Ji, Jj, Jk, J6, Jl, Jm, wr, Jn, J7, J8, Jo, Jp, Jq, Jr, Js, Jt, Ju, Jv, Jw, Jx, Jy, Jz, J0, J1, J2, reduceCtorEq, J9, JA, JB, JC, JD, JE, JF, JG]) | ((with_reducible (first | apply Ok.br | apply Ok.gd | apply Ok.ld)) <;> (intro g; (try simp only [ZGS] at g); try (exfalso; omega)))))
          exact Turn.next (r.length - (i + 1)) (by omega) ⟨rfl, i + 1, _, _, rfl, by omega, rfl, by rw [hs3.out]; rfl, rfl, rfl⟩
    · have hlt' : ¬ (i : Int) < (r.length : Int) := by omega
      rw [List.take_of_length_le (by omega)]
      (repeat' (first | (simp -implicitDefEqProofs (maxSteps := 1000000) (disch := first | assumption | omega | (simp only [ZDI]; omega)) only [*, lenV, G22, Za, Zb, Zc, Zd, Ze, Zf, Zg, Zh, Zi, Zj, Zk, Zl, Zm, Zn, Zo, Ja, Jb, Jc, J3, Jd, Je, J4, J5, Jf, Jg, Jh, Ji, Jj, Jk, J6, Jl, Jm, wr, Jn, J7, J8, Jo, Jp, Jq, Jr, Js, Jt, Ju, Jv, Jw, Jx, Jy, Jz, J0, J1, J2, reduceCtorEq, J9, JA, JB, JC, JD, JE, JF, JG]) | ((with_reducible (first | apply Ok.br | apply Ok.gd | apply Ok.ld)) <;> (intro g; (try simp only [ZGS] at g); try (exfalso; omega)))))
      exact Turn.exit ⟨rfl, rfl, ⟨_, _, rfl⟩, rfl, rfl⟩
  · intro y ⟨e', l', H'⟩ hW ⟨hy, ⟨w1, q1, k2⟩, k3, h5⟩
    dsimp only at hW h5 k2 k3
    subst l' hy H'
    rw [hW.spread]
    clear hW
    simp only [spread_t, spread_f, spread_n, Nat.zero_add, Nat.reduceAdd, h5]
    have hbd := hb2.out r.length
    rw [List.take_of_length_le (Nat.le_refl _)] at hbd
    (repeat' (first | (simp -implicitDefEqProofs (maxSteps := 1000000) (disch := first | assumption | omega | (simp only [ZDI]; omega)) only [*, G22, Za, Zb, Zc, Zd, Ze, Zf, Zg, Zh, Zi, Zj, Zk, Zl, Zm, Zn, Zo, Ja, Jb, Jc, J3, Jd, Je, J4, J5, Jf, Jg, Jh, Ji, Jj, Jk, J6, Jl, Jm, wr, Jn, J7, J8, Jo, Jp, Jq, Jr, Js, Jt, Ju, Jv, Jw, Jx, Jy, Jz, J0, J1, J2, reduceCtorEq, J9, JA, JB, JC, JD, JE, JF, JG]) | ((with_reducible (first | apply Ok.br | apply Ok.gd | apply Ok.ld)) <;> (intro g; (try simp only [ZGS] at g); try (exfalso; omega)))))
    exact hQ'.out
set_option maxHeartbeats 4000000 in
theorem instsNext_at {h : Heap} {v : V} {l : List In} (hr : InsAt h v l) (lead : Int) : Ev.Ok (D X (.fn 6 []) [v, .int .i64 lead] h) fun r => r.1 = .bool true := by
  refine Ok.aim fun Q hQ => ?_
  have hQ' := Hid.mk hQ
  clear hQ
  have hlv := D_pin (X := X) (f := 13) (b := true) rfl
  obtain ⟨yy, hplay, b, m, w, g, L, M, rfl, hp, hM⟩ := play_at hr
  obtain ⟨a0, cap0, z0', e0⟩ := hr.sl
  subst e0
  clear hr
  have hkk := core_keys hp.same
  have hb : ∀ k ∈ L.map In.key, k.2 <= 1073741824 := by
    rw [hkk]
    intro k hk
    obtain ⟨x, hx, rfl⟩ := List.mem_map.1 hk
    have := hp.may x hx
    unfold mayB hdB at this
    simp only [Bool.and_eq_true, decide_eq_true_eq] at this
    exact this.1.1.1.1.1.2.2.2
  have hn := next_at hp.tab (by rw [core_len hp.same]; omega) hb lead
  rw [hkk] at hn hb
  obtain ⟨y2, hnext, l2, rfl⟩ := hn
  obtain ⟨a, cap, z, rfl, h1, hall, h2⟩ := hp.row
  clear hall hp hkk
  have hb2 : Hid (∀ i, 0 <= mxR lead ((M.map In.key).take i) /\ mxR lead ((M.map In.key).take i) <= 1073741824) := ⟨fun i => mxR_le (by decide) fun k hk => hb k (List.mem_of_mem_take hk)⟩
  clear hb
  (refine Ok.body body6 pin6 ?_; simp only [c6, Try.f6, Option.getD_some, nslot6, List.append_nil, List.map, List.replicate, List.length_cons, List.length_nil, Nat.reduceAdd, Nat.reduceSub, List.cons_append, List.nil_append])
  (repeat' (first | (simp -implicitDefEqProofs (maxSteps := 1000000) (disch := first | assumption | omega | (simp only [ZDI]; omega)) only [*, lenV, G6, Za, Zb, Zc, Zd, Ze, Zf, Zg, Zh, Zi, Zj, Zk, Zl, Zm, Zn, Zo, Ja, Jb, Jc, J3, Jd, Je, J4, J5, Jf, Jg, Jh, Ji, Jj, Jk, J6, Jl, Jm, wr, Jn, J7, J8, Jo, Jp, Jq, Jr, Js, Jt, Ju, Jv, Jw, Jx, Jy, Jz, J0, J1, J2, reduceCtorEq, J9, JA, JB, JC, JD, JE, JF, JG]) | ((with_reducible (first | apply Ok.br | apply Ok.gd | apply Ok.ld)) <;> (intro g; (try simp only [ZGS] at g); try (exfalso; omega)))))
  clear hplay
  refine Ok.loop [BF, BF, BF, BF, BF, BF, BF, BF, BT, BF, BT, BF, BF, BF, BF, BF, BF, BF, BF, BT, BT, BT, BT, BT, BT, BT, BT, BT, BT, BT, BT, BT, BT, BT, BF, BF, BF, BF, BF, BF, BF, BF, BF, BF, BF, BF] (fun n s2 => ∃ (i w1 : Nat) (q1 : List V), n = M.length - i /\ i <= M.length /\ tv s2.e 19 = .v (.int .i64 i) /\ tv s2.e 8 = .v (.int .i64 (mxR lead ((M.map In.key).take i))) /\ s2.l = [(w1, q1)] /\ s2.h = g)
    (fun y s2 => y = .exit 0 /\ (∃ (w1 : Nat) (q1 : List V), s2.l = [(w1, q1)]) /\ s2.h = g /\ tv s2.e 8 = .v (.int .i64 (mxR lead (M.map In.key)))) (M.length - 0) ⟨0, 0, [], rfl, Nat.zero_le _, rfl, rfl, rfl, rfl⟩ ?_ ?_
  · intro n ⟨e', l', H'⟩ hW ⟨i, w1, q1, hm, hi, h9, h5, k2, k3⟩
    dsimp only at hW h9 h5 k2 k3
    subst l' H'
    rw [hW.spread]
    simp only [spread_t, spread_f, spread_n, Nat.zero_add, Nat.reduceAdd, h9, h5]
    clear hW hQ' hnext
    by_cases hlt : i < M.length
    · have hlt' : (i : Int) < (M.length : Int) := by omega
      have g1 : 0 <= (i : Int) /\ (i : Int) < (M.length : Int) := by omega
      rcases h2 with rfl | ⟨bb, q, o, rw, full, rfl, hbc, hfull, ho⟩
      · simp at hlt
      · obtain ⟨y, hy⟩ : ∃ y, M[i]? = some y := ⟨_, List.getElem?_eq_getElem hlt⟩
        have hf := hfull i _ hy
        simp only [inV] at hf
        have ho2 : o + i * 16 + 16 <= full.length := by omega
        have hs := Hid.mk (mxR_snoc (lead := lead) (l := M.map In.key) (i := i) (x := y.key) (by rw [List.getElem?_map, hy]; rfl))
        clear hy hfull ho
        generalize mxR lead ((M.map In.key).take i) = n0 at hs ⊢
        cases hd1 : decide (y.l = lead) with
        | true =>
          have he := of_decide_eq_true hd1
          by_cases hl2 : n0 < y.i
          · have hs2 : mxS lead n0 y.key = y.i := by unfold mxS; rw [if_pos (show y.key.1 = lead from he), if_pos (show n0 < y.key.2 from hl2)]; rfl
            have hs3 := Hid.mk (hs.out.trans hs2)
            clear hs2 hs he
            (repeat' (first | (simp -implicitDefEqProofs (maxSteps := 1000000) (disch := first | assumption | omega | (simp only [ZDI]; omega)) only [*, lenV, minmaxV, minmax, itT, if_true, G6, Za, Zb, Zc, Zd, Ze, Zf, Zg, Zh, Zi, Zj, Zk, Zl, Zm, Zn, Zo, Ja, Jb, Jc, J3, Jd, Je, J4, J5, Jf, Jg, Jh, Ji, Jj, Jk, J6, Jl, Jm, wr, Jn, J7, J8, Jo, Jp, Jq, Jr, Js, Jt, Ju, Jv, Jw, Jx, Jy, Jz, J0, J1, J2, reduceCtorEq, J9, JA, JB, JC, JD, JE, JF, JG]) | ((with_reducible (first | apply Ok.br | apply Ok.gd | apply Ok.ld)) <;> (intro g; (try simp only [ZGS] at g); try (exfalso; omega)))))
            exact Turn.next (M.length - (i + 1)) (by omega) ⟨rfl, i + 1, _, _, rfl, by omega, rfl, by rw [hs3.out]; rfl, rfl, rfl⟩
          · have hs2 : mxS lead n0 y.key = n0 := by unfold mxS; rw [if_pos (show y.key.1 = lead from he), if_neg (show ¬ n0 < y.key.2 from hl2)]
            have hs3 := Hid.mk (hs.out.trans hs2)
            clear hs2 hs he
            (repeat' (first | (simp -implicitDefEqProofs (maxSteps := 1000000) (disch := first | assumption | omega | (simp only [ZDI]; omega)) only [*, lenV, minmaxV, minmax, itF, if_false, G6, Za, Zb, Zc, Zd, Ze, Zf, Zg, Zh, Zi, Zj, Zk, Zl, Zm, Zn, Zo, Ja, Jb, Jc, J3, Jd, Je, J4, J5, Jf, Jg, Jh, Ji, Jj, Jk, J6, Jl, Jm, wr, Jn, J7, J8, Jo, Jp, Jq, Jr, Js, Jt, Ju, Jv, Jw, Jx, Jy, Jz, J0, J1, J2, reduceCtorEq, J9, JA, JB, JC, JD, JE, JF, JG]) | ((with_reducible (first | apply Ok.br | apply Ok.gd | apply Ok.ld)) <;> (intro g; (try simp only [ZGS] at g); try (exfalso; omega)))))
            exact Turn.next (M.length - (i + 1)) (by omega) ⟨rfl, i + 1, _, _, rfl, by omega, rfl, by rw [hs3.out]; rfl, rfl, rfl⟩
        | false =>
          have he := of_decide_eq_false hd1
          have hs2 : mxS lead n0 y.key = n0 := by unfold mxS; rw [if_neg (show ¬ y.key.1 = lead from he)]
          have hs3 := Hid.mk (hs.out.trans hs2)
          clear hs2 hs he
          (repeat' (first | (simp -implicitDefEqProofs (maxSteps := 1000000) (disch := first | assumption | omega | (simp only [ZDI]; omega)) only [*, lenV, G6, Za, Zb, Zc, Zd, Ze, Zf, Zg, Zh, Zi, Zj, Zk, Zl, Zm, Zn, Zo, Ja, Jb, Jc, J3, Jd, Je, J4, J5, Jf, Jg, Jh, Ji, Jj, Jk, J6, Jl, Jm, wr, Jn, J7, J8, Jo, Jp, Jq, Jr, Js, Jt, Ju, Jv, Jw, Jx, Jy, Jz, J0, J1, J2, reduceCtorEq, J9, JA, JB, JC, JD, JE, JF, JG]) | ((with_reducible (first | apply Ok.br | apply Ok.gd | apply Ok.ld)) <;> (intro g; (try simp only [ZGS] at g); try (exfalso; omega)))))
          exact Turn.next (M.length - (i + 1)) (by omega) ⟨rfl, i + 1, _, _, rfl, by omega, rfl, by rw [hs3.out]; rfl, rfl, rfl⟩
    · have hlt' : ¬ (i : Int) < (M.length : Int) := by omega
      rw [List.take_of_length_le (by simp; omega)]
      (repeat' (first | (simp -implicitDefEqProofs (maxSteps := 1000000) (disch := first | assumption | omega | (simp only [ZDI]; omega)) only [*, lenV, G6, Za, Zb, Zc, Zd, Ze, Zf, Zg, Zh, Zi, Zj, Zk, Zl, Zm, Zn, Zo, Ja, Jb, Jc, J3, Jd, Je, J4, J5, Jf, Jg, Jh, Ji, Jj, Jk, J6, Jl, Jm, wr, Jn, J7, J8, Jo, Jp, Jq, Jr, Js, Jt, Ju, Jv, Jw, Jx, Jy, Jz, J0, J1, J2, reduceCtorEq, J9, JA, JB, JC, JD, JE, JF, JG]) | ((with_reducible (first | apply Ok.br | apply Ok.gd | apply Ok.ld)) <;> (intro g; (try simp only [ZGS] at g); try (exfalso; omega)))))
      exact Turn.exit ⟨rfl, rfl, ⟨_, _, rfl⟩, rfl, rfl⟩
  · intro y ⟨e', l', H'⟩ hW ⟨hy, ⟨w1, q1, k2⟩, k3, h5⟩
    dsimp only at hW h5 k2 k3
    subst l' hy H'
    rw [hW.spread]
    clear hW
    simp only [spread_t, spread_f, spread_n, Nat.zero_add, Nat.reduceAdd, h5]
    have hbd := hb2.out (M.map In.key).length
    rw [List.take_of_length_le (Nat.le_refl _)] at hbd
    (repeat' (first | (simp -implicitDefEqProofs (maxSteps := 1000000) (disch := first | assumption | omega | (simp only [ZDI]; omega)) only [*, eq_self, G6, Za, Zb, Zc, Zd, Ze, Zf, Zg, Zh, Zi, Zj, Zk, Zl, Zm, Zn, Zo, Ja, Jb, Jc, J3, Jd, Je, J4, J5, Jf, Jg, Jh, Ji, Jj, Jk, J6, Jl, Jm, wr, Jn, J7, J8, Jo, Jp, Jq, Jr, Js, Jt, Ju, Jv, Jw, Jx, Jy, Jz, J0, J1, J2, reduceCtorEq, J9, JA, JB, JC, JD, JE, JF, JG]) | ((with_reducible (first | apply Ok.br | apply Ok.gd | apply Ok.ld)) <;> (intro g; (try simp only [ZGS] at g); try (exfalso; omega)))))
    exact hQ'.out _ rfl
end Go.Ev
set_option maxRecDepth 100000
namespace Go.Ev
open Go.Ev renaming exPure -> Ja, ofValue -> Jb, cellsV -> Jc, load -> Jd, store -> Je, binOp -> Jf, intOp -> Jg, rdV -> Jh, vsame -> Ji, vsames -> Jj, makeSliceV -> Jk, resV -> Jl, isCell -> Jm, nilCheckV -> Jn, allV -> Jo, builtinV -> Jp, lenV -> Jq, indexAddrV -> Jr, unOp -> Js, minmaxV -> Jt, minmax -> Ju, sliceV -> Jv, asInt -> Jw, appendV -> Jx, copyV -> Jy, clearV -> Jz, convV -> J0, sliceCells -> J1, shift -> J2
open Bool renaming true -> BT, false -> BF
open Nat renaming reduceEqDiff -> J3, reduceLT -> J4, reduceAdd -> J5, reduceBEq -> J6, reduceSub -> J7, reduceMul -> J8, reduceLeDiff -> JG
open Int renaming reduceLT -> J9, reduceLE -> JA, reduceAdd -> JB, reduceSub -> JC, reduceNeg -> JD, reduceToNat -> JE, reduceEq -> JF
open Go.Proofs
def mtB (o c f t : Int) (self : RP) (x : In) : Bool := decide (1 <= x.st) && !(decide (x.l = self.1) && decide (x.i = self.2)) && decide (meddleP o c f t x.o x.c x.f x.t)
theorem mtB_core (o c f t : Int) (self : RP) (x : In) : mtB o c f t self x.core = mtB o c f t self x := rfl
structure OrdRec (r : LoopR) : Prop where
  state : r.state = 0
  pending : r.pending = none
  fn : r.fn = 23
  params : r.params = [13]
  code : (rangesOf c23)[0]? = some (r.assign, r.body)
  lent : r.lent = false
  len : r.e.length = 41
  t4 : tv r.e 4 = .lp 0 1 0
  t5 : tv r.e 5 = .lp 1 1 0
  t8 : tv r.e 8 = .lp 2 1 0
  t9 : tv r.e 9 = .lp 3 1 0
theorem GroR.keeps {h g g' : Heap} {w : V} {l : List RP} {F : List Nat} (hG : Gro h g w l) (k : Keeps F g g') (hF : ∀ i ∈ F, i < h.length) : Gro h g' w l := by
  rcases hG with ⟨h1, h2⟩ | ⟨b, q, h1, h2, h3⟩
  · exact .inl ⟨h1, h2⟩
  · exact .inr ⟨b, q, h1, h2, k.cells h3 fun hm => by have := hF b hm; omega⟩
set_option maxHeartbeats 8000000 in
theorem ord_round {H H1 : Heap} {lp : Nat} {r : LoopR} (hL : loopAt H lp = some r) (hr : OrdRec r) {o c q f t : Int} {v dv : V} {self : RP} {sq : Int} {x4 x5 : Nat × List V} {dl : List RP}
    (hl : r.l = [(1, [.int .i64 o, .int .i64 c, .int .i64 q, .int .i64 f, .int .i64 t, v]), (1, [.int .i64 self.1, .int .i64 self.2]), (1, [.int .i64 sq]), (1, [dv]), x4, x5]) (hlp : lp < H1.length) (hH : H1.length <= H.length)
    (hG : Gro H1 H dv dl) (hdl : dl.length <= 10000) (x : In) :
    Ev.Ok (D X (.yld lp) [.agg (inV x)] H) fun y => ∃ H' dv' x4' x5', y = (.bool true, H') /\
      loopAt H' lp = some { r with l := [(1, [.int .i64 o, .int .i64 c, .int .i64 q, .int .i64 f, .int .i64 t, v]), (1, [.int .i64 self.1, .int .i64 self.2]), (1, [.int .i64 (if mtB o c f t self x then (if sq < x.sq then x.sq else sq) else sq)]), (1, [dv']), x4', x5'] } /\
      Gro H1 H' dv' (if mtB o c f t self x then dl ++ [x.key] else dl) /\ H.length <= H'.length /\ ∀ i, i < H1.length -> i ≠ lp -> H'[i]? = H[i]? := by
  refine Ok.aim fun Q hQ => ?_
  have hmd := fun H => meddle_at o c q f t x.o x.c x.q x.f x.t v x.dv H
  have hLl := loopAt_lt hL
  obtain ⟨st, pe, fn, e, l, ps, asg, bd, le⟩ := r
  obtain ⟨k1, k2, k3, k4, k5, k6, k7, k8, k9, k10, k11⟩ := hr
  dsimp only at k1 k2 k3 k4 k5 k6 k7 k8 k9 k10 k11 hl
  subst k1 k2 k3 k4 k6 hl
  have hfin : ∀ (b : Bool) H' dv' x4' x5' sq', mtB o c f t self x = b -> (if b then (if sq < x.sq then x.sq else sq) else sq) = sq' ->
      loopAt H' lp = some ⟨0, none, 23, e, [(1, [.int .i64 o, .int .i64 c, .int .i64 q, .int .i64 f, .int .i64 t, v]), (1, [.int .i64 self.1, .int .i64 self.2]), (1, [.int .i64 sq']), (1, [dv']), x4', x5'], [13], asg, bd, false⟩ ->
      Gro H1 H' dv' (if b then dl ++ [x.key] else dl) -> H.length <= H'.length -> (∀ i, i < H1.length -> i ≠ lp -> H'[i]? = H[i]?) -> Q (.bool true, H') := by
    intro b H' dv' x4' x5' sq' e1 e2 e3 e4 e5 e6
    subst e1
    subst e2
    exact hQ _ ⟨H', dv', x4', x5', rfl, e3, e4, e5, e6⟩
  have hfin' := Hid.mk hfin
  clear hQ hfin
  simp only [c23, Try.f23, Option.getD_some, rangesOf, List.nil_append, List.append_nil, List.cons_append, List.getElem?_cons_zero, List.getElem?_cons_succ, Option.some.injEq, Prod.mk.injEq] at k5
  obtain ⟨rfl, rfl⟩ := k5
  have he := congrArg (fun e => setArgs e [13] [.agg (inV x)]) (expand' k7)
  simp only [List.replicate, spread_t, spread_f, spread_n, Nat.zero_add, Nat.reduceAdd, setArgs, List.set_cons_zero, List.set_cons_succ, k8, k9, k10, k11] at he
  refine Ok.round hL rfl rfl ?_
  simp only [setArgs]
  rw [he]
  clear he
  have hmt : mtB o c f t self x = (decide (1 <= x.st) && !(decide (x.l = self.1) && decide (x.i = self.2)) && decide (meddleP o c f t x.o x.c x.f x.t)) := rfl
  generalize decide (meddleP o c f t x.o x.c x.f x.t) = mb at hmd hmt
  simp only [inV]
  obtain ⟨s1, s2⟩ := self
  dsimp only at *
  have hmt' := Hid.mk hmt
  clear hmt
  have hG' := Hid.mk hG
  have hsame : Hid (∀ (y : Blk) i, i < H1.length -> i ≠ lp -> (H.set lp y)[i]? = H[i]?) := ⟨fun y i _ hi => by rw [List.getElem?_set_ne (Ne.symm hi)]⟩
  have hGs : Hid (∀ y, Gro H1 (H.set lp y) dv dl) := ⟨fun y => GroR.keeps hG'.out (Keeps.set (F := [lp]) (.refl _ _) (.inl (by simp)) y) (by simpa using hlp)⟩
  clear hG
  cases d0 : decide (1 <= x.st) with
  | false =>
    (repeat' (first | (simp -implicitDefEqProofs (maxSteps := 1000000) (disch := first | assumption | omega | (simp only [ZDI]; omega)) only [*, G23, Za, Zb, Zc, Zd, Ze, Zf, Zg, Zh, Zi, Zj, Zk, Zl, Zm, Zn, Zo, Ja, Jb, Jc, J3, Jd, Je, J4, J5, Jf, Jg, Jh, Ji, Jj, Jk, J6, Jl, Jm, wr, Jn, J7, J8, Jo, Jp, Jq, Jr, Js, Jt, Ju, Jv, Jw, Jx, Jy, Jz, J0, J1, J2, reduceCtorEq, J9, JA, JB, JC, JD, JE, JF, JG]) | ((with_reducible (first | apply Ok.br | apply Ok.gd | apply Ok.ld)) <;> (intro g; (try simp only [ZGS] at g); try (exfalso; omega)))))
    exact hfin'.out false _ dv _ _ _ (by rw [hmt'.out, d0]; rfl) rfl (loopAt_set_eq hLl) (hGs.out _) (by simp) (hsame.out _)
  | true =>
    have key : ∀ P : Prop, (decide (x.l = s1) = true -> decide (x.i = s2) = true -> P) -> ((decide (x.l = s1) && decide (x.i = s2)) = false -> decide (x.l = s1) = false -> P) -> ((decide (x.l = s1) && decide (x.i = s2)) = false -> decide (x.l = s1) = true -> decide (x.i = s2) = false -> P) -> P := by
      intro P p1 p2 p3
      cases h1 : decide (x.l = s1) with
      | false => exact p2 (by rw [h1]; rfl) h1
      | true => cases h2 : decide (x.i = s2) with
        | false => exact p3 (by rw [h1, h2]; rfl) h1 h2
        | true => exact p1 h1 h2
    apply key <;> clear key
    · intro d1 d2
      (repeat' (first | (simp -implicitDefEqProofs (maxSteps := 1000000) (disch := first | assumption | omega | (simp only [ZDI]; omega)) only [*, G23, Za, Zb, Zc, Zd, Ze, Zf, Zg, Zh, Zi, Zj, Zk, Zl, Zm, Zn, Zo, Ja, Jb, Jc, J3, Jd, Je, J4, J5, Jf, Jg, Jh, Ji, Jj, Jk, J6, Jl, Jm, wr, Jn, J7, J8, Jo, Jp, Jq, Jr, Js, Jt, Ju, Jv, Jw, Jx, Jy, Jz, J0, J1, J2, reduceCtorEq, J9, JA, JB, JC, JD, JE, JF, JG]) | ((with_reducible (first | apply Ok.br | apply Ok.gd | apply Ok.ld)) <;> (intro g; (try simp only [ZGS] at g); try (exfalso; omega)))))
      exact hfin'.out false _ dv _ _ _ (by rw [hmt'.out, d0, d1, d2]; rfl) rfl (loopAt_set_eq hLl) (hGs.out _) (by simp) (hsame.out _)
    all_goals
      intro hd
      have hd' := Hid.mk hd
      clear hd
      intros
      cases mb with
      | false =>
        (repeat' (first | (simp -implicitDefEqProofs (maxSteps := 1000000) (disch := first | assumption | omega | (simp only [ZDI]; omega)) only [*, G23, Za, Zb, Zc, Zd, Ze, Zf, Zg, Zh, Zi, Zj, Zk, Zl, Zm, Zn, Zo, Ja, Jb, Jc, J3, Jd, Je, J4, J5, Jf, Jg, Jh, Ji, Jj, Jk, J6, Jl, Jm, wr, Jn, J7, J8, Jo, Jp, Jq, Jr, Js, Jt, Ju, Jv, Jw, Jx, Jy, Jz, J0, J1, J2, reduceCtorEq, J9, JA, JB, JC, JD, JE, JF, JG]) | ((with_reducible (first | apply Ok.br | apply Ok.gd | apply Ok.ld)) <;> (intro g; (try simp only [ZGS] at g); try (exfalso; omega)))))
        exact hfin'.out false _ dv _ _ _ (by rw [hmt'.out, d0, hd'.out]; rfl) rfl (loopAt_set_eq hLl) (hGs.out _) (by simp) (hsame.out _)
      | true =>
        have htt' : Hid (mtB o c f t (s1, s2) x = true) := ⟨by rw [hmt'.out, d0, hd'.out]; rfl⟩
        have hL : (dl.length + 2) * 16 <= 35184372088832 /\ dl.length + 2 <= 35184372088832 := by omega
        have hn1 : ¬ (dl.length + 1 <= dl.length) := by omega
        have hlp' := Hid.mk hlp
        have hH' := Hid.mk hH
        clear hsame hGs hd' hmt' hlp hH hdl
        rcases hG'.out with ⟨rfl, rfl⟩ | ⟨b3, q3, rfl, hbl, hcl⟩
        · clear hG'
          by_cases hs : sq < x.sq
          · (repeat' (first | (simp -implicitDefEqProofs (maxSteps := 1000000) (disch := first | assumption | omega | (simp only [ZDI]; omega)) only [*, minmaxV, minmax, itT, if_true, flL_len, fl_snoc, fl_snoc2, List.drop_zero, Nat.zero_add, List.length_append, List.length_cons, List.length_nil, G23, Za, Zb, Zc, Zd, Ze, Zf, Zg, Zh, Zi, Zj, Zk, Zl, Zm, Zn, Zo, Ja, Jb, Jc, J3, Jd, Je, J4, J5, Jf, Jg, Jh, Ji, Jj, Jk, J6, Jl, Jm, wr, Jn, J7, J8, Jo, Jp, Jq, Jr, Js, Jt, Ju, Jv, Jw, Jx, Jy, Jz, J0, J1, J2, reduceCtorEq, J9, JA, JB, JC, JD, JE, JF, JG]) | ((with_reducible (first | apply Ok.br | apply Ok.gd | apply Ok.ld)) <;> (intro g; (try simp only [ZGS] at g); try (exfalso; omega)))))
            exact hfin'.out true _ _ _ _ x.sq htt'.out (by rw [if_pos rfl, if_pos hs]) (by rw [loopAt_app (by simpa using hLl)]; exact loopAt_set_eq hLl) (.inr ⟨H.length, _, rfl, hH'.out, by rw [hcells_at (by simp)]; exact grd_t rfl _⟩) (by simp) fun i h1 h2 => by rw [List.getElem?_append_left (by simp; have := hH'.out; omega), List.getElem?_set_ne (Ne.symm h2)]
          · (repeat' (first | (simp -implicitDefEqProofs (maxSteps := 1000000) (disch := first | assumption | omega | (simp only [ZDI]; omega)) only [*, minmaxV, minmax, itF, if_false, flL_len, fl_snoc, fl_snoc2, List.drop_zero, Nat.zero_add, List.length_append, List.length_cons, List.length_nil, G23, Za, Zb, Zc, Zd, Ze, Zf, Zg, Zh, Zi, Zj, Zk, Zl, Zm, Zn, Zo, Ja, Jb, Jc, J3, Jd, Je, J4, J5, Jf, Jg, Jh, Ji, Jj, Jk, J6, Jl, Jm, wr, Jn, J7, J8, Jo, Jp, Jq, Jr, Js, Jt, Ju, Jv, Jw, Jx, Jy, Jz, J0, J1, J2, reduceCtorEq, J9, JA, JB, JC, JD, JE, JF, JG]) | ((with_reducible (first | apply Ok.br | apply Ok.gd | apply Ok.ld)) <;> (intro g; (try simp only [ZGS] at g); try (exfalso; omega)))))
            exact hfin'.out true _ _ _ _ sq htt'.out (by rw [if_pos rfl, if_neg hs]) (by rw [loopAt_app (by simpa using hLl)]; exact loopAt_set_eq hLl) (.inr ⟨H.length, _, rfl, hH'.out, by rw [hcells_at (by simp)]; exact grd_t rfl _⟩) (by simp) fun i h1 h2 => by rw [List.getElem?_append_left (by simp; have := hH'.out; omega), List.getElem?_set_ne (Ne.symm h2)]
        · clear hG'
          have hcl2 := hcells_lt hcl
          have hne : b3 ≠ lp := by have := hlp'.out; omega
          have hbl' := Hid.mk hbl
          clear hbl
          by_cases hs : sq < x.sq
          · (repeat' (first | (simp -implicitDefEqProofs (maxSteps := 1000000) (disch := first | assumption | omega | (simp only [ZDI]; omega)) only [*, minmaxV, minmax, itT, if_true, flL_len, fl_snoc, fl_snoc2, List.drop_zero, Nat.zero_add, List.length_append, List.length_cons, List.length_nil, G23, Za, Zb, Zc, Zd, Ze, Zf, Zg, Zh, Zi, Zj, Zk, Zl, Zm, Zn, Zo, Ja, Jb, Jc, J3, Jd, Je, J4, J5, Jf, Jg, Jh, Ji, Jj, Jk, J6, Jl, Jm, wr, Jn, J7, J8, Jo, Jp, Jq, Jr, Js, Jt, Ju, Jv, Jw, Jx, Jy, Jz, J0, J1, J2, reduceCtorEq, J9, JA, JB, JC, JD, JE, JF, JG]) | ((with_reducible (first | apply Ok.br | apply Ok.gd | apply Ok.ld)) <;> (intro g; (try simp only [ZGS] at g); try (exfalso; omega)))))
            exact hfin'.out true _ (.sl (.at b3 (q3 + 1) 0) (dl.length + 1) (dl.length + 1) 2) _ _ x.sq htt'.out (by rw [if_pos rfl, if_pos hs]) (loopAt_set_eq (by simpa using hLl)) (.inr ⟨b3, q3 + 1, by simp [In.key], hbl'.out, by rw [hcells_set_ne hne]; exact hcells_set_eq (by simpa using hcl2)⟩) (by simp) fun i h1 h2 => by rw [List.getElem?_set_ne (Ne.symm h2), List.getElem?_set_ne (by have := hbl'.out; omega), List.getElem?_set_ne (Ne.symm h2)]
          · (repeat' (first | (simp -implicitDefEqProofs (maxSteps := 1000000) (disch := first | assumption | omega | (simp only [ZDI]; omega)) only [*, minmaxV, minmax, itF, if_false, flL_len, fl_snoc, fl_snoc2, List.drop_zero, Nat.zero_add, List.length_append, List.length_cons, List.length_nil, G23, Za, Zb, Zc, Zd, Ze, Zf, Zg, Zh, Zi, Zj, Zk, Zl, Zm, Zn, Zo, Ja, Jb, Jc, J3, Jd, Je, J4, J5, Jf, Jg, Jh, Ji, Jj, Jk, J6, Jl, Jm, wr, Jn, J7, J8, Jo, Jp, Jq, Jr, Js, Jt, Ju, Jv, Jw, Jx, Jy, Jz, J0, J1, J2, reduceCtorEq, J9, JA, JB, JC, JD, JE, JF, JG]) | ((with_reducible (first | apply Ok.br | apply Ok.gd | apply Ok.ld)) <;> (intro g; (try simp only [ZGS] at g); try (exfalso; omega)))))
            exact hfin'.out true _ (.sl (.at b3 (q3 + 1) 0) (dl.length + 1) (dl.length + 1) 2) _ _ sq htt'.out (by rw [if_pos rfl, if_neg hs]) (loopAt_set_eq (by simpa using hLl)) (.inr ⟨b3, q3 + 1, by simp [In.key], hbl'.out, by rw [hcells_set_ne hne]; exact hcells_set_eq (by simpa using hcl2)⟩) (by simp) fun i h1 h2 => by rw [List.getElem?_set_ne (Ne.symm h2), List.getElem?_set_ne (by have := hbl'.out; omega), List.getElem?_set_ne (Ne.symm h2)]
end Go.Ev
set_option maxRecDepth 100000
namespace Go.Ev
open Go.Ev renaming exPure -> Ja, ofValue -> Jb, cellsV -> Jc, load -> Jd, store -> Je, binOp -> Jf, intOp -> Jg, rdV -> Jh, vsame -> Ji, vsames -> Jj, makeSliceV -> Jk, resV -> Jl, isCell -> Jm, nilCheckV -> Jn, allV -> Jo, builtinV -> Jp, lenV -> Jq, indexAddrV -> Jr, unOp -> Js, minmaxV -> Jt, minmax -> Ju, sliceV -> Jv, asInt -> Jw, appendV -> Jx, copyV -> Jy, clearV -> Jz, convV -> J0, sliceCells -> J1, shift -> J2
open Bool renaming true -> BT, false -> BF
open Nat renaming reduceEqDiff -> J3, reduceLT -> J4, reduceAdd -> J5, reduceBEq -> J6, reduceSub -> J7, reduceMul -> J8, reduceLeDiff -> JG
open Int renaming reduceLT -> J9, reduceLE -> JA, reduceAdd -> JB, reduceSub -> JC, reduceNeg -> JD, reduceToNat -> JE, reduceEq -> JF
open Go.Proofs
def ordS (o c f t : Int) (self : RP) (S : List In) : List In := S.filter (mtB o c f t self)
def ordQ (o c f t : Int) (self : RP) (S : List In) : Int := mxR 1 ((ordS o c f t self S).map fun x => ((1 : Int), x.sq))
def ordK (o c f t : Int) (self : RP) (S : List In) : List RP := (ordS o c f t self S).map In.key
theorem ordS_snoc {o c f t : Int} {self : RP} {S : List In} {k : Nat} {x : In} (hx : S[k]? = some x) : ordS o c f t self (S.take (k + 1)) = ordS o c f t self (S.take k) ++ (if mtB o c f t self x then [x] else []) := by
  unfold ordS
  rw [List.take_add_one, hx, List.filter_append]
  congr 1
  cases h : mtB o c f t self x <;> simp [h]
theorem ordQ_snoc {o c f t : Int} {self : RP} {S : List In} {k : Nat} {x : In} (hx : S[k]? = some x) : ordQ o c f t self (S.take (k + 1)) = if mtB o c f t self x then (if ordQ o c f t self (S.take k) < x.sq then x.sq else ordQ o c f t self (S.take k)) else ordQ o c f t self (S.take k) := by
  unfold ordQ
  rw [ordS_snoc hx]
  cases h : mtB o c f t self x with
  | false => simp
  | true =>
    rw [if_pos rfl, if_pos rfl, List.map_append]
    unfold mxR
    rw [List.foldl_append]
    show mxS 1 _ (1, x.sq) = _
    unfold mxS
    rw [if_pos rfl]
theorem ordK_snoc {o c f t : Int} {self : RP} {S : List In} {k : Nat} {x : In} (hx : S[k]? = some x) : ordK o c f t self (S.take (k + 1)) = if mtB o c f t self x then ordK o c f t self (S.take k) ++ [x.key] else ordK o c f t self (S.take k) := by
  unfold ordK
  rw [ordS_snoc hx]
  cases h : mtB o c f t self x <;> simp
theorem ordK_len (o c f t : Int) (self : RP) (S : List In) : (ordK o c f t self S).length <= S.length := by
  unfold ordK ordS
  rw [List.length_map]
  exact List.length_filter_le _ _
structure OrdI (o c q f t : Int) (v : V) (sf : RP) (lp : Nat) (r : LoopR) (H1 : Heap) (S : List In) (k : Nat) (H : Heap) : Prop where
  len : H1.length <= H.length
  old : ∀ i, i < H1.length -> i ≠ lp -> H[i]? = H1[i]?
  lp1 : loopAt H1 lp = some r
  all : ∃ dv x4 x5, loopAt H lp = some { r with l := [(1, [.int .i64 o, .int .i64 c, .int .i64 q, .int .i64 f, .int .i64 t, v]), (1, [.int .i64 sf.1, .int .i64 sf.2]), (1, [.int .i64 (ordQ o c f t sf (S.take k))]), (1, [dv]), x4, x5] } /\ Gro H1 H dv (ordK o c f t sf (S.take k))
theorem OrdI.keep {o c q f t : Int} {v : V} {self : RP} {lp : Nat} {r : LoopR} {H1 H : Heap} {S : List In} {k : Nat} (h : OrdI o c q f t v self lp r H1 S k H) : KeepC H1 H := by
  refine ⟨h.len, fun i g p hc => ?_⟩
  have hi := hcells_lt hc
  have hne : i ≠ lp := by
    rintro rfl
    have := loopAt_get h.lp1
    unfold hcells at hc
    rw [this] at hc; cases hc
  unfold hcells at hc ⊢
  rw [h.old i hi hne]; exact hc
theorem order_loop {pb b m lp : Nat} {H0 : Heap} {L : List In} {r : LoopR} (hpb : hcells H0 pb 0 = some (true, [.ptr b 0 0])) (ht : TabAt H0 b m L) (hl : L.length <= 5000) (hL : loopAt H0 lp = some r) (hr : OrdRec r)
    {o c q f t : Int} {v : V} {self : RP} {x4 x5 : Nat × List V} (hrl : r.l = [(1, [.int .i64 o, .int .i64 c, .int .i64 q, .int .i64 f, .int .i64 t, v]), (1, [.int .i64 self.1, .int .i64 self.2]), (1, [.int .i64 0]), (1, [.sl .nil 0 0 0]), x4, x5]) :
    Ev.Ok (D X (.fn 59 [.ptr pb 0 0]) [.yld lp] H0) fun y => ∃ H' S dv x4' x5' H1, y = (.tup [], H') /\ SeqOf H1 L S /\ KeepC H0 H' /\ lp < H1.length /\
      loopAt H' lp = some { r with l := [(1, [.int .i64 o, .int .i64 c, .int .i64 q, .int .i64 f, .int .i64 t, v]), (1, [.int .i64 self.1, .int .i64 self.2]), (1, [.int .i64 (ordQ o c f t self S)]), (1, [dv]), x4', x5'] } /\ Gro H1 H' dv (ordK o c f t self S) := by
  have hlp := loopAt_lt hL
  refine (each_at hpb ht hl (OrdI o c q f t v self lp r) ?_ ?_ ?_).mono ?_
  · intro l S hS
    refine ⟨Nat.le_refl _, fun _ _ _ => rfl, by rw [loopAt_app hlp]; exact hL, .sl .nil 0 0 0, x4, x5, ?_, .inl ⟨rfl, rfl⟩⟩
    rw [loopAt_app hlp, hL]
    obtain ⟨st, pe, fn, e, l, ps, asg, bd, le⟩ := r
    dsimp only at hrl
    subst hrl
    rfl
  · intro H1 S k H h
    exact ⟨h.keep, fun i h1 h2 => h.old i h2 (by omega)⟩
  · intro l S k x H hS hx h hxa
    obtain ⟨h1, h2, h3, dv, y4, y5, h4, h5⟩ := h
    have hkl : (ordK o c f t self (S.take k)).length <= 10000 := by
      have := ordK_len o c f t self (S.take k)
      have h6 := hS.len
      rw [List.length_take] at this
      omega
    have hl1 : lp < (H0 ++ l).length := by rw [List.length_append]; omega
    refine (ord_round h4 ⟨hr.state, hr.pending, hr.fn, hr.params, hr.code, hr.lent, hr.len, hr.t4, hr.t5, hr.t8, hr.t9⟩ rfl hl1 h1 h5 hkl x).mono ?_
    rintro y ⟨H', dv', z4, z5, rfl, g1, g2, g3, g4⟩
    refine ⟨H', rfl, by omega, fun i i1 i2 => by rw [g4 i i1 i2, h2 i i1 i2], h3, dv', z4, z5, ?_, ?_⟩
    · rw [g1, ordQ_snoc hx]
    · rw [ordK_snoc hx]; exact g2
  · rintro y ⟨l, S, H', rfl, hS, h⟩
    have hk := h.keep
    obtain ⟨h1, h2, h3, dv, y4, y5, h4, h5⟩ := h
    rw [List.take_length] at h4 h5
    exact ⟨H', S, dv, y4, y5, _, rfl, hS, (KeepC.app _ _).trans hk, by rw [List.length_append]; omega, h4, h5⟩
theorem eachF_at (b : Nat) (h : Heap) : D X (.fn 31 []) [.ptr b 0 0] h = some (.fn 59 [.ptr h.length 0 0], h ++ [.cells 0 true [.ptr b 0 0]]) := by
  refine Ok.eq ?_
  (refine Ok.body body31 pin31 ?_; simp only [c31, Try.f31, Option.getD_some, nslot31, List.append_nil, List.map, List.replicate, List.length_cons, List.length_nil, Nat.reduceAdd, Nat.reduceSub, List.cons_append, List.nil_append])
  (repeat' (first | (simp -implicitDefEqProofs (maxSteps := 1000000) (disch := first | assumption | omega | (simp only [ZDI]; omega)) only [*, G31, Za, Zb, Zc, Zd, Ze, Zf, Zg, Zh, Zi, Zj, Zk, Zl, Zm, Zn, Zo, Ja, Jb, Jc, J3, Jd, Je, J4, J5, Jf, Jg, Jh, Ji, Jj, Jk, J6, Jl, Jm, wr, Jn, J7, J8, Jo, Jp, Jq, Jr, Js, Jt, Ju, Jv, Jw, Jx, Jy, Jz, J0, J1, J2, reduceCtorEq, J9, JA, JB, JC, JD, JE, JF, JG]) | ((with_reducible (first | apply Ok.br | apply Ok.gd | apply Ok.ld)) <;> (intro g; (try simp only [ZGS] at g); try (exfalso; omega)))))
set_option maxHeartbeats 8000000 in
theorem order_at {h : Heap} {b m : Nat} {L : List In} (ht : TabAt h b m L) (hl : L.length <= 5000) (hq : ∀ x ∈ L, x.sq <= 1099511627776) (o c q f t : Int) (v : V) (self : RP) :
    Ev.Ok (D X (.fn 23 []) [.ptr b 0 0, .agg [.int .i64 o, .int .i64 c, .int .i64 q, .int .i64 f, .int .i64 t, v], .agg [.int .i64 self.1, .int .i64 self.2]] h) fun y => ∃ S H1 w g, y = (.tup [.int .i64 (ordQ o c f t self S + 1), w], g) /\ SeqOf H1 L S /\ KeepC h g /\ RowAt g w (ordK o c f t self S) := by
  refine Ok.aim fun Q hQ => ?_
  have hQ' := Hid.mk hQ
  clear hQ
  have hbd : ∀ S H1, SeqOf H1 L S -> 0 <= ordQ o c f t self S /\ ordQ o c f t self S <= 1099511627776 := by
    intro S H1 hS
    refine mxR_le (by decide) fun k hk => ?_
    obtain ⟨x, hx, rfl⟩ := List.mem_map.1 hk
    obtain ⟨y, hy, he⟩ := hS.core x (List.mem_filter.1 hx).1
    have := hq y hy
    have e : y.sq = x.sq := by have := congrArg In.sq he; exact this
    show x.sq <= _
    omega
  have hbd' := Hid.mk hbd
  have ht' := Hid.mk ht
  clear hbd hq ht
  (refine Ok.body body23 pin23 ?_; simp only [c23, Try.f23, Option.getD_some, nslot23, List.append_nil, List.map, List.replicate, List.length_cons, List.length_nil, Nat.reduceAdd, Nat.reduceSub, List.cons_append, List.nil_append])
  have hef := eachF_at b h
  (repeat' (first | (simp -implicitDefEqProofs (maxSteps := 1000000) (disch := first | assumption | omega | (simp only [ZDI]; omega)) only [*, G23, Za, Zb, Zc, Zd, Ze, Zf, Zg, Zh, Zi, Zj, Zk, Zl, Zm, Zn, Zo, Ja, Jb, Jc, J3, Jd, Je, J4, J5, Jf, Jg, Jh, Ji, Jj, Jk, J6, Jl, Jm, wr, Jn, J7, J8, Jo, Jp, Jq, Jr, Js, Jt, Ju, Jv, Jw, Jx, Jy, Jz, J0, J1, J2, reduceCtorEq, J9, JA, JB, JC, JD, JE, JF, JG]) | ((with_reducible (first | apply Ok.br | apply Ok.gd | apply Ok.ld)) <;> (intro g; (try simp only [ZGS] at g); try (exfalso; omega)))))
  clear hef
  have hm := Hid.mk ht'.out.map
  refine Ok.bnd2 (order_loop (lp := h.length + 1) (pb := h.length) (b := b) (m := m) (L := L) (r := ?rr) (x4 := ?x4) (x5 := ?x5) (o := o) (c := c) (q := q) (f := f) (t := t) (v := v) (self := self) ?hpb (ht'.out.keep (KeepC.app h _) ?hmm) hl ?hL ?hr ?hl) ?_
  case hpb => rw [hcells_ge (Nat.le_refl _), Nat.sub_self]; exact grd_t rfl _
  case hmm =>
    obtain ⟨_, _, _, h2, _⟩ := hm.out
    exact List.getElem?_append_left (List.getElem?_eq_some_iff.1 h2).1
  case hL => rw [loopAt_ge (by omega)]; simp only [Nat.add_sub_cancel_left]; rfl
  case hr => exact ⟨rfl, rfl, rfl, rfl, by simp only [c23, Try.f23, Option.getD_some, rangesOf, List.nil_append, List.append_nil, List.cons_append, List.getElem?_cons_zero], rfl, rfl, rfl, rfl, rfl, rfl⟩
  case hl => rfl
  rintro v' H2 ⟨H3, S, dv, y4, y5, H1, e3, hS, hk, hlp, hrec, hG⟩
  simp only [Prod.mk.injEq] at e3
  obtain ⟨rfl, rfl⟩ := e3
  have hb := hbd'.out S H1 hS
  have hkl := ordK_len o c f t self S
  have hSl := hS.len
  have hrow := hG.row (by omega)
  have hks : ∀ x, KeepC H2 (H2.set (h.length + 1) x) := by
    intro x
    refine ⟨by simp, fun i g p hc => ?_⟩
    rw [hcells_set_ne]
    · exact hc
    · rintro rfl
      have := loopAt_get hrec
      unfold hcells at hc
      rw [this] at hc; cases hc
  have hQ2 : Hid (∀ x, Q (.tup [.int .i64 (ordQ o c f t self S + 1), dv], H2.set (h.length + 1) x)) := ⟨fun x => hQ'.out _ ⟨S, H1, dv, _, rfl, hS, (KeepC.app h _).trans (hk.trans (hks x)), hrow.keep (hks x)⟩⟩
  have hdv : ∃ a n cc z, dv = .sl a n cc z := by
    obtain ⟨a, cap, z, rfl, _⟩ := hrow
    exact ⟨_, _, _, _, rfl⟩
  clear hS hk hG hrow hks hQ' hbd' ht' hm hkl hSl
  generalize ordQ o c f t self S = n at *
  simp -implicitDefEqProofs (maxSteps := 1000000) (disch := first | assumption | omega | (simp only [ZDI]; omega)) only [*, G23, Za, Zb, Zc, Zd, Ze, Zf, Zg, Zh, Zi, Zj, Zk, Zl, Zm, Zn, Zo, Ja, Jb, Jc, J3, Jd, Je, J4, J5, Jf, Jg, Jh, Ji, Jj, Jk, J6, Jl, Jm, wr, Jn, J7, J8, Jo, Jp, Jq, Jr, Js, Jt, Ju, Jv, Jw, Jx, Jy, Jz, J0, J1, J2, reduceCtorEq, J9, JA, JB, JC, JD, JE, JF, JG]
  trace_state
  exact hQ2.out _
end Go.Ev
set_option maxRecDepth 100000
namespace Go.Ev
open Go.Ev renaming exPure -> Ja, ofValue -> Jb, cellsV -> Jc, load -> Jd, store -> Je, binOp -> Jf, intOp -> Jg, rdV -> Jh, vsame -> Ji, vsames -> Jj, makeSliceV -> Jk, resV -> Jl, isCell -> Jm, nilCheckV -> Jn, allV -> Jo, builtinV -> Jp, lenV -> Jq, indexAddrV -> Jr, unOp -> Js, minmaxV -> Jt, minmax -> Ju, sliceV -> Jv, asInt -> Jw, appendV -> Jx, copyV -> Jy, clearV -> Jz, convV -> J0, sliceCells -> J1, shift -> J2
open Bool renaming true -> BT, false -> BF
open Nat renaming reduceEqDiff -> J3, reduceLT -> J4, reduceAdd -> J5, reduceBEq -> J6, reduceSub -> J7, reduceMul -> J8, reduceLeDiff -> JG
open Int renaming reduceLT -> J9, reduceLE -> JA, reduceAdd -> JB, reduceSub -> JC, reduceNeg -> JD, reduceToNat -> JE, reduceEq -> JF
open Go.Proofs Go.Sort
set_option maxHeartbeats 4000000 in
theorem add_at {h : Heap} {v : V} {l : List RP} (hr : RowAt h v l) (hl : l.length <= 1000) (x : RP) : Ev.Ok (D X (.fn 58 []) [v, .agg [.int .i64 x.1, .int .i64 x.2]] h) fun y => ∃ w g, y = (w, g) /\ Ext h g /\ RowAt g w (addR x l) := by
  refine Ok.aim fun Q hQ => ?_
  have hQ' := Hid.mk hQ
  clear hQ
  have hhas := has_at hr x
  have hr0 := Hid.mk hr
  by_cases hm : x ∈ l
  · rw [decide_eq_true hm] at hhas
    obtain ⟨a, cap, z, rfl, _⟩ := hr
    (refine Ok.body body58 pin58 ?_; simp only [c58, Try.f58, Option.getD_some, nslot58, List.append_nil, List.map, List.replicate, List.length_cons, List.length_nil, Nat.reduceAdd, Nat.reduceSub, List.cons_append, List.nil_append])
    (repeat' (first | (simp -implicitDefEqProofs (maxSteps := 1000000) (disch := first | assumption | omega | (simp only [ZDI]; omega)) only [*, lenV, G58, Za, Zb, Zc, Zd, Ze, Zf, Zg, Zh, Zi, Zj, Zk, Zl, Zm, Zn, Zo, Ja, Jb, Jc, J3, Jd, Je, J4, J5, Jf, Jg, Jh, Ji, Jj, Jk, J6, Jl, Jm, wr, Jn, J7, J8, Jo, Jp, Jq, Jr, Js, Jt, Ju, Jv, Jw, Jx, Jy, Jz, J0, J1, J2, reduceCtorEq, J9, JA, JB, JC, JD, JE, JF, JG]) | ((with_reducible (first | apply Ok.br | apply Ok.gd | apply Ok.ld)) <;> (intro g; (try simp only [ZGS] at g); try (exfalso; omega)))))
    exact hQ'.out _ ⟨_, _, rfl, .refl _, by unfold addR; rw [if_pos hm]; exact hr0.out⟩
  · rw [decide_eq_false hm] at hhas
    obtain ⟨a, cap, z, rfl, h1, h1', h2⟩ := hr
    clear hr0
    have hfin : ∀ L put w g, l.foldl (stepA x) ([], false) = (L, put) -> Ext h g -> RowAt g w (if put then L else L ++ [x]) -> Q (w, g) := by
      intro L put w g e1 e2 e3
      refine hQ'.out _ ⟨w, g, rfl, e2, ?_⟩
      unfold addR
      rw [if_neg hm, e1]
      exact e3
    have hfin' := Hid.mk hfin
    clear hfin hQ' hm
    (refine Ok.body body58 pin58 ?_; simp only [c58, Try.f58, Option.getD_some, nslot58, List.append_nil, List.map, List.replicate, List.length_cons, List.length_nil, Nat.reduceAdd, Nat.reduceSub, List.cons_append, List.nil_append])
    (repeat' (first | (simp -implicitDefEqProofs (maxSteps := 1000000) (disch := first | assumption | omega | (simp only [ZDI]; omega)) only [*, lenV, G58, Za, Zb, Zc, Zd, Ze, Zf, Zg, Zh, Zi, Zj, Zk, Zl, Zm, Zn, Zo, Ja, Jb, Jc, J3, Jd, Je, J4, J5, Jf, Jg, Jh, Ji, Jj, Jk, J6, Jl, Jm, wr, Jn, J7, J8, Jo, Jp, Jq, Jr, Js, Jt, Ju, Jv, Jw, Jx, Jy, Jz, J0, J1, J2, reduceCtorEq, J9, JA, JB, JC, JD, JE, JF, JG]) | ((with_reducible (first | apply Ok.br | apply Ok.gd | apply Ok.ld)) <;> (intro g; (try simp only [ZGS] at g); try (exfalso; omega)))))
    clear hhas
    refine Ok.loop [BF, BF, BF, BF, BF, BT, BT, BF, BT, BF, BF, BF, BF, BF, BF, BT, BT, BT, BT, BT, BT, BT, BT, BT, BT, BT, BT, BT, BT, BT, BT, BT, BT, BT, BT, BF, BF, BF, BF, BF, BF, BF] (fun m s2 => ∃ (i k1 k2 k3 k4 : Nat) (c1 c2 c3 c4 : List V) (w : V) (L : List RP) (put : Bool), m = l.length - i /\ i <= l.length /\ tv s2.e 15 = .v (.int .i64 i) /\ tv s2.e 5 = .v w /\ tv s2.e 6 = .v (.bool put) /\ s2.l = [(1, [.int .i64 x.1, .int .i64 x.2]), (k1, c1), (k2, c2), (k3, c3), (k4, c4)] /\ Ext h s2.h /\ Gro h s2.h w L /\ L.length <= 2 * i /\ (l.take i).foldl (stepA x) ([], false) = (L, put))
      (fun y s2 => y = .exit 0 /\ ∃ (k1 k2 k3 k4 : Nat) (c1 c2 c3 c4 : List V) (w : V) (L : List RP) (put : Bool), tv s2.e 5 = .v w /\ tv s2.e 6 = .v (.bool put) /\ s2.l = [(1, [.int .i64 x.1, .int .i64 x.2]), (k1, c1), (k2, c2), (k3, c3), (k4, c4)] /\ Ext h s2.h /\ Gro h s2.h w L /\ L.length <= 2 * l.length /\ l.foldl (stepA x) ([], false) = (L, put)) (l.length - 0) ⟨0, 0, 0, 0, 0, [], [], [], [], _, [], false, rfl, Nat.zero_le _, rfl, rfl, rfl, rfl, .refl _, .inl ⟨rfl, rfl⟩, Nat.zero_le _, rfl⟩ ?_ ?_
    · intro m ⟨e', l', g⟩ hW ⟨i, k1, k2, k3, k4, c1, c2, c3, c4, w, L, put, hm, hi, h9, h5, h6, hsl, hx, hG, hLl, hfo⟩
      dsimp only at hW h9 h5 h6 hsl hx hG
      subst l'
      rw [hW.spread]
      simp only [spread_t, spread_f, spread_n, Nat.zero_add, Nat.reduceAdd, h9, h5, h6]
      clear hW
      by_cases hlt : i < l.length
      · have hlt' : (i : Int) < (l.length : Int) := by omega
        have g1 : 0 <= (i : Int) /\ (i : Int) < (l.length : Int) := by omega
        rcases h2 with rfl | ⟨b, q, o, rw, full, rfl, hb, hfull, ho⟩
        · simp at hlt
        · have hb2 := hx.cells hb
          obtain ⟨y, hy⟩ : ∃ y, l[i]? = some y := ⟨_, List.getElem?_eq_getElem hlt⟩
          have hf := hfull i y hy
          have hgl := hx.len
          have hfs : (l.take (i + 1)).foldl (stepA x) ([], false) = stepA x (L, put) y := by rw [List.take_add_one, hy, List.foldl_append, hfo]; rfl
          have hfs' := Hid.mk hfs
          have hx' := Hid.mk hx
          have hle := less06_at x y
          have ho2 : o + i * 2 + 2 <= full.length := by omega
          clear hfs hy hfull hx hfo hb ho
          have hb2l := hcells_lt hb2
          have hL : (L.length + 2) * 16 <= 35184372088832 /\ L.length + 2 <= 35184372088832 := by omega
          have hn1 : ¬ (L.length + 1 <= L.length) := by omega
          have hn2 : ¬ (L.length + 1 + 1 <= L.length + 1) := by omega
          cases put with
          | true =>
            have hst : stepA x (L, true) y = (L ++ [y], true) := rfl
            have hst' := Hid.mk hst
            clear hst
            rcases hG with ⟨rfl, rfl⟩ | ⟨b3, q3, rfl, hbl, hcl⟩
            · (repeat' (first | (simp -implicitDefEqProofs (maxSteps := 1000000) (disch := first | assumption | omega | (simp only [ZDI]; omega)) only [*, lenV, flL_len, fl_snoc, fl_snoc2, List.drop_zero, Nat.zero_add, List.length_append, List.length_cons, List.length_nil, G58, Za, Zb, Zc, Zd, Ze, Zf, Zg, Zh, Zi, Zj, Zk, Zl, Zm, Zn, Zo, Ja, Jb, Jc, J3, Jd, Je, J4, J5, Jf, Jg, Jh, Ji, Jj, Jk, J6, Jl, Jm, wr, Jn, J7, J8, Jo, Jp, Jq, Jr, Js, Jt, Ju, Jv, Jw, Jx, Jy, Jz, J0, J1, J2, reduceCtorEq, J9, JA, JB, JC, JD, JE, JF, JG]) | ((with_reducible (first | apply Ok.br | apply Ok.gd | apply Ok.ld)) <;> (intro g; (try simp only [ZGS] at g); try (exfalso; omega)))))
              exact Turn.next (l.length - (i + 1)) (by omega) ⟨rfl, i + 1, _, _, _, _, _, _, _, _, _, [y], true, rfl, by omega, rfl, rfl, rfl, rfl, hx'.out.app _, .inr ⟨_, _, rfl, hgl, hcells_new⟩, by first | (simp; done) | (simp; omega), by rw [hfs'.out, hst'.out]; try simp⟩
            · have hcl2 := hcells_lt hcl
              (repeat' (first | (simp -implicitDefEqProofs (maxSteps := 1000000) (disch := first | assumption | omega | (simp only [ZDI]; omega)) only [*, lenV, flL_len, fl_snoc, fl_snoc2, List.drop_zero, Nat.zero_add, List.length_append, List.length_cons, List.length_nil, G58, Za, Zb, Zc, Zd, Ze, Zf, Zg, Zh, Zi, Zj, Zk, Zl, Zm, Zn, Zo, Ja, Jb, Jc, J3, Jd, Je, J4, J5, Jf, Jg, Jh, Ji, Jj, Jk, J6, Jl, Jm, wr, Jn, J7, J8, Jo, Jp, Jq, Jr, Js, Jt, Ju, Jv, Jw, Jx, Jy, Jz, J0, J1, J2, reduceCtorEq, J9, JA, JB, JC, JD, JE, JF, JG]) | ((with_reducible (first | apply Ok.br | apply Ok.gd | apply Ok.ld)) <;> (intro g; (try simp only [ZGS] at g); try (exfalso; omega)))))
              exact Turn.next (l.length - (i + 1)) (by omega) ⟨rfl, i + 1, _, _, _, _, _, _, _, _, _, (L ++ [y]), true, rfl, by omega, rfl, rfl, rfl, rfl, hx'.out.set hbl _, .inr ⟨b3, q3 + 1, by simp, hbl, by first | exact hcells_set_eq hcl2 | (rw [hcells_set_eq] <;> simp [hcl2])⟩, by first | (simp; done) | (simp; omega), by rw [hfs'.out, hst'.out]; try simp⟩
          | false =>
            cases hlr : ltR x y with
            | true =>
              have hst : stepA x (L, false) y = (L ++ [x] ++ [y], true) := by unfold stepA; rw [hlr]; rfl
              have hst' := Hid.mk hst
              clear hst
              rw [hlr] at hle
              rcases hG with ⟨rfl, rfl⟩ | ⟨b3, q3, rfl, hbl, hcl⟩
              · (repeat' (first | (simp -implicitDefEqProofs (maxSteps := 1000000) (disch := first | assumption | omega | (simp only [ZDI]; omega)) only [*, lenV, flL_len, fl_snoc, fl_snoc2, List.drop_zero, Nat.zero_add, List.length_append, List.length_cons, List.length_nil, G58, Za, Zb, Zc, Zd, Ze, Zf, Zg, Zh, Zi, Zj, Zk, Zl, Zm, Zn, Zo, Ja, Jb, Jc, J3, Jd, Je, J4, J5, Jf, Jg, Jh, Ji, Jj, Jk, J6, Jl, Jm, wr, Jn, J7, J8, Jo, Jp, Jq, Jr, Js, Jt, Ju, Jv, Jw, Jx, Jy, Jz, J0, J1, J2, reduceCtorEq, J9, JA, JB, JC, JD, JE, JF, JG]) | ((with_reducible (first | apply Ok.br | apply Ok.gd | apply Ok.ld)) <;> (intro g; (try simp only [ZGS] at g); try (exfalso; omega)))))
                exact Turn.next (l.length - (i + 1)) (by omega) ⟨rfl, i + 1, _, _, _, _, _, _, _, _, _, [x, y], true, rfl, by omega, rfl, rfl, rfl, rfl, hx'.out.app _, .inr ⟨_, _, rfl, hgl, hcells_new⟩, by first | (simp; done) | (simp; omega), by rw [hfs'.out, hst'.out]; try simp⟩
              · have hcl2 := hcells_lt hcl
                (repeat' (first | (simp -implicitDefEqProofs (maxSteps := 1000000) (disch := first | assumption | omega | (simp only [ZDI]; omega)) only [*, lenV, flL_len, fl_snoc, fl_snoc2, List.drop_zero, Nat.zero_add, List.length_append, List.length_cons, List.length_nil, G58, Za, Zb, Zc, Zd, Ze, Zf, Zg, Zh, Zi, Zj, Zk, Zl, Zm, Zn, Zo, Ja, Jb, Jc, J3, Jd, Je, J4, J5, Jf, Jg, Jh, Ji, Jj, Jk, J6, Jl, Jm, wr, Jn, J7, J8, Jo, Jp, Jq, Jr, Js, Jt, Ju, Jv, Jw, Jx, Jy, Jz, J0, J1, J2, reduceCtorEq, J9, JA, JB, JC, JD, JE, JF, JG]) | ((with_reducible (first | apply Ok.br | apply Ok.gd | apply Ok.ld)) <;> (intro g; (try simp only [ZGS] at g); try (exfalso; omega)))))
                exact Turn.next (l.length - (i + 1)) (by omega) ⟨rfl, i + 1, _, _, _, _, _, _, _, _, _, (L ++ [x] ++ [y]), true, rfl, by omega, rfl, rfl, rfl, rfl, hx'.out.set hbl _, .inr ⟨b3, q3 + 1 + 1, by simp, hbl, by first | exact hcells_set_eq hcl2 | (rw [hcells_set_eq] <;> simp [hcl2])⟩, by first | (simp; done) | (simp; omega), by rw [hfs'.out, hst'.out]; try simp⟩
            | false =>
              have hst : stepA x (L, false) y = (L ++ [y], false) := by unfold stepA; rw [hlr]; rfl
              have hst' := Hid.mk hst
              clear hst
              rw [hlr] at hle
              rcases hG with ⟨rfl, rfl⟩ | ⟨b3, q3, rfl, hbl, hcl⟩
              · (repeat' (first | (simp -implicitDefEqProofs (maxSteps := 1000000) (disch := first | assumption | omega | (simp only [ZDI]; omega)) only [*, lenV, flL_len, fl_snoc, fl_snoc2, List.drop_zero, Nat.zero_add, List.length_append, List.length_cons, List.length_nil, G58, Za, Zb, Zc, Zd, Ze, Zf, Zg, Zh, Zi, Zj, Zk, Zl, Zm, Zn, Zo, Ja, Jb, Jc, J3, Jd, Je, J4, J5, Jf, Jg, Jh, Ji, Jj, Jk, J6, Jl, Jm, wr, Jn, J7, J8, Jo, Jp, Jq, Jr, Js, Jt, Ju, Jv, Jw, Jx, Jy, Jz, J0, J1, J2, reduceCtorEq, J9, JA, JB, JC, JD, JE, JF, JG]) | ((with_reducible (first | apply Ok.br | apply Ok.gd | apply Ok.ld)) <;> (intro g; (try simp only [ZGS] at g); try (exfalso; omega)))))
                exact Turn.next (l.length - (i + 1)) (by omega) ⟨rfl, i + 1, _, _, _, _, _, _, _, _, _, [y], false, rfl, by omega, rfl, rfl, rfl, rfl, hx'.out.app _, .inr ⟨_, _, rfl, hgl, hcells_new⟩, by first | (simp; done) | (simp; omega), by rw [hfs'.out, hst'.out]; try simp⟩
              · have hcl2 := hcells_lt hcl
                (repeat' (first | (simp -implicitDefEqProofs (maxSteps := 1000000) (disch := first | assumption | omega | (simp only [ZDI]; omega)) only [*, lenV, flL_len, fl_snoc, fl_snoc2, List.drop_zero, Nat.zero_add, List.length_append, List.length_cons, List.length_nil, G58, Za, Zb, Zc, Zd, Ze, Zf, Zg, Zh, Zi, Zj, Zk, Zl, Zm, Zn, Zo, Ja, Jb, Jc, J3, Jd, Je, J4, J5, Jf, Jg, Jh, Ji, Jj, Jk, J6, Jl, Jm, wr, Jn, J7, J8, Jo, Jp, Jq, Jr, Js, Jt, Ju, Jv, Jw, Jx, Jy, Jz, J0, J1, J2, reduceCtorEq, J9, JA, JB, JC, JD, JE, JF, JG]) | ((with_reducible (first | apply Ok.br | apply Ok.gd | apply Ok.ld)) <;> (intro g; (try simp only [ZGS] at g); try (exfalso; omega)))))
                exact Turn.next (l.length - (i + 1)) (by omega) ⟨rfl, i + 1, _, _, _, _, _, _, _, _, _, (L ++ [y]), false, rfl, by omega, rfl, rfl, rfl, rfl, hx'.out.set hbl _, .inr ⟨b3, q3 + 1, by simp, hbl, by first | exact hcells_set_eq hcl2 | (rw [hcells_set_eq] <;> simp [hcl2])⟩, by first | (simp; done) | (simp; omega), by rw [hfs'.out, hst'.out]; try simp⟩
      · have hlt' : ¬ (i : Int) < (l.length : Int) := by omega
        (repeat' (first | (simp -implicitDefEqProofs (maxSteps := 1000000) (disch := first | assumption | omega | (simp only [ZDI]; omega)) only [*, lenV, G58, Za, Zb, Zc, Zd, Ze, Zf, Zg, Zh, Zi, Zj, Zk, Zl, Zm, Zn, Zo, Ja, Jb, Jc, J3, Jd, Je, J4, J5, Jf, Jg, Jh, Ji, Jj, Jk, J6, Jl, Jm, wr, Jn, J7, J8, Jo, Jp, Jq, Jr, Js, Jt, Ju, Jv, Jw, Jx, Jy, Jz, J0, J1, J2, reduceCtorEq, J9, JA, JB, JC, JD, JE, JF, JG]) | ((with_reducible (first | apply Ok.br | apply Ok.gd | apply Ok.ld)) <;> (intro g; (try simp only [ZGS] at g); try (exfalso; omega)))))
        refine Turn.exit ⟨rfl, rfl, _, _, _, _, _, _, _, _, _, L, put, rfl, rfl, rfl, hx, hG, by omega, ?_⟩
        rwa [List.take_of_length_le (by omega)] at hfo
    · intro y ⟨e', l', g⟩ hW ⟨hy, k1, k2, k3, k4, c1, c2, c3, c4, w, L, put, h5, h6, hsl, hx, hG, hLl, hfo⟩
      dsimp only at hW h5 h6 hsl hx hG
      subst l' hy
      rw [hW.spread]
      clear hW
      simp only [spread_t, spread_f, spread_n, Nat.zero_add, Nat.reduceAdd, h5, h6]
      have hL : (L.length + 2) * 16 <= 35184372088832 /\ L.length + 2 <= 35184372088832 := by omega
      have hn1 : ¬ (L.length + 1 <= L.length) := by omega
      have hgl := hx.len
      have hx' := Hid.mk hx
      have hfo' := Hid.mk hfo
      clear hx hfo
      cases put with
      | true =>
        obtain ⟨a2, n2, c2, z2, rfl⟩ : ∃ a n c z, w = .sl a n c z := by
          rcases hG with ⟨_, rfl⟩ | ⟨b, q, rfl, _⟩ <;> exact ⟨_, _, _, _, rfl⟩
        (repeat' (first | (simp -implicitDefEqProofs (maxSteps := 1000000) (disch := first | assumption | omega | (simp only [ZDI]; omega)) only [*, lenV, G58, Za, Zb, Zc, Zd, Ze, Zf, Zg, Zh, Zi, Zj, Zk, Zl, Zm, Zn, Zo, Ja, Jb, Jc, J3, Jd, Je, J4, J5, Jf, Jg, Jh, Ji, Jj, Jk, J6, Jl, Jm, wr, Jn, J7, J8, Jo, Jp, Jq, Jr, Js, Jt, Ju, Jv, Jw, Jx, Jy, Jz, J0, J1, J2, reduceCtorEq, J9, JA, JB, JC, JD, JE, JF, JG]) | ((with_reducible (first | apply Ok.br | apply Ok.gd | apply Ok.ld)) <;> (intro g; (try simp only [ZGS] at g); try (exfalso; omega)))))
        exact hfin'.out L true _ _ hfo'.out hx'.out (hG.row (by omega))
      | false =>
        rcases hG with ⟨rfl, rfl⟩ | ⟨b, q, rfl, hbl, hcl⟩
        · (repeat' (first | (simp -implicitDefEqProofs (maxSteps := 1000000) (disch := first | assumption | omega | (simp only [ZDI]; omega)) only [*, lenV, flL_len, fl_snoc, fl_snoc2, List.drop_zero, Nat.zero_add, List.length_append, List.length_cons, List.length_nil, G58, Za, Zb, Zc, Zd, Ze, Zf, Zg, Zh, Zi, Zj, Zk, Zl, Zm, Zn, Zo, Ja, Jb, Jc, J3, Jd, Je, J4, J5, Jf, Jg, Jh, Ji, Jj, Jk, J6, Jl, Jm, wr, Jn, J7, J8, Jo, Jp, Jq, Jr, Js, Jt, Ju, Jv, Jw, Jx, Jy, Jz, J0, J1, J2, reduceCtorEq, J9, JA, JB, JC, JD, JE, JF, JG]) | ((with_reducible (first | apply Ok.br | apply Ok.gd | apply Ok.ld)) <;> (intro g; (try simp only [ZGS] at g); try (exfalso; omega)))))
          exact hfin'.out [] false _ _ hfo'.out (hx'.out.app _) (Gro.row (l := [x]) (.inr ⟨_, _, rfl, hgl, hcells_new⟩) (by simp))
        · have hcl2 := hcells_lt hcl
          (repeat' (first | (simp -implicitDefEqProofs (maxSteps := 1000000) (disch := first | assumption | omega | (simp only [ZDI]; omega)) only [*, lenV, flL_len, fl_snoc, fl_snoc2, List.drop_zero, Nat.zero_add, List.length_append, List.length_cons, List.length_nil, G58, Za, Zb, Zc, Zd, Ze, Zf, Zg, Zh, Zi, Zj, Zk, Zl, Zm, Zn, Zo, Ja, Jb, Jc, J3, Jd, Je, J4, J5, Jf, Jg, Jh, Ji, Jj, Jk, J6, Jl, Jm, wr, Jn, J7, J8, Jo, Jp, Jq, Jr, Js, Jt, Ju, Jv, Jw, Jx, Jy, Jz, J0, J1, J2, reduceCtorEq, J9, JA, JB, JC, JD, JE, JF, JG]) | ((with_reducible (first | apply Ok.br | apply Ok.gd | apply Ok.ld)) <;> (intro g; (try simp only [ZGS] at g); try (exfalso; omega)))))
          exact hfin'.out L false _ _ hfo'.out (hx'.out.set hbl _) (Gro.row (l := L ++ [x]) (.inr ⟨_, _, by simp, hbl, hcells_set_eq hcl2⟩) (by simp; omega))
end Go.Ev
set_option maxRecDepth 100000
namespace Go.Ev
open Go.Ev renaming exPure -> Ja, ofValue -> Jb, cellsV -> Jc, load -> Jd, store -> Je, binOp -> Jf, intOp -> Jg, rdV -> Jh, vsame -> Ji, vsames -> Jj, makeSliceV -> Jk, resV -> Jl, isCell -> Jm, nilCheckV -> Jn, allV -> Jo, builtinV -> Jp, lenV -> Jq, indexAddrV -> Jr, unOp -> Js, minmaxV -> Jt, minmax -> Ju, sliceV -> Jv, asInt -> Jw, appendV -> Jx, copyV -> Jy, clearV -> Jz, convV -> J0, sliceCells -> J1, shift -> J2
open Bool renaming true -> BT, false -> BF
open Nat renaming reduceEqDiff -> J3, reduceLT -> J4, reduceAdd -> J5, reduceBEq -> J6, reduceSub -> J7, reduceMul -> J8, reduceLeDiff -> JG
open Int renaming reduceLT -> J9, reduceLE -> JA, reduceAdd -> JB, reduceSub -> JC, reduceNeg -> JD, reduceToNat -> JE, reduceEq -> JF
open Go.Proofs
theorem ordA_snoc {o c f t : Int} {self : RP} {S : List In} {k : Nat} {x : In} (hx : S[k]? = some x) : addsR [] (ordK o c f t self (S.take (k + 1))) = if mtB o c f t self x then addR x.key (addsR [] (ordK o c f t self (S.take k))) else addsR [] (ordK o c f t self (S.take k)) := by
  rw [ordK_snoc hx]
  cases h : mtB o c f t self x with
  | false => rfl
  | true =>
    rw [if_pos rfl, if_pos rfl]
    unfold addsR
    rw [List.foldl_append]; rfl
set_option maxHeartbeats 8000000 in
theorem rOrder_at {h : Heap} {v0 : V} {M : List In} (hr : InsAt h v0 M) (hM : M.length <= 60) (hq : ∀ x ∈ M, x.sq <= 1099511627776) (o c q f t : Int) (v : V) (self : RP) :
    Ev.Ok (D X (.fn 28 []) [v0, .agg [.int .i64 o, .int .i64 c, .int .i64 q, .int .i64 f, .int .i64 t, v], .agg [.int .i64 self.1, .int .i64 self.2]] h) fun y => ∃ w g, y = (.tup [.int .i64 (ordQ o c f t self M + 1), w], g) /\ Ext h g /\ RowAt g w (addsR [] (ordK o c f t self M)) := by
  refine Ok.aim fun Q hQ => ?_
  have hbd : ∀ k, 0 <= ordQ o c f t self (M.take k) /\ ordQ o c f t self (M.take k) <= 1099511627776 := by
    intro k
    refine mxR_le (by decide) fun y hy => ?_
    obtain ⟨x, hx, rfl⟩ := List.mem_map.1 hy
    exact hq x (List.mem_of_mem_take (List.mem_filter.1 hx).1)
  have hab : ∀ k, (addsR [] (ordK o c f t self (M.take k))).length <= 60 := by
    intro k
    have := addsR_len (ordK o c f t self (M.take k)) []
    have h2 := ordK_len o c f t self (M.take k)
    rw [List.length_take] at h2
    simp at this
    omega
  have hQ' := Hid.mk hQ
  have hbd' := Hid.mk hbd
  have hab' := Hid.mk hab
  clear hQ hbd hab hq
  obtain ⟨a, cap, z, rfl, h1, h1', h2⟩ := hr
  obtain ⟨s1, s2⟩ := self
  dsimp only at *
  (refine Ok.body body28 pin28 ?_; simp only [c28, Try.f28, Option.getD_some, nslot28, List.append_nil, List.map, List.replicate, List.length_cons, List.length_nil, Nat.reduceAdd, Nat.reduceSub, List.cons_append, List.nil_append])
  (repeat' (first | (simp -implicitDefEqProofs (maxSteps := 1000000) (disch := first | assumption | omega | (simp only [ZDI]; omega)) only [*, lenV, G28, Za, Zb, Zc, Zd, Ze, Zf, Zg, Zh, Zi, Zj, Zk, Zl, Zm, Zn, Zo, Ja, Jb, Jc, J3, Jd, Je, J4, J5, Jf, Jg, Jh, Ji, Jj, Jk, J6, Jl, Jm, wr, Jn, J7, J8, Jo, Jp, Jq, Jr, Js, Jt, Ju, Jv, Jw, Jx, Jy, Jz, J0, J1, J2, reduceCtorEq, J9, JA, JB, JC, JD, JE, JF, JG]) | ((with_reducible (first | apply Ok.br | apply Ok.gd | apply Ok.ld)) <;> (intro g; (try simp only [ZGS] at g); try (exfalso; omega)))))
  refine Ok.loop [BF, BF, BF, BF, BF, BF, BF, BF, BT, BT, BF, BT, BF, BF, BT, BT, BT, BT, BT, BT, BT, BT, BT, BT, BT, BT, BT, BT, BT, BT, BT, BT, BT, BT, BT, BT, BT, BT, BT, BT, BT, BT, BT, BT, BF, BF, BF] (fun n s2' => ∃ (i w1 : Nat) (q1 : List V) (w : V), n = M.length - i /\ i <= M.length /\ tv s2'.e 14 = .v (.int .i64 i) /\ tv s2'.e 8 = .v (.int .i64 (ordQ o c f t (s1, s2) (M.take i))) /\ tv s2'.e 9 = .v w /\ s2'.l = [(1, [.int .i64 o, .int .i64 c, .int .i64 q, .int .i64 f, .int .i64 t, v]), (1, [.int .i64 s1, .int .i64 s2]), (w1, q1)] /\ Ext h s2'.h /\ RowAt s2'.h w (addsR [] (ordK o c f t (s1, s2) (M.take i))))
    (fun y s2' => y = .exit 0 /\ ∃ (w1 : Nat) (q1 : List V) (w : V), tv s2'.e 8 = .v (.int .i64 (ordQ o c f t (s1, s2) M)) /\ tv s2'.e 9 = .v w /\ s2'.l = [(1, [.int .i64 o, .int .i64 c, .int .i64 q, .int .i64 f, .int .i64 t, v]), (1, [.int .i64 s1, .int .i64 s2]), (w1, q1)] /\ Ext h s2'.h /\ RowAt s2'.h w (addsR [] (ordK o c f t (s1, s2) M))) (M.length - 0) ⟨0, 0, [], _, rfl, Nat.zero_le _, rfl, rfl, rfl, rfl, .refl _, ⟨_, _, _, rfl, Nat.le_refl _, by decide, .inl rfl⟩⟩ ?_ ?_
  · intro n ⟨e', l', H'⟩ hW ⟨i, w1, q1, w, hm, hi, h9, h5, h6, k2, hx, hrow⟩
    dsimp only at hW h9 h5 h6 k2 hx hrow
    subst l'
    rw [hW.spread]
    simp only [spread_t, spread_f, spread_n, Nat.zero_add, Nat.reduceAdd, h9, h5, h6]
    clear hW hQ'
    have hal := hab'.out i
    by_cases hlt : i < M.length
    · have hlt' : (i : Int) < (M.length : Int) := by omega
      have g1 : 0 <= (i : Int) /\ (i : Int) < (M.length : Int) := by omega
      rcases h2 with rfl | ⟨bb, qq, oo, rw, full, rfl, hbc, hfull, ho⟩
      · simp at hlt
      · obtain ⟨x, hy⟩ : ∃ y, M[i]? = some y := ⟨_, List.getElem?_eq_getElem hlt⟩
        have hf := hfull i _ hy
        simp only [inV] at hf
        have ho2 : oo + i * 16 + 16 <= full.length := by omega
        have hq1 := Hid.mk (ordQ_snoc (o := o) (c := c) (f := f) (t := t) (self := (s1, s2)) hy)
        have ha1 := Hid.mk (ordA_snoc (o := o) (c := c) (f := f) (t := t) (self := (s1, s2)) hy)
        clear hfull ho hy
        have hbc2 := hx.cells hbc
        have hx' := Hid.mk hx
        have hrow' := Hid.mk hrow
        have hadd := add_at hrow (by omega) x.key
        have hmd := fun H => rmeddle_at o c q f t x.o x.c x.q x.f x.t v x.dv H
        have hmt : mtB o c f t (s1, s2) x = (decide (1 <= x.st) && !(decide (x.l = s1) && decide (x.i = s2)) && decide (meddleP o c f t x.o x.c x.f x.t)) := rfl
        generalize decide (meddleP o c f t x.o x.c x.f x.t) = mb at hmd hmt
        have hmt' := Hid.mk hmt
        clear hmt hbc hx hrow
        generalize ordQ o c f t (s1, s2) (M.take i) = sq at hq1 ⊢
        have hno : mtB o c f t (s1, s2) x = false -> Hid (ordQ o c f t (s1, s2) (M.take (i + 1)) = sq /\ RowAt H' w (addsR [] (ordK o c f t (s1, s2) (M.take (i + 1))))) := by
          intro e
          refine ⟨?_, ?_⟩
          · rw [hq1.out, e]; rfl
          · rw [ha1.out, e]; exact hrow'.out
        have hno' := Hid.mk hno
        clear hno
        cases d0 : decide (1 <= x.st) with
        | false =>
          have hn := hno'.out (by rw [hmt'.out, d0]; rfl)
          clear hadd
          (repeat' (first | (simp -implicitDefEqProofs (maxSteps := 1000000) (disch := first | assumption | omega | (simp only [ZDI]; omega)) only [*, lenV, G28, Za, Zb, Zc, Zd, Ze, Zf, Zg, Zh, Zi, Zj, Zk, Zl, Zm, Zn, Zo, Ja, Jb, Jc, J3, Jd, Je, J4, J5, Jf, Jg, Jh, Ji, Jj, Jk, J6, Jl, Jm, wr, Jn, J7, J8, Jo, Jp, Jq, Jr, Js, Jt, Ju, Jv, Jw, Jx, Jy, Jz, J0, J1, J2, reduceCtorEq, J9, JA, JB, JC, JD, JE, JF, JG]) | ((with_reducible (first | apply Ok.br | apply Ok.gd | apply Ok.ld)) <;> (intro g; (try simp only [ZGS] at g); try (exfalso; omega)))))
          exact Turn.next (M.length - (i + 1)) (by omega) ⟨rfl, i + 1, _, _, w, rfl, by omega, rfl, by rw [hn.out.1]; rfl, rfl, rfl, hx'.out, hn.out.2⟩
        | true =>
          have key : ∀ P : Prop, (decide (x.l = s1) = true -> decide (x.i = s2) = true -> P) -> ((decide (x.l = s1) && decide (x.i = s2)) = false -> decide (x.l = s1) = false -> P) -> ((decide (x.l = s1) && decide (x.i = s2)) = false -> decide (x.l = s1) = true -> decide (x.i = s2) = false -> P) -> P := by
            intro P p1 p2 p3
            cases h1 : decide (x.l = s1) with
            | false => exact p2 (by rw [h1]; rfl) h1
            | true => cases h2 : decide (x.i = s2) with
              | false => exact p3 (by rw [h1, h2]; rfl) h1 h2
              | true => exact p1 h1 h2
          apply key <;> clear key
          · intro d1 d2
            have hn := hno'.out (by rw [hmt'.out, d0, d1, d2]; rfl)
            clear hadd
            (repeat' (first | (simp -implicitDefEqProofs (maxSteps := 1000000) (disch := first | assumption | omega | (simp only [ZDI]; omega)) only [*, lenV, G28, Za, Zb, Zc, Zd, Ze, Zf, Zg, Zh, Zi, Zj, Zk, Zl, Zm, Zn, Zo, Ja, Jb, Jc, J3, Jd, Je, J4, J5, Jf, Jg, Jh, Ji, Jj, Jk, J6, Jl, Jm, wr, Jn, J7, J8, Jo, Jp, Jq, Jr, Js, Jt, Ju, Jv, Jw, Jx, Jy, Jz, J0, J1, J2, reduceCtorEq, J9, JA, JB, JC, JD, JE, JF, JG]) | ((with_reducible (first | apply Ok.br | apply Ok.gd | apply Ok.ld)) <;> (intro g; (try simp only [ZGS] at g); try (exfalso; omega)))))
            exact Turn.next (M.length - (i + 1)) (by omega) ⟨rfl, i + 1, _, _, w, rfl, by omega, rfl, by rw [hn.out.1]; rfl, rfl, rfl, hx'.out, hn.out.2⟩
          all_goals
            intro hd
            have hd' := Hid.mk hd
            clear hd
            intros
            cases mb with
            | false =>
              have hn := hno'.out (by rw [hmt'.out, d0, hd'.out]; rfl)
              clear hadd
              (repeat' (first | (simp -implicitDefEqProofs (maxSteps := 1000000) (disch := first | assumption | omega | (simp only [ZDI]; omega)) only [*, lenV, G28, Za, Zb, Zc, Zd, Ze, Zf, Zg, Zh, Zi, Zj, Zk, Zl, Zm, Zn, Zo, Ja, Jb, Jc, J3, Jd, Je, J4, J5, Jf, Jg, Jh, Ji, Jj, Jk, J6, Jl, Jm, wr, Jn, J7, J8, Jo, Jp, Jq, Jr, Js, Jt, Ju, Jv, Jw, Jx, Jy, Jz, J0, J1, J2, reduceCtorEq, J9, JA, JB, JC, JD, JE, JF, JG]) | ((with_reducible (first | apply Ok.br | apply Ok.gd | apply Ok.ld)) <;> (intro g; (try simp only [ZGS] at g); try (exfalso; omega)))))
              exact Turn.next (M.length - (i + 1)) (by omega) ⟨rfl, i + 1, _, _, w, rfl, by omega, rfl, by rw [hn.out.1]; rfl, rfl, rfl, hx'.out, hn.out.2⟩
            | true =>
              have htt : mtB o c f t (s1, s2) x = true := by rw [hmt'.out, d0, hd'.out]; rfl
              have hq2 := hq1.out
              have ha2 := ha1.out
              rw [htt, if_pos rfl] at hq2 ha2
              obtain ⟨yy, hadd1, w2, g2, rfl, hx2, hrow2⟩ := hadd
              have hrow3 : Hid (RowAt g2 w2 (addsR [] (ordK o c f t (s1, s2) (M.take (i + 1))))) := ⟨by rw [ha2]; exact hrow2⟩
              have hbc3 := hx2.cells hbc2
              have hx3 := Hid.mk (hx'.out.trans hx2)
              simp only [In.key] at hadd1
              clear hq1 ha1 ha2 htt hno' hmt' hx2 hrow2 hrow' hx' hd'
              by_cases hs : sq < x.sq
              · rw [if_pos hs] at hq2
                have hq3 := Hid.mk hq2
                clear hq2
                (repeat' (first | (simp -implicitDefEqProofs (maxSteps := 1000000) (disch := first | assumption | omega | (simp only [ZDI]; omega)) only [*, lenV, G28, Za, Zb, Zc, Zd, Ze, Zf, Zg, Zh, Zi, Zj, Zk, Zl, Zm, Zn, Zo, Ja, Jb, Jc, J3, Jd, Je, J4, J5, Jf, Jg, Jh, Ji, Jj, Jk, J6, Jl, Jm, wr, Jn, J7, J8, Jo, Jp, Jq, Jr, Js, Jt, Ju, Jv, Jw, Jx, Jy, Jz, J0, J1, J2, reduceCtorEq, J9, JA, JB, JC, JD, JE, JF, JG]) | ((with_reducible (first | apply Ok.br | apply Ok.gd | apply Ok.ld)) <;> (intro g; (try simp only [ZGS] at g); try (exfalso; omega)))))
                exact Turn.next (M.length - (i + 1)) (by omega) ⟨rfl, i + 1, _, _, w2, rfl, by omega, rfl, by rw [hq3.out]; rfl, rfl, rfl, hx3.out, hrow3.out⟩
              · rw [if_neg hs] at hq2
                have hq3 := Hid.mk hq2
                clear hq2
                (repeat' (first | (simp -implicitDefEqProofs (maxSteps := 1000000) (disch := first | assumption | omega | (simp only [ZDI]; omega)) only [*, lenV, G28, Za, Zb, Zc, Zd, Ze, Zf, Zg, Zh, Zi, Zj, Zk, Zl, Zm, Zn, Zo, Ja, Jb, Jc, J3, Jd, Je, J4, J5, Jf, Jg, Jh, Ji, Jj, Jk, J6, Jl, Jm, wr, Jn, J7, J8, Jo, Jp, Jq, Jr, Js, Jt, Ju, Jv, Jw, Jx, Jy, Jz, J0, J1, J2, reduceCtorEq, J9, JA, JB, JC, JD, JE, JF, JG]) | ((with_reducible (first | apply Ok.br | apply Ok.gd | apply Ok.ld)) <;> (intro g; (try simp only [ZGS] at g); try (exfalso; omega)))))
                exact Turn.next (M.length - (i + 1)) (by omega) ⟨rfl, i + 1, _, _, w2, rfl, by omega, rfl, by rw [hq3.out]; rfl, rfl, rfl, hx3.out, hrow3.out⟩
    · have hlt' : ¬ (i : Int) < (M.length : Int) := by omega
      rw [List.take_of_length_le (by omega)] at hrow ⊢
      have hx' := Hid.mk hx
      have hrow' := Hid.mk hrow
      clear hx hrow
      (repeat' (first | (simp -implicitDefEqProofs (maxSteps := 1000000) (disch := first | assumption | omega | (simp only [ZDI]; omega)) only [*, lenV, G28, Za, Zb, Zc, Zd, Ze, Zf, Zg, Zh, Zi, Zj, Zk, Zl, Zm, Zn, Zo, Ja, Jb, Jc, J3, Jd, Je, J4, J5, Jf, Jg, Jh, Ji, Jj, Jk, J6, Jl, Jm, wr, Jn, J7, J8, Jo, Jp, Jq, Jr, Js, Jt, Ju, Jv, Jw, Jx, Jy, Jz, J0, J1, J2, reduceCtorEq, J9, JA, JB, JC, JD, JE, JF, JG]) | ((with_reducible (first | apply Ok.br | apply Ok.gd | apply Ok.ld)) <;> (intro g; (try simp only [ZGS] at g); try (exfalso; omega)))))
      exact Turn.exit ⟨rfl, rfl, _, _, w, rfl, rfl, rfl, hx'.out, hrow'.out⟩
  · intro y ⟨e', l', H'⟩ hW ⟨hy, w1, q1, w, h5, h6, k2, hx, hrow⟩
    dsimp only at hW h5 h6 k2 hx hrow
    subst l' hy
    rw [hW.spread]
    clear hW
    simp only [spread_t, spread_f, spread_n, Nat.zero_add, Nat.reduceAdd, h5, h6]
    have hbd2 := hbd'.out M.length
    rw [List.take_of_length_le (Nat.le_refl _)] at hbd2
    have hfin : Hid (Q (.tup [.int .i64 (ordQ o c f t (s1, s2) M + 1), w], H')) := ⟨hQ'.out _ ⟨w, H', rfl, hx, hrow⟩⟩
    obtain ⟨a2, cap2, z2, rfl, _⟩ := hrow
    clear hx hQ'
    (repeat' (first | (simp -implicitDefEqProofs (maxSteps := 1000000) (disch := first | assumption | omega | (simp only [ZDI]; omega)) only [*, G28, Za, Zb, Zc, Zd, Ze, Zf, Zg, Zh, Zi, Zj, Zk, Zl, Zm, Zn, Zo, Ja, Jb, Jc, J3, Jd, Je, J4, J5, Jf, Jg, Jh, Ji, Jj, Jk, J6, Jl, Jm, wr, Jn, J7, J8, Jo, Jp, Jq, Jr, Js, Jt, Ju, Jv, Jw, Jx, Jy, Jz, J0, J1, J2, reduceCtorEq, J9, JA, JB, JC, JD, JE, JF, JG]) | ((with_reducible (first | apply Ok.br | apply Ok.gd | apply Ok.ld)) <;> (intro g; (try simp only [ZGS] at g); try (exfalso; omega)))))
    exact hfin.out
end Go.Ev
set_option maxRecDepth 100000
namespace Go.Ev
open Go.Ev renaming exPure -> Ja, ofValue -> Jb, cellsV -> Jc, load -> Jd, store -> Je, binOp -> Jf, intOp -> Jg, rdV -> Jh, vsame -> Ji, vsames -> Jj, makeSliceV -> Jk, resV -> Jl, isCell -> Jm, nilCheckV -> Jn, allV -> Jo, builtinV -> Jp, lenV -> Jq, indexAddrV -> Jr, unOp -> Js, minmaxV -> Jt, minmax -> Ju, sliceV -> Jv, asInt -> Jw, appendV -> Jx, copyV -> Jy, clearV -> Jz, convV -> J0, sliceCells -> J1, shift -> J2
open Bool renaming true -> BT, false -> BF
open Nat renaming reduceEqDiff -> J3, reduceLT -> J4, reduceAdd -> J5, reduceBEq -> J6, reduceSub -> J7, reduceMul -> J8, reduceLeDiff -> JG
open Int renaming reduceLT -> J9, reduceLE -> JA, reduceAdd -> JB, reduceSub -> JC, reduceNeg -> JD, reduceToNat -> JE, reduceEq -> JF
open Go.Proofs
theorem key_inj : ∀ {L : List In}, (L.map In.key).Nodup -> ∀ x ∈ L, ∀ y ∈ L, x.key = y.key -> x = y
  | [], _, x, hx, _, _, _ => nomatch hx
  | z :: L, h, x, hx, y, hy, e => by
    rw [List.map_cons, List.nodup_cons] at h
    rcases List.mem_cons.1 hx with hx1 | hx <;> rcases List.mem_cons.1 hy with hy1 | hy
    · rw [hx1, hy1]
    · exact absurd (List.mem_map.2 ⟨y, hy, by rw [<- e, hx1]⟩) h.1
    · exact absurd (List.mem_map.2 ⟨x, hx, by rw [e, hy1]⟩) h.1
    · exact key_inj h.2 x hx y hy e
theorem SeqOf.back {H1 : Heap} {L S : List In} (hS : SeqOf H1 L S) (hn : (L.map In.key).Nodup) : ∀ y ∈ L, ∃ x ∈ S, x.core = y.core := by
  intro y hy
  have h1 : y.key ∈ S.map In.key := by rw [hS.keys, addsR_mem]; exact .inr (List.mem_map.2 ⟨y, hy, rfl⟩)
  obtain ⟨x, hx, e⟩ := List.mem_map.1 h1
  obtain ⟨z, hz, e2⟩ := hS.core x hx
  have e3 : z.key = y.key := by rw [<- e]; have := congrArg In.key e2; exact this
  rw [key_inj hn z hz y hy e3] at e2
  exact ⟨x, hx, e2.symm⟩
def SameC (S M : List In) : Prop := (∀ x ∈ S, ∃ y ∈ M, y.core = x.core) /\ ∀ y ∈ M, ∃ x ∈ S, x.core = y.core
theorem SameC.of {L M : List In} (h : L.map In.core = M.map In.core) : SameC L M := by
  refine ⟨fun x hx => ?_, fun y hy => ?_⟩
  · have : x.core ∈ L.map In.core := List.mem_map.2 ⟨x, hx, rfl⟩
    rw [h] at this
    exact List.mem_map.1 this
  · have : y.core ∈ M.map In.core := List.mem_map.2 ⟨y, hy, rfl⟩
    rw [<- h] at this
    exact List.mem_map.1 this
theorem SameC.trans {A B C : List In} (h : SameC A B) (k : SameC B C) : SameC A C := by
  refine ⟨fun x hx => ?_, fun z hz => ?_⟩
  · obtain ⟨y, hy, e⟩ := h.1 x hx
    obtain ⟨z, hz, e2⟩ := k.1 y hy
    exact ⟨z, hz, e2.trans e⟩
  · obtain ⟨y, hy, e⟩ := k.2 z hz
    obtain ⟨x, hx, e2⟩ := h.2 y hy
    exact ⟨x, hx, e2.trans e⟩
theorem SeqOf.same {H1 : Heap} {L S M : List In} (hS : SeqOf H1 L S) (hn : (L.map In.key).Nodup) (h : L.map In.core = M.map In.core) : SameC S M :=
  SameC.trans ⟨hS.core, hS.back hn⟩ (.of h)
theorem SameC.filt {S M : List In} (h : SameC S M) {β : Type} {P : In -> Bool} {g : In -> β} (hP : ∀ x, P x.core = P x) (hg : ∀ x, g x.core = g x) (k : β) : k ∈ (S.filter P).map g ↔ k ∈ (M.filter P).map g := by
  constructor
  · intro hk
    obtain ⟨x, hx, rfl⟩ := List.mem_map.1 hk
    obtain ⟨h1, h2⟩ := List.mem_filter.1 hx
    obtain ⟨y, hy, e⟩ := h.1 x h1
    exact List.mem_map.2 ⟨y, List.mem_filter.2 ⟨hy, by rw [<- hP, e, hP]; exact h2⟩, by rw [<- hg, e, hg]⟩
  · intro hk
    obtain ⟨x, hx, rfl⟩ := List.mem_map.1 hk
    obtain ⟨h1, h2⟩ := List.mem_filter.1 hx
    obtain ⟨y, hy, e⟩ := h.2 x h1
    exact List.mem_map.2 ⟨y, List.mem_filter.2 ⟨hy, by rw [<- hP, e, hP]; exact h2⟩, by rw [<- hg, e, hg]⟩
theorem ordQ_same {S M : List In} (h : SameC S M) (o c f t : Int) (self : RP) : ordQ o c f t self S = ordQ o c f t self M :=
  mxR_eq fun k => h.filt (P := mtB o c f t self) (g := fun x => ((1 : Int), x.sq)) (fun x => mtB_core o c f t self x) (fun _ => rfl) k
theorem ordK_same {H1 : Heap} {L S M : List In} (hS : SeqOf H1 L S) (h : SameC S M) (o c f t : Int) (self : RP) : ordK o c f t self S = addsR [] (ordK o c f t self M) := by
  refine strict_eq _ _ ?_ (addsR_strict _ _ List.Pairwise.nil) fun k => ?_
  · have h1 : Strict (S.map In.key) := by rw [hS.keys]; exact addsR_strict _ _ List.Pairwise.nil
    exact List.Pairwise.sublist (List.Sublist.map _ List.filter_sublist) h1
  · rw [addsR_mem]
    have := h.filt (P := mtB o c f t self) (g := In.key) (fun x => mtB_core o c f t self x) (fun _ => rfl) k
    unfold ordK ordS
    rw [this]
    simp
theorem mayB_sq {x : In} (h : mayB x = true) : x.sq <= 1099511627776 := by
  unfold mayB hdB at h
  simp only [Bool.and_eq_true, decide_eq_true_eq] at h
  exact h.1.2.2.2
set_option maxHeartbeats 4000000 in
theorem instsOrders_at {h : Heap} {v0 : V} {l : List In} (hr : InsAt h v0 l) (o c q f t : Int) (v : V) (a1 a2 : Int) : Ev.Ok (D X (.fn 5 []) [v0, .agg [.int .i64 o, .int .i64 c, .int .i64 q, .int .i64 f, .int .i64 t, v], .agg [.int .i64 a1, .int .i64 a2]] h) fun r => r.1 = .bool true := by
  refine Ok.aim fun Q hQ => ?_
  have hQ' := Hid.mk hQ
  clear hQ
  have hlv := D_pin (X := X) (f := 13) (b := true) rfl
  obtain ⟨yy, hplay, b, m, w, g, L, M, rfl, hp, hM⟩ := play_at hr
  obtain ⟨a0, cap0, z0', e0⟩ := hr.sl
  subst e0
  clear hr
  have hqM : ∀ x ∈ M, x.sq <= 1099511627776 := fun x hx => mayB_sq (hp.may x hx)
  have hqL : ∀ x ∈ L, x.sq <= 1099511627776 := by
    intro x hx
    obtain ⟨y, hy, e⟩ := (SameC.of hp.same).1 x hx
    have e : y.sq = x.sq := by have := congrArg In.sq e; exact this
    have := hqM y hy
    omega
  obtain ⟨yy2, hord, S, H1, w1, g1, rfl, hS, hk, hrow⟩ := order_at hp.tab (by rw [core_len hp.same]; omega) hqL o c q f t v (a1, a2)
  obtain ⟨yy3, hord2, w2, g2, rfl, hx2, hrow2⟩ := rOrder_at (hp.row.keep hk) hM hqM o c q f t v (a1, a2)
  have hsm := hS.same hp.tab.keys hp.same
  have hsame := sameRefs_at (hrow.ext hx2) hrow2
  rw [ordK_same hS hsm, decide_eq_true rfl] at hsame
  rw [ordQ_same hsm] at hord
  obtain ⟨x1, x2, x3, e1⟩ := hp.row.sl
  subst e1
  obtain ⟨y1, y2, y3, rfl, _⟩ := hrow
  obtain ⟨z1, z2, z3, rfl, _⟩ := hrow2
  clear hp hqM hqL hS hsm hk hx2
  generalize ordQ o c f t (a1, a2) M = n at *
  dsimp only at *
  (refine Ok.body body5 pin5 ?_; simp only [c5, Try.f5, Option.getD_some, nslot5, List.append_nil, List.map, List.replicate, List.length_cons, List.length_nil, Nat.reduceAdd, Nat.reduceSub, List.cons_append, List.nil_append])
  (repeat' (first | (simp -implicitDefEqProofs (maxSteps := 1000000) (disch := first | assumption | omega | (simp only [ZDI]; omega)) only [*, lenV, eq_self, G5, Za, Zb, Zc, Zd, Ze, Zf, Zg, Zh, Zi, Zj, Zk, Zl, Zm, Zn, Zo, Ja, Jb, Jc, J3, Jd, Je, J4, J5, Jf, Jg, Jh, Ji, Jj, Jk, J6, Jl, Jm, wr, Jn, J7, J8, Jo, Jp, Jq, Jr, Js, Jt, Ju, Jv, Jw, Jx, Jy, Jz, J0, J1, J2, reduceCtorEq, J9, JA, JB, JC, JD, JE, JF, JG]) | ((with_reducible (first | apply Ok.br | apply Ok.gd | apply Ok.ld)) <;> (intro g; (try simp only [ZGS] at g); try (exfalso; omega)))))
  exact hQ'.out _ rfl
end Go.Ev
set_option maxRecDepth 100000
namespace Go.Ev
open Go.Proofs
section
variable {T : TypeId -> TI} {h : Heap} {d : Nat} {t u w : TypeId} {xss : List (List V)}
theorem FitsAll.one (hf : FitsAll T h d [t] xss) : ∃ x, xss = [x] /\ Fits T h d t x := by
  match xss, hf with
  | [x], hf => exact ⟨x, rfl, hf.1⟩
theorem FitsAll.two (hf : FitsAll T h d [t, u] xss) : ∃ x y, xss = [x, y] /\ Fits T h d t x /\ Fits T h d u y := by
  match xss, hf with
  | [x, y], hf => exact ⟨x, y, rfl, hf.1, hf.2.1⟩
theorem FitsAll.three (hf : FitsAll T h d [t, u, w] xss) : ∃ x y z, xss = [x, y, z] /\ Fits T h d t x /\ Fits T h d u y /\ Fits T h d w z := by
  match xss, hf with
  | [x, y, z], hf => exact ⟨x, y, z, rfl, hf.1, hf.2.1, hf.2.2.1⟩
end
theorem Strs.at' {h : Heap} {v : V} {l : List ByteArray} (hs : Strs h v l) : StrsAt h v l := hs.at
theorem fits_bool {h : Heap} {d : Nat} {cs : List V} (hf : Fits X.ty h (d + 1) 4 cs) : ∃ b, cs = [.bool b] := by
  unfold Fits at hf
  rw [ty4] at hf
  exact hf
theorem fits_ref {h : Heap} {d : Nat} {cs : List V} (hf : Fits X.ty h (d + 2) 23 cs) : ∃ a b, cs = [.int .i64 a, .int .i64 b] /\ In64 a /\ In64 b := by
  unfold Fits at hf
  rw [ty23] at hf
  obtain ⟨hl, hf⟩ := hf
  match cs, hl with
  | [c0, c1], _ =>
    obtain ⟨a, h0, i0⟩ := fits_int (hf (0, 3) (by simp))
    obtain ⟨b, h1, i1⟩ := fits_int (hf (1, 3) (by simp))
    simp [ty3] at h0 h1
    subst h0 h1
    exact ⟨a, b, rfl, i0, i1⟩
theorem fits_refs {h : Heap} {d : Nat} {cs : List V} (hf : Fits X.ty h (d + 3) 29 cs) : ∃ v L, cs = [v] /\ RowAt h v L := by
  unfold Fits at hf
  rw [ty29] at hf
  have hmax : maxLen = 9223372036854775807 := by decide
  rw [hmax] at hf
  rcases hf with rfl | rfl | ⟨b, len, cap, full, rfl, h1, h2, h3, h4, h5, h6⟩
  · exact ⟨_, [], rfl, .nil, 0, 0, rfl, by simp, by decide, .inl rfl⟩
  · exact ⟨_, [], rfl, .any, 0, 1, rfl, by simp, by decide, .inl rfl⟩
  · have hsz : (X.ty 23).size = 2 := by rw [ty23]
    rw [hsz] at h5 h6
    have hx : ∀ i, ∃ x : RP, i < cap -> (full.drop (i * 2)).take 2 = [.int .i64 x.1, .int .i64 x.2] := by
      intro i
      by_cases hi : i < cap
      · obtain ⟨a, b, e, _, _⟩ := fits_ref (h6 i hi)
        exact ⟨(a, b), fun _ => e⟩
      · exact ⟨(0, 0), fun h' => absurd h' hi⟩
    obtain ⟨g, hg⟩ := Classical.axiomOfChoice hx
    have hlen : ((List.range len).map g).length = len := by rw [List.length_map, List.length_range]
    refine ⟨_, (List.range len).map g, rfl, .at b 0 0, cap, 0, by rw [hlen], by rw [hlen]; omega, by omega, .inr ⟨b, 0, 0, false, full, rfl, ?_, ?_, ?_⟩⟩
    · unfold hcells; rw [h4]; exact grd_t rfl _
    · intro i x hi
      rw [List.getElem?_map] at hi
      cases hr : (List.range len)[i]? with
      | none => rw [hr] at hi; cases hi
      | some j =>
        rw [hr] at hi
        have hj : i < len := by have := (List.getElem?_eq_some_iff.1 hr).1; simpa using this
        have : j = i := by rw [List.getElem?_range hj] at hr; exact (Option.some.inj hr).symm
        subst this
        simp only [Option.map_some, Option.some.injEq] at hi
        subst hi
        rw [Nat.zero_add]
        exact hg j (by omega)
    · rw [hlen, h5, Nat.zero_add]
      exact Nat.mul_le_mul_right 2 (by omega)
theorem fits_ballot {h : Heap} {d : Nat} {cs : List V} (hf : Fits X.ty h (d + 2) 25 cs) : ∃ a b, cs = [.int .i64 a, .int .i64 b] /\ In64 a /\ In64 b := by
  unfold Fits at hf
  rw [ty25] at hf
  obtain ⟨hl, hf⟩ := hf
  match cs, hl with
  | [c0, c1], _ =>
    obtain ⟨a, h0, i0⟩ := fits_int (hf (0, 3) (by simp))
    obtain ⟨b, h1, i1⟩ := fits_int (hf (1, 3) (by simp))
    simp [ty3] at h0 h1
    subst h0 h1
    exact ⟨a, b, rfl, i0, i1⟩
def In.Ok (x : In) : Prop := In64 x.l /\ In64 x.i /\ In64 x.bn /\ In64 x.bd /\ In64 x.vn /\ In64 x.vd /\ In64 x.st /\ In64 x.sq /\ In64 x.o /\ In64 x.c /\ In64 x.q /\ In64 x.f /\ In64 x.t
theorem fits_inst {h : Heap} {d : Nat} {cs : List V} (hf : Fits X.ty h (d + 4) 31 cs) : ∃ x : In, cs = inV x /\ InAt h x /\ x.Ok := by
  unfold Fits at hf
  rw [ty31] at hf
  obtain ⟨hl, hf⟩ := hf
  match cs, hl with
  | [c0, c1, c2, c3, c4, c5, c6, c7, c8, c9, c10, c11, c12, c13, c14, c15], _ =>
    obtain ⟨l, i, h0, i0, i1⟩ := fits_ref (hf (0, 23) (by simp))
    obtain ⟨bn, bd, h1, i2, i3⟩ := fits_ballot (hf (2, 25) (by simp))
    obtain ⟨vn, vd, h2, i4, i5⟩ := fits_ballot (hf (4, 25) (by simp))
    obtain ⟨st, h3, i6⟩ := fits_int (hf (6, 3) (by simp))
    obtain ⟨sm, h4⟩ := fits_bool (hf (7, 4) (by simp))
    obtain ⟨o, c, q, f, t, dv, dl, h5, j0, j1, j2, j3, j4, j5⟩ := fits_cmd (hf (8, 28) (by simp))
    obtain ⟨sq, h6, i7⟩ := fits_int (hf (14, 3) (by simp))
    obtain ⟨pv, pl, h7, i8⟩ := fits_refs (hf (15, 29) (by simp))
    simp [ty23] at h0
    simp [ty25] at h1 h2
    simp [ty3] at h3 h6
    simp [ty4] at h4
    simp [ty28] at h5
    simp [ty29] at h7
    obtain ⟨rfl, rfl⟩ := h0
    obtain ⟨rfl, rfl⟩ := h1
    obtain ⟨rfl, rfl⟩ := h2
    obtain ⟨rfl, rfl, rfl, rfl, rfl, rfl⟩ := h5
    subst h3 h4 h6 h7
    exact ⟨⟨l, i, bn, bd, vn, vd, st, sm, o, c, q, f, t, _, dl, sq, _, pl⟩, rfl, ⟨j5.at, i8⟩, i0, i1, i2, i3, i4, i5, i6, i7, j0, j1, j2, j3, j4⟩
end Go.Ev
set_option maxRecDepth 100000
namespace Go.Ev
open Go.Proofs
theorem fits_insts {h : Heap} {d : Nat} {cs : List V} (hf : Fits X.ty h (d + 5) 39 cs) : ∃ v L, cs = [v] /\ InsAt h v L /\ ∀ x ∈ L, x.Ok := by
  unfold Fits at hf
  rw [ty39] at hf
  have hmax : maxLen = 9223372036854775807 := by decide
  rw [hmax] at hf
  rcases hf with rfl | rfl | ⟨b, len, cap, full, rfl, h1, h2, h3, h4, h5, h6⟩
  · exact ⟨_, [], rfl, ⟨.nil, 0, 0, rfl, by decide, (fun x hx => nomatch hx), .inl rfl⟩, fun x hx => nomatch hx⟩
  · exact ⟨_, [], rfl, ⟨.any, 0, 1, rfl, by decide, (fun x hx => nomatch hx), .inl rfl⟩, fun x hx => nomatch hx⟩
  · have hsz : (X.ty 31).size = 16 := by rw [ty31]
    rw [hsz] at h5 h6
    have hx : ∀ i, ∃ x : In, i < cap -> (full.drop (i * 16)).take 16 = inV x /\ InAt h x /\ x.Ok := by
      intro i
      by_cases hi : i < cap
      · obtain ⟨x, e, k, o⟩ := fits_inst (h6 i hi)
        exact ⟨x, fun _ => ⟨e, k, o⟩⟩
      · exact ⟨z0, fun h' => absurd h' hi⟩
    obtain ⟨g, hg⟩ := Classical.axiomOfChoice hx
    have hlen : ((List.range len).map g).length = len := by rw [List.length_map, List.length_range]
    have hall : ∀ x ∈ (List.range len).map g, InAt h x /\ x.Ok := fun x hm => by
      obtain ⟨i, hi, rfl⟩ := List.mem_map.1 hm
      have := List.mem_range.1 hi
      exact (hg i (by omega)).2
    refine ⟨_, (List.range len).map g, rfl, ⟨.at b 0 0, cap, 0, by rw [hlen], by rw [hlen]; omega, fun x hm => (hall x hm).1, .inr ⟨b, 0, 0, false, full, rfl, ?_, ?_, ?_⟩⟩, fun x hm => (hall x hm).2⟩
    · unfold hcells; rw [h4]; exact grd_t rfl _
    · intro i x hi
      rw [List.getElem?_map] at hi
      cases hr : (List.range len)[i]? with
      | none => rw [hr] at hi; cases hi
      | some j =>
        rw [hr] at hi
        have hj : i < len := by have := (List.getElem?_eq_some_iff.1 hr).1; simpa using this
        have : j = i := by rw [List.getElem?_range hj] at hr; exact (Option.some.inj hr).symm
        subst this
        simp only [Option.map_some, Option.some.injEq] at hi
        subst hi
        rw [Nat.zero_add]
        exact (hg j (by omega)).1
    · rw [hlen, h5, Nat.zero_add]
      exact Nat.mul_le_mul_right 16 (by omega)
end Go.Ev
