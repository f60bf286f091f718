/-
Texts of this claim, one behind the other.
-/
import Derived.Test.YtidlajmifppcnaaAe
import Derived.KernelRfl
set_option linter.unusedSimpArgs false
set_option linter.unusedVariables false
set_option maxRecDepth 100000
set_option maxRecDepth 100000
namespace Go.Ev.Q
open Go.Ev renaming exPure -> Ja, ofValue -> Jb, cellsV -> Jc, load -> Jd, store -> Je, binOp -> Jf, intOp -> Jg, rdV -> Jh, vsame -> Ji, vsames -> Jj, makeSliceV -> Jk, resV -> Jl, isCell -> Jm, nilCheckV -> Jn, allV -> Jo, builtinV -> Jp, lenV -> Jq, indexAddrV -> Jr, unOp -> Js, minmaxV -> Jt, minmax -> Ju, sliceV -> Jv, asInt -> Jw, appendV -> Jx, copyV -> Jy, clearV -> Jz, convV -> J0, sliceCells -> J1, shift -> J2
open Bool renaming true -> BT, false -> BF
open Nat renaming reduceEqDiff -> J3, reduceLT -> J4, reduceAdd -> J5, reduceBEq -> J6, reduceSub -> J7, reduceMul -> J8, reduceLeDiff -> JG
open Int renaming reduceLT -> J9, reduceLE -> JA, reduceAdd -> JB, reduceSub -> JC, reduceNeg -> JD, reduceToNat -> JE, reduceEq -> JF
open Go.Proofs
theorem clone_nil (h : Heap) : D X (.fn 35 []) [.nilp] h = some (.nilp, h) := by
  refine Ok.eq ?_
  (refine Ok.body body35 pin35 ?_; simp only [c35,Try.f35,Option.getD_some,nslot35,List.append_nil,List.map,List.replicate,List.length_cons,List.length_nil,Nat.reduceAdd,Nat.reduceSub,List.cons_append,List.nil_append])
  (repeat' (first | (simp -implicitDefEqProofs (maxSteps := 1000000) (disch := first | assumption | omega | (simp only [ZDI]; omega)) only [*,G35,Za,Zb,Zc,Zd,Ze,Zf,Zg,Zh,Zi,Zj,Zk,Zl,Zm,Zn,Zo,Ja,Jb,Jc,J3,Jd,Je,J4,J5,Jf,Jg,Jh,Ji,Jj,Jk,J6,Jl,Jm,wr,Jn,J7,J8,Jo,Jp,Jq,Jr,Js,Jt,Ju,Jv,Jw,Jx,Jy,Jz,J0,J1,J2,reduceCtorEq,J9,JA,JB,JC,JD,JE,JF,JG]) | ((with_reducible (first | apply Ok.br | apply Ok.gd | apply Ok.ld)) <;> (intro g; (try simp only [ZGS] at g); try (exfalso; omega)))))
set_option maxHeartbeats 4000000 in
theorem clonePin : @PinOk (goodOf X0) Try.prog 35 (.s cloneG) := by
  intro K w args h v h' hrun hm
  have hrun' : cloneG args h = some (v, h') := hrun
  clear hrun
  rcases cloneG_some hrun' with ⟨rfl, rfl, rfl⟩ | ⟨b, g, o, m, es, ec, bc, ks, rfl, hq, hks, hec, rfl, rfl⟩
  · exact fit0.specD _ _ _ _ _ (clone_nil _) K w hm
  · clear hrun'
    obtain ⟨rw0, cs, ex, c, hbc, hco, hmap⟩ := mapAtV_some hq
    dsimp only at hco hmap
    clear hq
    have hco' : o < cs.length := (List.getElem?_eq_some_iff.1 hco).1
    have hml := (List.getElem?_eq_some_iff.1 hmap).1
    have hbl := hcells_lt hbc
    have hb := body35
    simp only [c35,Try.f35,Option.getD_some] at hb
    refine mapFun_run (pre4 := [_, _, _, _]) (tail6 := [_, _, _, _, _, _]) (tm := 82) (km := 23) (em := 31) (nsl := 2) fit0 hb rfl rfl (by kernel_rfl) rfl rfl rfl rfl (by decide) rfl hm hmap ?_
    simp only [List.map,List.replicate,List.length_cons,List.length_nil,Nat.reduceAdd,Nat.reduceSub,List.cons_append,List.nil_append]
    have hmb : ¬ m = b := by
      rintro rfl
      unfold hcells at hbc
      rw [hmap] at hbc
      cases hbc
    have hm2 := Hid.mk hm
    have hm1 : ∀ x, (h ++ x)[m]? = some (.map ex es c) := fun x => by rw [List.getElem?_append_left hml]; exact hmap
    have hb1 : ∀ x, hcells (h ++ x) b g = some (rw0, cs) := fun x => by rw [hcells_app hbl]; exact hbc
    have hec2 := Hid.mk hec
    have hks2 := Hid.mk hks
    have hbc2 := Hid.mk hbc
    have hmap2 := Hid.mk hmap
    clear hb hm hec hbc hmap hbl hks
    have hnew := new_at h
    (repeat' (first | (simp -implicitDefEqProofs (maxSteps := 1000000) (disch := first | assumption | omega | (simp only [ZDI]; omega)) only [*,lenV,G35,Za,Zb,Zc,Zd,Ze,Zf,Zg,Zh,Zi,Zj,Zk,Zl,Zm,Zn,Zo,Ja,Jb,Jc,J3,Jd,Je,J4,J5,Jf,Jg,Jh,Ji,Jj,Jk,J6,Jl,Jm,wr,Jn,J7,J8,Jo,Jp,Jq,Jr,Js,Jt,Ju,Jv,Jw,Jx,Jy,Jz,J0,J1,J2,reduceCtorEq,J9,JA,JB,JC,JD,JE,JF,JG]) | ((with_reducible (first | apply Ok.br | apply Ok.gd | apply Ok.ld)) <;> (intro g; (try simp only [ZGS] at g); try (exfalso; omega)))))
    intro r es' c' s5 hs5 hp hex hkn hbn
    clear hnew hm1 hb1
    obtain ⟨ks', hks', hkp⟩ := keysM_perm hp hks2.out
    clear hkp
    have hks3 := Hid.mk hks'
    clear hks'
    have hex' := Hid.mk hex
    have hp' := Hid.mk hp
    have hkn' := Hid.mk hkn
    clear hex hp hkn hbn
    obtain ⟨h1, hh1⟩ : ∃ h1, h1 = h.set m (.map true es' c') := ⟨_, rfl⟩
    have hl1 : h1.length = h.length := by rw [hh1]; simp
    have hm1 : ∀ x, (h1 ++ x)[m]? = some (.map true es' c') := fun x => by rw [List.getElem?_append_left (by omega), hh1, List.getElem?_set_self hml]
    rw [<- hh1] at hs5
    obtain ⟨e5, l5, H5⟩ := s5
    simp only [St.mk.injEq] at hs5
    obtain ⟨he5, rfl, rfl⟩ := hs5
    have hh1' := Hid.mk hh1
    obtain ⟨N, hN⟩ : ∃ N, h.length = N := ⟨_, rfl⟩
    have hlN : h1.length = N := by omega
    have hN' := Hid.mk hN
    have hcell : ∀ b g p, hcells h b g = some p -> ∀ x, hcells (h1 ++ x) b g = some p := fun b g p hb x => by
      have hbl := hcells_lt hb
      rw [hcells_app (by omega), hh1]
      unfold hcells at hb ⊢
      have hne : m ≠ b := by
        rintro rfl
        rw [hmap2.out] at hb; cases hb
      rw [List.getElem?_set_ne hne]
      exact hb
    have hcell' := Hid.mk hcell
    clear hh1 hl1 hcell
    simp only [hN] at he5 ⊢
    refine ⟨fun dn s => ∃ (kd : List RP) (md mm : List ME) (bd : List Blk) (v0 v1 clk : Nat) (c0 c1 : List V), keysM dn = some kd /\ dn.Nodup /\ (∀ x ∈ dn, x ∈ es') /\ ownsG h (N + 2) dn = some (md, bd) /\ mm.map unborn = md.map unborn /\ OutW [BF, BF, BF, BF, BT, BT, BF, BF, BF, BF, BF, BF, BF, BF, BT, BT, BT, BT, BT, BT, BT, BT, BT, BT, BT, BT, BF] e5 s.e /\
        s.l = [(v0, c0), (v1, c1)] /\ s.h = h1 ++ .map true mm clk :: .cells 0 true [.map N] :: bd,
      fun s => ∃ (dn md mm : List ME) (bd : List Blk) (v0 v1 clk : Nat) (c0 c1 : List V), dn.Perm es' /\ ownsG h (N + 2) dn = some (md, bd) /\ mm.map unborn = md.map unborn /\ OutW [BF, BF, BF, BF, BT, BT, BF, BF, BF, BF, BF, BF, BF, BF, BT, BT, BT, BT, BT, BT, BT, BT, BT, BT, BT, BT, BF] e5 s.e /\
        s.l = [(v0, c0), (v1, c1)] /\ s.h = h1 ++ .map true mm clk :: .cells 0 true [.map N] :: bd, ?a1, ?a2, ?a3, ?a4, ?a5⟩
    case a1 => exact ⟨[], [], [], [], 0, 0, 0, [], [], rfl, List.nodup_nil, (fun x hx => nomatch hx), rfl, rfl, by rw [he5]; rfl, rfl, rfl⟩
    case a2 =>
      intro dn ⟨e, l, H⟩ ⟨kd, md, mm, bd, v0, v1, clk, c0, c1, _, _, _, _, _, hW, _, hH⟩
      dsimp only at hW hH
      subst H
      have hW2 := hW.spread
      rw [he5] at hW2
      rw [hW2]
      simp only [spread_t,spread_f,spread_n,Nat.zero_add,Nat.reduceAdd]
      exact ⟨rfl, hm1 _⟩
    case a3 =>
      intro dn ⟨e, l, H⟩ ⟨kd, md, mm, bd, v0, v1, clk, c0, c1, hkd, hnd, hsub, hod, hmm, hW, hl, hH⟩ hperm
      dsimp only at hW hH hl
      subst H l
      have hW2 := hW.spread
      rw [he5] at hW2
      rw [hW2]
      simp only [spread_t,spread_f,spread_n,Nat.zero_add,Nat.reduceAdd]
      have g1 := Hid.mk hod
      have g2 := Hid.mk hmm
      have g3 := Hid.mk hperm
      clear hod hmm hperm hsub hnd hkd hW hW2
      (repeat' (first | (simp -implicitDefEqProofs (maxSteps := 1000000) (disch := first | assumption | omega | (simp only [ZDI]; omega)) only [*,G35,Za,Zb,Zc,Zd,Ze,Zf,Zg,Zh,Zi,Zj,Zk,Zl,Zm,Zn,Zo,Ja,Jb,Jc,J3,Jd,Je,J4,J5,Jf,Jg,Jh,Ji,Jj,Jk,J6,Jl,Jm,wr,Jn,J7,J8,Jo,Jp,Jq,Jr,Js,Jt,Ju,Jv,Jw,Jx,Jy,Jz,J0,J1,J2,reduceCtorEq,J9,JA,JB,JC,JD,JE,JF,JG]) | ((with_reducible (first | apply Ok.br | apply Ok.gd | apply Ok.ld)) <;> (intro g; (try simp only [ZGS] at g); try (exfalso; omega)))))
      exact ⟨dn, md, mm, bd, v0, v1, clk, c0, c1, g3.out, g1.out, g2.out, rfl, rfl, rfl⟩
    case a4 =>
      intro dn ⟨e, l, H⟩ ⟨k0, vv, j0⟩ ⟨kd, md, mm, bd, v0, v1, clk, c0, c1, hkd, hnd, hsub, hod, hmm, hW, hl, hH⟩ he hne
      dsimp only at hW hH hl
      subst H l
      have hW2 := hW.spread
      rw [he5] at hW2
      rw [hW2]
      simp only [spread_t,spread_f,spread_n,Nat.zero_add,Nat.reduceAdd]
      obtain ⟨⟨x1, x2⟩, hkx⟩ := keysM_get hks3.out _ he
      have hsn := keysM_snoc hkx hkd
      obtain rfl := keyP_some hkx
      have hxk : (x1, x2) ∉ kd := fun hx => by
        obtain ⟨e2, he2, hk2⟩ := keysM_mem hkd hx
        have := nodup_map_inj hkn'.out e2 (hsub e2 he2) _ he hk2
        exact hne (this ▸ he2)
      have hmk : keysM mm = some kd := keysM_keys (unborn_keys hmm) (keysM_keys (ownsG_keys hod) hkd)
      have hput : putM (V.agg [.int .i64 x1, .int .i64 x2]) vv mm clk = (mm ++ [(V.agg [.int .i64 x1, .int .i64 x2], vv, clk)], clk + 1) := putM_new (x := (x1, x2)) hmk hxk
      have hput2 : ∀ v : V, putM (V.agg [.int .i64 x1, .int .i64 x2]) v mm clk = (mm ++ [(V.agg [.int .i64 x1, .int .i64 x2], v, clk)], clk + 1) := fun v => putM_new (x := (x1, x2)) hmk hxk
      have hkok : keyOk X.ty 23 (V.agg [.int .i64 x1, .int .i64 x2]) mm = true := keyOk_ref (x1, x2) hmk
      obtain ⟨nx', r', hr'⟩ := ownsG_get hec2.out (V.agg [.int .i64 x1, .int .i64 x2], vv) (hp'.out.mem_iff.1 (List.mem_map.2 ⟨_, he, rfl⟩))
      obtain ⟨v', ho, _⟩ := ownG_nx (v' := r'.1) (bl := r'.2) hr' (N + 2 + bd.length)
      obtain ⟨b1, hb1⟩ : ∃ b1, r'.2 = b1 := ⟨_, rfl⟩
      rw [hb1] at ho
      clear hput hr' hb1
      have hnd2 : (dn ++ [((V.agg [.int .i64 x1, .int .i64 x2], vv, j0) : ME)]).Nodup := List.nodup_append.2 ⟨hnd, by simp, fun a ha b hb => by rw [List.mem_singleton.1 hb]; rintro rfl; exact hne ha⟩
      have hsub2 : ∀ x ∈ dn ++ [((V.agg [.int .i64 x1, .int .i64 x2], vv, j0) : ME)], x ∈ es' := fun x hx => by
        rcases List.mem_append.1 hx with hx | hx
        · exact hsub x hx
        · rw [List.mem_singleton.1 hx]; exact he
      have hod2 : ownsG h (N + 2) (dn ++ [((V.agg [.int .i64 x1, .int .i64 x2], vv, j0) : ME)]) = some (md ++ [(V.agg [.int .i64 x1, .int .i64 x2], v', 0)], bd ++ b1) := ownsG_snoc hod ho
      have hmm2 : (mm ++ [((V.agg [.int .i64 x1, .int .i64 x2], v', clk) : ME)]).map unborn = (md ++ [((V.agg [.int .i64 x1, .int .i64 x2], v', 0) : ME)]).map unborn := by
        rw [List.map_append, List.map_append, hmm]; rfl
      have hHl : (h1 ++ Blk.map true mm clk :: .cells 0 true [.map N] :: bd).length = N + 2 + bd.length := by simp only [List.length_append,List.length_cons,hlN]; omega
      have ho2 : ownG (h1 ++ Blk.map true mm clk :: .cells 0 true [.map N] :: bd) (h1 ++ Blk.map true mm clk :: .cells 0 true [.map N] :: bd).length vv = some (v', b1) := by
        rw [hHl]
        exact ownG_ext ho fun b g p hb => hcell'.out b g p hb _
      obtain ⟨cc, _, _, _, _, _, _, rfl, h16, h17⟩ := ownG_cases ho2
      clear h17
      match cc, h16 with
      | [c0, c1, c2, c3, c4, c5, c6, c7, c8, c9, c10, c11, c12, c13, c14, c15], _ =>
      have hown := own_at ho2
      have hmN : ∀ y, (h1 ++ Blk.map true mm clk :: y)[N]? = some (.map true mm clk) := fun y => by rw [List.getElem?_append_right (by omega), hlN, Nat.sub_self]; rfl
      have hcN : ∀ x y, hcells (h1 ++ x :: Blk.cells 0 true [.map N] :: y) (N + 1) 0 = some (true, [.map N]) := fun x y => by
        rw [hcells_ge (by omega), hlN, Nat.add_sub_cancel_left]; rfl
      have hset : ∀ (x : Blk) (y : List Blk) (x' : Blk), (h1 ++ x :: y).set N x' = h1 ++ x' :: y := fun x y x' => by
        rw [heap_set_ge (by omega), hlN, Nat.sub_self]; rfl
      have g1 := Hid.mk hnd2
      have g2 := Hid.mk hsub2
      have g3 := Hid.mk hsn
      have g4 := Hid.mk hod2
      have g5 := Hid.mk hmm2
      clear hnd2 hsub2 hsn hod2 hmm2 hod hmm hkd hnd hsub hW hW2 he hne ho ho2 hxk hkx hmk hHl
      (repeat' (first | (simp -implicitDefEqProofs (maxSteps := 1000000) (disch := first | assumption | omega | (simp only [ZDI]; omega)) only [*,updateV,List.append_assoc,exOp_mapUpdate,G35,Za,Zb,Zc,Zd,Ze,Zf,Zg,Zh,Zi,Zj,Zk,Zl,Zm,Zn,Zo,Ja,Jb,Jc,J3,Jd,Je,J4,J5,Jf,Jg,Jh,Ji,Jj,Jk,J6,Jl,Jm,wr,Jn,J7,J8,Jo,Jp,Jq,Jr,Js,Jt,Ju,Jv,Jw,Jx,Jy,Jz,J0,J1,J2,reduceCtorEq,J9,JA,JB,JC,JD,JE,JF,JG]) | ((with_reducible (first | apply Ok.br | apply Ok.gd | apply Ok.ld)) <;> (intro g; (try simp only [ZGS] at g); try (exfalso; omega)))))
      exact ⟨kd ++ [(x1, x2)], md ++ [(V.agg [.int .i64 x1, .int .i64 x2], v', 0)], mm ++ [(V.agg [.int .i64 x1, .int .i64 x2], v', clk)], bd ++ b1, v0 + 1, v1 + 1, clk + 1, _, _, g3.out, g1.out, g2.out, g4.out, g5.out, rfl, rfl, rfl⟩
    case a5 =>
      intro ⟨e, l, H⟩ ⟨dn, md, mm, bd, v0, v1, clk, c0, c1, hperm, hod, hmm, hW, hl, hH⟩
      dsimp only at hW hH hl
      subst H l
      have hW2 := hW.spread
      rw [he5] at hW2
      rw [hW2]
      simp only [spread_t,spread_f,spread_n,Nat.zero_add,Nat.reduceAdd]
      clear hW hW2 he5
      letI := goodOf X0
      have htold := fun (e : List TV) (l : Locs) hr => clone_told (X := X) (rs := [.tmp 2]) (e := e) (l := l) (clk := clk) hm2.out hmap2.out hp'.out hex'.out hperm hkn'.out hec2.out (by rw [hN]; exact hod) hmm hr
      simp only [hN,<- hh1'.out] at htold
      have htold' := Hid.mk htold
      clear htold hperm hod hmm
      (repeat' (first | (simp -implicitDefEqProofs (maxSteps := 1000000) (disch := first | assumption | omega | (simp only [ZDI]; omega)) only [*,G35,Za,Zb,Zc,Zd,Ze,Zf,Zg,Zh,Zi,Zj,Zk,Zl,Zm,Zn,Zo,Ja,Jb,Jc,J3,Jd,Je,J4,J5,Jf,Jg,Jh,Ji,Jj,Jk,J6,Jl,Jm,wr,Jn,J7,J8,Jo,Jp,Jq,Jr,Js,Jt,Ju,Jv,Jw,Jx,Jy,Jz,J0,J1,J2,reduceCtorEq,J9,JA,JB,JC,JD,JE,JF,JG]) | ((with_reducible (first | apply Ok.br | apply Ok.gd | apply Ok.ld)) <;> (intro g; (try simp only [ZGS] at g); try (exfalso; omega)))))
      exact htold'.out _ _ rfl
end Go.Ev.Q
namespace Go.Ev
open Go.Proofs
def pin1 : FuncId -> Option Pin := fun f => if f = 54 then some (.s refsG) else if f = 35 then some (.s cloneG) else none
noncomputable def X1 : Env := X0.pins pin1
theorem fit1 : Fit Try.prog X1 := by
  refine fit0.pinsFit fun f p h => ?_
  unfold pin1 at h
  split at h
  · rename_i hf; subst hf; cases h; exact Q.refsPin
  · split at h
    · rename_i hf; subst hf; cases h; exact Q.clonePin
    · cases h
theorem livesRun : ((callN X1 60 (.fn 13 []) [] []).map fun r => match r.1 with | .bool b => some b | _ => none) = some (some true) := by decide +kernel
theorem livesBody : (bodyOf Try.prog 13).isSome = true := by decide +kernel
noncomputable def X : Env := X0.pins fun f => if f = 54 then some (.s refsG) else if f = 35 then some (.s cloneG) else if f = 13 then some (.b true) else none
theorem fit : Fit Try.prog X := by
  refine fit0.pinsFit fun f p h => ?_
  split at h
  · rename_i hf; subst hf; cases h; exact Q.refsPin
  · split at h
    · rename_i hf; subst hf; cases h; exact Q.clonePin
    · split at h
      · rename_i hf
        subst hf
        cases h
        have := @pinOk_bool (goodOf X1) _ fit1.funcsOk _ _ livesBody fun w => fit1.closed livesRun w
        rw [show goodOf X1 = goodOf X0 from goodOf_pins X0 pin1] at this
        exact this
      · cases h
end Go.Ev
namespace Go.Ev
open Go.Proofs
noncomputable def c2 : Code := (Try.f2.body).getD .skip
noncomputable def c3 : Code := (Try.f3.body).getD .skip
theorem slot3 : X.slot 3 = fun t => posT [2, 3] t 0 := rfl
theorem plan3_3 : X.plan 3 3 = [(0, [0], []), (2, [0], []), (1, [], [(2, [0])]), (3, [], []), (4, [], []), (5, [], []), (6, [0], []), (7, [1], []), (9, [0], []), (10, [1], []), (8, [], [(9, [0]), (10, [1])]), (11, [], []), (12, [], []), (13, [], []), (14, [], []), (15, [0], []), (16, [0], []), (17, [], []), (18, [], []), (19, [], []), (20, [0], []), (21, [0], []), (22, [1], []), (23, [1], []), (25, [0], []), (26, [0], []), (27, [1], []), (28, [1], []), (24, [], [(26, [0]), (28, [1])]), (29, [], []), (30, [], []), (31, [], []), (32, [], []), (33, [], []), (34, [], []), (35, [], [])] := by kernel_rfl
noncomputable def c4 : Code := (Try.f4.body).getD .skip
noncomputable def c5 : Code := (Try.f5.body).getD .skip
noncomputable def c6 : Code := (Try.f6.body).getD .skip
theorem slot6 : X.slot 6 = fun t => posT [10] t 0 := rfl
noncomputable def c7 : Code := (Try.f7.body).getD .skip
noncomputable def c8 : Code := (Try.f8.body).getD .skip
theorem body8 : X.body 8 = some (c8, 103, [.cell 4 4]) := by kernel_rfl
theorem slot8 : X.slot 8 = fun t => posT [3, 4, 6, 8, 9, 11, 13] t 0 := rfl
theorem nslot8 : X.nslots 8 = 7 := rfl
theorem pin8 : X.pin 8 = none := rfl
theorem plan8_12 : X.plan 8 12 = [(0, [], []), (1, [], []), (2, [], []), (3, [2], []), (4, [], []), (5, [], []), (6, [], []), (7, [5], []), (8, [], []), (9, [], []), (10, [], []), (11, [], []), (12, [3], []), (13, [], []), (14, [], []), (15, [4], []), (16, [5], []), (17, [5], []), (18, [], []), (19, [], []), (20, [], []), (21, [], [])] := by kernel_rfl
theorem plan8_18 : X.plan 8 18 = [(0, [3], []), (1, [2], []), (2, [], []), (3, [], []), (4, [], []), (5, [], []), (6, [], []), (7, [], []), (8, [], []), (9, [], []), (10, [], []), (11, [], []), (12, [], []), (13, [], []), (14, [6], []), (15, [], []), (16, [], []), (17, [], []), (18, [], []), (19, [], []), (20, [], []), (21, [6], []), (22, [2], []), (23, [], []), (24, [], []), (25, [], []), (26, [], []), (27, [], []), (28, [], []), (29, [], []), (30, [], []), (31, [], []), (32, [], []), (33, [1], [])] := by kernel_rfl
noncomputable def c9 : Code := (Try.f9.body).getD .skip
theorem body9 : X.body 9 = some (c9, 127, [.tmp 4]) := by kernel_rfl
theorem slot9 : X.slot 9 = fun t => posT [3, 10, 11, 16, 17, 19] t 0 := rfl
theorem nslot9 : X.nslots 9 = 6 := rfl
theorem pin9 : X.pin 9 = none := rfl
noncomputable def c10 : Code := (Try.f10.body).getD .skip
theorem body10 : X.body 10 = some (c10, 114, [.tmp 4]) := by kernel_rfl
theorem slot10 : X.slot 10 = fun t => posT [3, 6, 10, 12, 13, 14, 16] t 0 := rfl
theorem nslot10 : X.nslots 10 = 7 := rfl
theorem pin10 : X.pin 10 = none := rfl
noncomputable def c11 : Code := (Try.f11.body).getD .skip
noncomputable def c12 : Code := (Try.f12.body).getD .skip
theorem body12 : X.body 12 = some (c12, 35, [.tmp 2]) := by kernel_rfl
theorem slot12 : X.slot 12 = fun t => posT [1] t 0 := rfl
theorem nslot12 : X.nslots 12 = 1 := rfl
theorem pin12 : X.pin 12 = none := rfl
noncomputable def c13 : Code := (Try.f13.body).getD .skip
noncomputable def c14 : Code := (Try.f14.body).getD .skip
theorem body14 : X.body 14 = some (c14, 60, [.tmp 2]) := by kernel_rfl
theorem slot14 : X.slot 14 = fun t => posT [1] t 0 := rfl
theorem nslot14 : X.nslots 14 = 1 := rfl
theorem pin14 : X.pin 14 = none := rfl
noncomputable def c15 : Code := (Try.f15.body).getD .skip
theorem body15 : X.body 15 = some (c15, 113, [.tmp 2]) := by kernel_rfl
theorem slot15 : X.slot 15 = fun t => posT [1, 4] t 0 := rfl
theorem nslot15 : X.nslots 15 = 2 := rfl
theorem pin15 : X.pin 15 = none := rfl
theorem plan15_8 : X.plan 15 8 = [(0, [1], []), (1, [], []), (2, [], []), (3, [], []), (4, [], []), (5, [], []), (6, [], []), (7, [0], []), (8, [0], []), (9, [], []), (10, [], []), (11, [], []), (12, [], []), (13, [1], []), (14, [], []), (15, [], []), (16, [], []), (17, [], [])] := by kernel_rfl
noncomputable def c16 : Code := (Try.f16.body).getD .skip
theorem body16 : X.body 16 = some (c16, 59, [.tmp 4]) := by kernel_rfl
theorem slot16 : X.slot 16 = fun t => posT [2, 3] t 0 := rfl
theorem nslot16 : X.nslots 16 = 2 := rfl
theorem pin16 : X.pin 16 = none := rfl
noncomputable def c17 : Code := (Try.f17.body).getD .skip
theorem body17 : X.body 17 = some (c17, 59, [.tmp 4]) := by kernel_rfl
theorem slot17 : X.slot 17 = fun t => posT [2, 3] t 0 := rfl
theorem nslot17 : X.nslots 17 = 2 := rfl
theorem pin17 : X.pin 17 = none := rfl
noncomputable def c18 : Code := (Try.f18.body).getD .skip
theorem body18 : X.body 18 = some (c18, 20, [.tmp 4]) := by kernel_rfl
theorem slot18 : X.slot 18 = fun t => posT [2, 3] t 0 := rfl
theorem nslot18 : X.nslots 18 = 2 := rfl
theorem pin18 : X.pin 18 = none := rfl
noncomputable def c19 : Code := (Try.f19.body).getD .skip
theorem body19 : X.body 19 = some (c19, 24, [.tmp 4]) := by kernel_rfl
theorem slot19 : X.slot 19 = fun t => posT [2, 3] t 0 := rfl
theorem nslot19 : X.nslots 19 = 2 := rfl
theorem pin19 : X.pin 19 = none := rfl
noncomputable def c20 : Code := (Try.f20.body).getD .skip
theorem body20 : X.body 20 = some (c20, 4, [.tmp 0]) := by kernel_rfl
theorem slot20 : X.slot 20 = fun t => posT [] t 0 := rfl
theorem nslot20 : X.nslots 20 = 0 := rfl
theorem pin20 : X.pin 20 = none := rfl
noncomputable def c21 : Code := (Try.f21.body).getD .skip
theorem body21 : X.body 21 = some (c21, 117, [.tmp 2]) := by kernel_rfl
theorem slot21 : X.slot 21 = fun t => posT [1] t 0 := rfl
theorem nslot21 : X.nslots 21 = 1 := rfl
theorem pin21 : X.pin 21 = none := rfl
noncomputable def c22 : Code := (Try.f22.body).getD .skip
theorem body22 : X.body 22 = some (c22, 26, [.tmp 4]) := by kernel_rfl
theorem slot22 : X.slot 22 = fun t => posT [7] t 0 := rfl
theorem nslot22 : X.nslots 22 = 1 := rfl
theorem pin22 : X.pin 22 = none := rfl
noncomputable def c23 : Code := (Try.f23.body).getD .skip
theorem body23 : X.body 23 = some (c23, 41, [.tmp 6, .tmp 7]) := by kernel_rfl
theorem slot23 : X.slot 23 = fun t => posT [4, 5, 8, 9, 10, 32] t 0 := rfl
theorem nslot23 : X.nslots 23 = 6 := rfl
theorem pin23 : X.pin 23 = none := rfl
theorem plan23_8 : X.plan 23 8 = [(0, [2], []), (1, [], []), (2, [3], []), (3, [], []), (4, [], [])] := by kernel_rfl
noncomputable def c24 : Code := (Try.f24.body).getD .skip
theorem body24 : X.body 24 = some (c24, 40, [.tmp 4]) := by kernel_rfl
theorem slot24 : X.slot 24 = fun t => posT [3, 5] t 0 := rfl
theorem nslot24 : X.nslots 24 = 2 := rfl
theorem pin24 : X.pin 24 = none := rfl
theorem plan24_5 : X.plan 24 5 = [(0, [], []), (1, [], []), (2, [], []), (3, [], []), (4, [0], []), (5, [0], []), (10, [], []), (6, [], []), (7, [], []), (8, [], []), (9, [], []), (11, [1], []), (12, [], [])] := by kernel_rfl
theorem plan24_8 : X.plan 24 8 = [(0, [], []), (1, [], []), (2, [], []), (3, [], []), (4, [0], []), (5, [0], []), (6, [0], []), (7, [], [(3, []), (5, [0])]), (8, [], [])] := by kernel_rfl
noncomputable def c27 : Code := (Try.f27.body).getD .skip
theorem body27 : X.body 27 = some (c27, 54, [.tmp 2, .tmp 3, .tmp 4]) := by kernel_rfl
theorem slot27 : X.slot 27 = fun t => posT [8] t 0 := rfl
theorem nslot27 : X.nslots 27 = 1 := rfl
theorem pin27 : X.pin 27 = none := rfl
noncomputable def c29 : Code := (Try.f29.body).getD .skip
theorem body29 : X.body 29 = some (c29, 26, [.tmp 4]) := by kernel_rfl
theorem slot29 : X.slot 29 = fun t => posT [] t 0 := rfl
theorem nslot29 : X.nslots 29 = 0 := rfl
theorem pin29 : X.pin 29 = none := rfl
theorem plan29_6 : X.plan 29 6 = [(0, [], []), (1, [], []), (2, [], []), (3, [], []), (4, [], []), (5, [], []), (6, [], []), (7, [], []), (8, [], [])] := by kernel_rfl
noncomputable def c30 : Code := (Try.f30.body).getD .skip
theorem body30 : X.body 30 = some (c30, 10, [.tmp 2]) := by kernel_rfl
theorem slot30 : X.slot 30 = fun t => posT [] t 0 := rfl
theorem nslot30 : X.nslots 30 = 0 := rfl
theorem pin30 : X.pin 30 = none := rfl
noncomputable def c31 : Code := (Try.f31.body).getD .skip
theorem body31 : X.body 31 = some (c31, 4, [.tmp 2]) := by kernel_rfl
theorem slot31 : X.slot 31 = fun t => posT [] t 0 := rfl
theorem nslot31 : X.nslots 31 = 0 := rfl
theorem pin31 : X.pin 31 = none := rfl
noncomputable def c32 : Code := (Try.f32.body).getD .skip
theorem body32 : X.body 32 = some (c32, 20, [.tmp 4]) := by kernel_rfl
theorem slot32 : X.slot 32 = fun t => posT [3, 6] t 0 := rfl
theorem nslot32 : X.nslots 32 = 2 := rfl
theorem pin32 : X.pin 32 = none := rfl
noncomputable def c33 : Code := (Try.f33.body).getD .skip
theorem body33 : X.body 33 = some (c33, 24, [.tmp 4]) := by kernel_rfl
theorem slot33 : X.slot 33 = fun t => posT [2, 3] t 0 := rfl
theorem nslot33 : X.nslots 33 = 2 := rfl
theorem pin33 : X.pin 33 = none := rfl
noncomputable def c34 : Code := (Try.f34.body).getD .skip
theorem body34 : X.body 34 = some (c34, 23, [.cell 4 31, .tmp 5]) := by kernel_rfl
theorem slot34 : X.slot 34 = fun t => posT [3, 4, 6] t 0 := rfl
theorem nslot34 : X.nslots 34 = 3 := rfl
theorem pin34 : X.pin 34 = none := rfl
theorem plan34_3 : X.plan 34 3 = [(0, [], []), (1, [], []), (2, [], []), (3, [], []), (4, [0], []), (9, [], []), (5, [], []), (6, [], []), (7, [], []), (8, [], []), (10, [2], []), (11, [], [])] := by kernel_rfl
noncomputable def c35 : Code := (Try.f35.body).getD .skip
theorem body35 : X.body 35 = some (c35, 27, [.tmp 2]) := by kernel_rfl
theorem slot35 : X.slot 35 = fun t => posT [4, 5] t 0 := rfl
theorem nslot35 : X.nslots 35 = 2 := rfl
theorem pin35 : X.pin 35 = some (.s cloneG) := rfl
theorem plan35_7 : X.plan 35 7 = [(0, [], []), (1, [], []), (2, [], []), (3, [], []), (4, [0], []), (5, [1], []), (6, [], [(3, []), (4, [0])]), (7, [], [])] := by kernel_rfl
noncomputable def c43 : Code := (Try.f43.body).getD .skip
theorem body43 : X.body 43 = some (c43, 21, [.tmp 2]) := by kernel_rfl
theorem slot43 : X.slot 43 = fun t => posT [1] t 0 := rfl
theorem nslot43 : X.nslots 43 = 1 := rfl
theorem pin43 : X.pin 43 = none := rfl
noncomputable def c44 : Code := (Try.f44.body).getD .skip
theorem body44 : X.body 44 = some (c44, 21, [.tmp 2]) := by kernel_rfl
theorem slot44 : X.slot 44 = fun t => posT [1] t 0 := rfl
theorem nslot44 : X.nslots 44 = 1 := rfl
theorem pin44 : X.pin 44 = none := rfl
noncomputable def c45 : Code := (Try.f45.body).getD .skip
theorem body45 : X.body 45 = some (c45, 10, [.tmp 2]) := by kernel_rfl
theorem slot45 : X.slot 45 = fun t => posT [1] t 0 := rfl
theorem nslot45 : X.nslots 45 = 1 := rfl
theorem pin45 : X.pin 45 = none := rfl
noncomputable def c46 : Code := (Try.f46.body).getD .skip
theorem body46 : X.body 46 = some (c46, 85, [.tmp 2]) := by kernel_rfl
theorem slot46 : X.slot 46 = fun t => posT [1] t 0 := rfl
theorem nslot46 : X.nslots 46 = 1 := rfl
theorem pin46 : X.pin 46 = none := rfl
noncomputable def c47 : Code := (Try.f47.body).getD .skip
theorem body47 : X.body 47 = some (c47, 33, [.tmp 2]) := by kernel_rfl
theorem slot47 : X.slot 47 = fun t => posT [4] t 0 := rfl
theorem nslot47 : X.nslots 47 = 1 := rfl
theorem pin47 : X.pin 47 = none := rfl
theorem plan47_4 : X.plan 47 4 = [(0, [0], []), (1, [], []), (2, [], []), (3, [], []), (4, [], []), (5, [], []), (6, [], []), (7, [], []), (8, [], []), (9, [], []), (10, [], []), (11, [], []), (12, [0], []), (13, [], []), (14, [], []), (15, [], []), (16, [], [])] := by kernel_rfl
noncomputable def c48 : Code := (Try.f48.body).getD .skip
theorem body48 : X.body 48 = some (c48, 21, [.tmp 2]) := by kernel_rfl
theorem slot48 : X.slot 48 = fun t => posT [1] t 0 := rfl
theorem nslot48 : X.nslots 48 = 1 := rfl
theorem pin48 : X.pin 48 = none := rfl
noncomputable def c49 : Code := (Try.f49.body).getD .skip
theorem body49 : X.body 49 = some (c49, 21, [.tmp 2]) := by kernel_rfl
theorem slot49 : X.slot 49 = fun t => posT [1] t 0 := rfl
theorem nslot49 : X.nslots 49 = 1 := rfl
theorem pin49 : X.pin 49 = none := rfl
noncomputable def c50 : Code := (Try.f50.body).getD .skip
theorem body50 : X.body 50 = some (c50, 66, [.tmp 4]) := by kernel_rfl
theorem slot50 : X.slot 50 = fun t => posT [2, 3] t 0 := rfl
theorem nslot50 : X.nslots 50 = 2 := rfl
theorem pin50 : X.pin 50 = none := rfl
theorem plan50_6 : X.plan 50 6 = [(0, [0], []), (1, [0], []), (2, [], []), (3, [], []), (4, [], []), (5, [1], []), (6, [1], []), (7, [], []), (8, [], []), (9, [], []), (10, [], [])] := by kernel_rfl
noncomputable def c51 : Code := (Try.f51.body).getD .skip
theorem body51 : X.body 51 = some (c51, 45, [.tmp 4]) := by kernel_rfl
theorem slot51 : X.slot 51 = fun t => posT [2, 3] t 0 := rfl
theorem nslot51 : X.nslots 51 = 2 := rfl
theorem pin51 : X.pin 51 = none := rfl
noncomputable def c52 : Code := (Try.f52.body).getD .skip
theorem body52 : X.body 52 = some (c52, 26, [.tmp 4]) := by kernel_rfl
theorem slot52 : X.slot 52 = fun t => posT [] t 0 := rfl
theorem nslot52 : X.nslots 52 = 0 := rfl
theorem pin52 : X.pin 52 = none := rfl
theorem plan52_6 : X.plan 52 6 = [(0, [], []), (1, [], []), (2, [], []), (3, [], []), (4, [], []), (5, [], []), (6, [], []), (7, [], []), (8, [], [])] := by kernel_rfl
noncomputable def c53 : Code := (Try.f53.body).getD .skip
theorem body53 : X.body 53 = some (c53, 19, [.tmp 2]) := by kernel_rfl
theorem slot53 : X.slot 53 = fun t => posT [] t 0 := rfl
theorem nslot53 : X.nslots 53 = 0 := rfl
theorem pin53 : X.pin 53 = none := rfl
noncomputable def c54 : Code := (Try.f54.body).getD .skip
theorem body54 : X.body 54 = some (c54, 29, [.tmp 2]) := by kernel_rfl
theorem slot54 : X.slot 54 = fun t => posT [4, 24] t 0 := rfl
theorem nslot54 : X.nslots 54 = 2 := rfl
theorem pin54 : X.pin 54 = some (.s refsG) := rfl
noncomputable def c56 : Code := (Try.f56.body).getD .skip
theorem body56 : X.body 56 = some (c56, 14, [.cell 2 31]) := by kernel_rfl
theorem slot56 : X.slot 56 = fun t => posT [1, 2] t 0 := rfl
theorem nslot56 : X.nslots 56 = 2 := rfl
theorem pin56 : X.pin 56 = none := rfl
noncomputable def c57 : Code := (Try.f57.body).getD .skip
theorem body57 : X.body 57 = some (c57, 36, [.tmp 4]) := by kernel_rfl
theorem slot57 : X.slot 57 = fun t => posT [3, 8, 22, 26, 33] t 0 := rfl
theorem nslot57 : X.nslots 57 = 5 := rfl
theorem pin57 : X.pin 57 = none := rfl
noncomputable def c59 : Code := (Try.f59.body).getD .skip
theorem body59 : X.body 59 = some (c59, 25, []) := by kernel_rfl
theorem slot59 : X.slot 59 = fun t => posT [5] t 0 := rfl
theorem nslot59 : X.nslots 59 = 1 := rfl
theorem pin59 : X.pin 59 = none := rfl
theorem plan59_4 : X.plan 59 4 = [(0, [], []), (1, [], []), (2, [], []), (3, [], []), (4, [], []), (5, [0], []), (6, [], []), (7, [], []), (8, [], [])] := by kernel_rfl
noncomputable def c73 : Code := (Try.f73.body).getD .skip
theorem body73 : X.body 73 = some (c73, 27, [.tmp 2]) := by kernel_rfl
theorem slot73 : X.slot 73 = fun t => posT [1] t 0 := rfl
theorem nslot73 : X.nslots 73 = 1 := rfl
theorem pin73 : X.pin 73 = none := rfl
noncomputable def c74 : Code := (Try.f74.body).getD .skip
theorem body74 : X.body 74 = some (c74, 9, [.tmp 2]) := by kernel_rfl
theorem slot74 : X.slot 74 = fun t => posT [] t 0 := rfl
theorem nslot74 : X.nslots 74 = 0 := rfl
theorem pin74 : X.pin 74 = none := rfl
noncomputable def c75 : Code := (Try.f75.body).getD .skip
theorem body75 : X.body 75 = some (c75, 9, [.tmp 4]) := by kernel_rfl
theorem slot75 : X.slot 75 = fun t => posT [] t 0 := rfl
theorem nslot75 : X.nslots 75 = 0 := rfl
theorem pin75 : X.pin 75 = none := rfl
noncomputable def c76 : Code := (Try.f76.body).getD .skip
theorem body76 : X.body 76 = some (c76, 6, [.tmp 2]) := by kernel_rfl
theorem slot76 : X.slot 76 = fun t => posT [] t 0 := rfl
theorem nslot76 : X.nslots 76 = 0 := rfl
theorem pin76 : X.pin 76 = none := rfl
noncomputable def c77 : Code := (Try.f77.body).getD .skip
theorem body77 : X.body 77 = some (c77, 18, [.tmp 2]) := by kernel_rfl
theorem slot77 : X.slot 77 = fun t => posT [] t 0 := rfl
theorem nslot77 : X.nslots 77 = 0 := rfl
theorem pin77 : X.pin 77 = none := rfl
noncomputable def c78 : Code := (Try.f78.body).getD .skip
theorem body78 : X.body 78 = some (c78, 20, [.tmp 4]) := by kernel_rfl
theorem slot78 : X.slot 78 = fun t => posT [2, 3] t 0 := rfl
theorem nslot78 : X.nslots 78 = 2 := rfl
theorem pin78 : X.pin 78 = none := rfl
noncomputable def c79 : Code := (Try.f79.body).getD .skip
theorem body79 : X.body 79 = some (c79, 26, [.tmp 4]) := by kernel_rfl
theorem slot79 : X.slot 79 = fun t => posT [] t 0 := rfl
theorem nslot79 : X.nslots 79 = 0 := rfl
theorem pin79 : X.pin 79 = none := rfl
theorem plan79_6 : X.plan 79 6 = [(0, [], []), (1, [], []), (2, [], []), (3, [], []), (4, [], []), (5, [], []), (6, [], []), (7, [], []), (8, [], [])] := by kernel_rfl
noncomputable def c80 : Code := (Try.f80.body).getD .skip
theorem body80 : X.body 80 = some (c80, 10, [.tmp 2]) := by kernel_rfl
theorem slot80 : X.slot 80 = fun t => posT [] t 0 := rfl
theorem nslot80 : X.nslots 80 = 0 := rfl
theorem pin80 : X.pin 80 = none := rfl
noncomputable def c83 : Code := (Try.f83.body).getD .skip
theorem body83 : X.body 83 = some (c83, 8, [.tmp 2]) := by kernel_rfl
theorem slot83 : X.slot 83 = fun t => posT [] t 0 := rfl
theorem nslot83 : X.nslots 83 = 0 := rfl
theorem pin83 : X.pin 83 = none := rfl
noncomputable def c84 : Code := (Try.f84.body).getD .skip
theorem body84 : X.body 84 = some (c84, 8, [.tmp 2]) := by kernel_rfl
theorem slot84 : X.slot 84 = fun t => posT [] t 0 := rfl
theorem nslot84 : X.nslots 84 = 0 := rfl
theorem pin84 : X.pin 84 = none := rfl
noncomputable def c95 : Code := (Try.f95.body).getD .skip
theorem body95 : X.body 95 = some (c95, 19, [.tmp 4]) := by kernel_rfl
theorem slot95 : X.slot 95 = fun t => posT [] t 0 := rfl
theorem nslot95 : X.nslots 95 = 0 := rfl
theorem pin95 : X.pin 95 = none := rfl
noncomputable def c96 : Code := (Try.f96.body).getD .skip
theorem body96 : X.body 96 = some (c96, 36, [.tmp 2]) := by kernel_rfl
theorem slot96 : X.slot 96 = fun t => posT [] t 0 := rfl
theorem nslot96 : X.nslots 96 = 0 := rfl
theorem pin96 : X.pin 96 = none := rfl
noncomputable def c97 : Code := (Try.f97.body).getD .skip
theorem body97 : X.body 97 = some (c97, 14, []) := by kernel_rfl
theorem slot97 : X.slot 97 = fun t => posT [] t 0 := rfl
theorem nslot97 : X.nslots 97 = 0 := rfl
theorem pin97 : X.pin 97 = none := rfl
noncomputable def c98 : Code := (Try.f98.body).getD .skip
theorem body98 : X.body 98 = some (c98, 12, [.tmp 4]) := by kernel_rfl
theorem slot98 : X.slot 98 = fun t => posT [2, 3] t 0 := rfl
theorem nslot98 : X.nslots 98 = 2 := rfl
theorem pin98 : X.pin 98 = none := rfl
theorem plan98_1 : X.plan 98 1 = [(0, [0], []), (1, [1], []), (3, [1], []), (4, [0], []), (2, [], [(3, [1]), (4, [0])]), (5, [], []), (6, [], []), (7, [], [])] := by kernel_rfl
noncomputable def c99 : Code := (Try.f99.body).getD .skip
theorem body99 : X.body 99 = some (c99, 9, [.tmp 4]) := by kernel_rfl
theorem slot99 : X.slot 99 = fun t => posT [] t 0 := rfl
theorem nslot99 : X.nslots 99 = 0 := rfl
theorem pin99 : X.pin 99 = none := rfl
noncomputable def c100 : Code := (Try.f100.body).getD .skip
theorem body100 : X.body 100 = some (c100, 61, [.tmp 2]) := by kernel_rfl
theorem slot100 : X.slot 100 = fun t => posT [] t 0 := rfl
theorem nslot100 : X.nslots 100 = 0 := rfl
theorem pin100 : X.pin 100 = none := rfl
theorem plan100_6 : X.plan 100 6 = [(0, [], []), (1, [], []), (2, [], []), (3, [], []), (4, [], []), (5, [], []), (6, [], []), (7, [], []), (8, [], []), (9, [], [])] := by kernel_rfl
theorem plan100_11 : X.plan 100 11 = [(0, [], []), (1, [], []), (2, [], []), (3, [], []), (4, [], []), (5, [], []), (6, [], []), (7, [], []), (8, [], []), (9, [], [])] := by kernel_rfl
noncomputable def c103 : Code := (Try.f103.body).getD .skip
theorem body103 : X.body 103 = some (c103, 25, [.tmp 2]) := by kernel_rfl
theorem slot103 : X.slot 103 = fun t => posT [] t 0 := rfl
theorem nslot103 : X.nslots 103 = 0 := rfl
theorem pin103 : X.pin 103 = none := rfl
noncomputable def c104 : Code := (Try.f104.body).getD .skip
theorem body104 : X.body 104 = some (c104, 27, [.tmp 4]) := by kernel_rfl
theorem slot104 : X.slot 104 = fun t => posT [] t 0 := rfl
theorem nslot104 : X.nslots 104 = 0 := rfl
theorem pin104 : X.pin 104 = none := rfl
noncomputable def c105 : Code := (Try.f105.body).getD .skip
theorem body105 : X.body 105 = some (c105, 148, []) := by kernel_rfl
theorem slot105 : X.slot 105 = fun t => posT [] t 0 := rfl
theorem nslot105 : X.nslots 105 = 0 := rfl
theorem pin105 : X.pin 105 = none := rfl
theorem plan105_17 : X.plan 105 17 = [(0, [], []), (1, [], []), (2, [], []), (3, [], []), (4, [], []), (5, [], []), (6, [], []), (7, [], []), (8, [], []), (9, [], []), (10, [], []), (11, [], []), (12, [], []), (13, [], []), (14, [], []), (15, [], []), (16, [], [])] := by kernel_rfl
noncomputable def c106 : Code := (Try.f106.body).getD .skip
theorem body106 : X.body 106 = some (c106, 8, [.tmp 2]) := by kernel_rfl
theorem slot106 : X.slot 106 = fun t => posT [] t 0 := rfl
theorem nslot106 : X.nslots 106 = 0 := rfl
theorem pin106 : X.pin 106 = none := rfl
noncomputable def c107 : Code := (Try.f107.body).getD .skip
theorem body107 : X.body 107 = some (c107, 53, []) := by kernel_rfl
theorem slot107 : X.slot 107 = fun t => posT [] t 0 := rfl
theorem nslot107 : X.nslots 107 = 0 := rfl
theorem pin107 : X.pin 107 = none := rfl
theorem plan107_4 : X.plan 107 4 = [(0, [], []), (1, [], []), (2, [], []), (3, [], []), (4, [], []), (5, [], []), (6, [], []), (7, [], []), (8, [], []), (9, [], []), (10, [], []), (11, [], []), (12, [], []), (13, [], []), (14, [], []), (15, [], []), (16, [], [])] := by kernel_rfl
theorem plan107_6 : X.plan 107 6 = [(0, [], []), (1, [], []), (2, [], []), (3, [], []), (4, [], []), (5, [], []), (6, [], []), (7, [], []), (8, [], []), (9, [], []), (10, [], []), (11, [], []), (12, [], []), (13, [], []), (14, [], []), (15, [], []), (16, [], []), (17, [], [])] := by kernel_rfl
noncomputable def c108 : Code := (Try.f108.body).getD .skip
theorem body108 : X.body 108 = some (c108, 60, []) := by kernel_rfl
theorem slot108 : X.slot 108 = fun t => posT [] t 0 := rfl
theorem nslot108 : X.nslots 108 = 0 := rfl
theorem pin108 : X.pin 108 = none := rfl
theorem plan108_10 : X.plan 108 10 = [(0, [], []), (1, [], []), (2, [], []), (3, [], []), (4, [], []), (5, [], []), (6, [], []), (7, [], []), (8, [], []), (9, [], []), (10, [], []), (11, [], []), (12, [], []), (13, [], []), (14, [], []), (15, [], []), (16, [], []), (17, [], []), (18, [], []), (19, [], [])] := by kernel_rfl
noncomputable def c109 : Code := (Try.f109.body).getD .skip
theorem body109 : X.body 109 = some (c109, 67, []) := by kernel_rfl
theorem slot109 : X.slot 109 = fun t => posT [] t 0 := rfl
theorem nslot109 : X.nslots 109 = 0 := rfl
theorem pin109 : X.pin 109 = none := rfl
theorem plan109_10 : X.plan 109 10 = [(0, [], []), (1, [], []), (2, [], []), (3, [], []), (4, [], []), (5, [], []), (6, [], []), (7, [], []), (8, [], []), (9, [], []), (10, [], []), (11, [], []), (12, [], []), (13, [], []), (14, [], []), (15, [], []), (16, [], []), (17, [], []), (18, [], []), (19, [], [])] := by kernel_rfl
noncomputable def c110 : Code := (Try.f110.body).getD .skip
theorem body110 : X.body 110 = some (c110, 63, [.tmp 8, .tmp 9]) := by kernel_rfl
theorem slot110 : X.slot 110 = fun t => posT [] t 0 := rfl
theorem nslot110 : X.nslots 110 = 0 := rfl
theorem pin110 : X.pin 110 = none := rfl
noncomputable def c111 : Code := (Try.f111.body).getD .skip
theorem body111 : X.body 111 = some (c111, 34, []) := by kernel_rfl
theorem slot111 : X.slot 111 = fun t => posT [] t 0 := rfl
theorem nslot111 : X.nslots 111 = 0 := rfl
theorem pin111 : X.pin 111 = none := rfl
theorem plan111_3 : X.plan 111 3 = [(0, [], []), (1, [], []), (2, [], []), (3, [], []), (4, [], []), (5, [], []), (6, [], []), (7, [], []), (8, [], []), (9, [], []), (10, [], []), (11, [], []), (12, [], []), (13, [], []), (14, [], []), (15, [], [])] := by kernel_rfl
noncomputable def c112 : Code := (Try.f112.body).getD .skip
theorem body112 : X.body 112 = some (c112, 141, [.tmp 8]) := by kernel_rfl
theorem slot112 : X.slot 112 = fun t => posT [] t 0 := rfl
theorem nslot112 : X.nslots 112 = 0 := rfl
theorem pin112 : X.pin 112 = none := rfl
theorem plan112_5 : X.plan 112 5 = [(0, [], []), (1, [], []), (2, [], []), (3, [], []), (4, [], []), (5, [], []), (6, [], []), (7, [], []), (8, [], []), (9, [], []), (10, [], []), (11, [], []), (12, [], []), (13, [], []), (14, [], []), (15, [], []), (16, [], []), (17, [], [])] := by kernel_rfl
theorem plan112_11 : X.plan 112 11 = [(0, [], []), (1, [], []), (2, [], []), (3, [], []), (4, [], []), (5, [], []), (6, [], []), (7, [], []), (8, [], []), (9, [], []), (10, [], []), (11, [], []), (12, [], []), (13, [], []), (14, [], []), (15, [], []), (16, [], []), (17, [], [])] := by kernel_rfl
theorem plan112_16 : X.plan 112 16 = [(0, [], []), (1, [], []), (2, [], []), (3, [], []), (4, [], []), (5, [], []), (6, [], []), (7, [], []), (8, [], []), (9, [], []), (10, [], []), (11, [], []), (12, [], [])] := by kernel_rfl
theorem plan112_17 : X.plan 112 17 = [(0, [], []), (1, [], []), (2, [], []), (3, [], []), (4, [], []), (5, [], []), (6, [], []), (7, [], []), (8, [], []), (9, [], []), (10, [], []), (11, [], []), (12, [], []), (13, [], []), (14, [], []), (15, [], []), (16, [], []), (17, [], [])] := by kernel_rfl
theorem plan112_22 : X.plan 112 22 = [(0, [], []), (1, [], []), (2, [], []), (3, [], []), (4, [], []), (5, [], []), (6, [], []), (7, [], []), (8, [], []), (9, [], []), (10, [], []), (11, [], []), (12, [], [])] := by kernel_rfl
theorem plan112_23 : X.plan 112 23 = [(0, [], []), (1, [], []), (2, [], []), (3, [], []), (4, [], []), (5, [], []), (6, [], []), (7, [], []), (8, [], []), (9, [], []), (10, [], []), (11, [], []), (12, [], []), (13, [], []), (14, [], []), (15, [], []), (16, [], []), (17, [], [])] := by kernel_rfl
noncomputable def c113 : Code := (Try.f113.body).getD .skip
theorem body113 : X.body 113 = some (c113, 90, [.tmp 10]) := by kernel_rfl
theorem slot113 : X.slot 113 = fun t => posT [] t 0 := rfl
theorem nslot113 : X.nslots 113 = 0 := rfl
theorem pin113 : X.pin 113 = none := rfl
theorem plan113_1 : X.plan 113 1 = [(0, [], []), (1, [], []), (2, [], []), (3, [], []), (4, [], []), (5, [], []), (6, [], []), (7, [], []), (8, [], []), (9, [], []), (10, [], []), (11, [], []), (12, [], []), (13, [], []), (14, [], []), (15, [], [])] := by kernel_rfl
theorem plan113_3 : X.plan 113 3 = [(0, [], []), (1, [], []), (2, [], []), (3, [], []), (4, [], []), (5, [], []), (6, [], []), (7, [], []), (8, [], []), (9, [], []), (10, [], []), (11, [], []), (12, [], []), (13, [], []), (14, [], []), (15, [], []), (16, [], [])] := by kernel_rfl
theorem plan113_5 : X.plan 113 5 = [(0, [], []), (1, [], []), (2, [], []), (3, [], []), (4, [], []), (5, [], []), (6, [], []), (7, [], []), (8, [], []), (9, [], []), (10, [], []), (11, [], []), (12, [], []), (13, [], []), (14, [], []), (15, [], [])] := by kernel_rfl
theorem plan113_8 : X.plan 113 8 = [(0, [], []), (1, [], []), (2, [], []), (3, [], []), (4, [], []), (5, [], []), (6, [], []), (7, [], []), (8, [], []), (9, [], []), (10, [], []), (11, [], []), (12, [], []), (13, [], []), (14, [], []), (15, [], [])] := by kernel_rfl
noncomputable def c114 : Code := (Try.f114.body).getD .skip
theorem body114 : X.body 114 = some (c114, 178, [.tmp 10, .tmp 11]) := by kernel_rfl
theorem slot114 : X.slot 114 = fun t => posT [] t 0 := rfl
theorem nslot114 : X.nslots 114 = 0 := rfl
theorem pin114 : X.pin 114 = none := rfl
theorem plan114_1 : X.plan 114 1 = [(0, [], []), (1, [], []), (2, [], []), (3, [], []), (4, [], []), (5, [], []), (6, [], []), (7, [], []), (8, [], []), (9, [], []), (10, [], []), (11, [], []), (12, [], []), (13, [], []), (14, [], []), (15, [], [])] := by kernel_rfl
theorem plan114_3 : X.plan 114 3 = [(0, [], []), (1, [], []), (2, [], []), (3, [], []), (4, [], []), (5, [], []), (6, [], []), (7, [], []), (8, [], []), (9, [], []), (10, [], []), (11, [], []), (12, [], []), (13, [], []), (14, [], []), (15, [], [])] := by kernel_rfl
theorem plan114_5 : X.plan 114 5 = [(0, [], []), (1, [], []), (2, [], []), (3, [], []), (4, [], []), (5, [], []), (6, [], []), (7, [], []), (8, [], []), (9, [], []), (10, [], []), (11, [], []), (12, [], []), (13, [], []), (14, [], []), (15, [], []), (16, [], [])] := by kernel_rfl
theorem plan114_8 : X.plan 114 8 = [(0, [], []), (1, [], []), (2, [], []), (3, [], []), (4, [], []), (5, [], []), (6, [], []), (7, [], []), (8, [], []), (9, [], []), (10, [], []), (11, [], []), (12, [], []), (13, [], []), (14, [], []), (15, [], [])] := by kernel_rfl
theorem plan114_10 : X.plan 114 10 = [(0, [], []), (1, [], []), (2, [], []), (3, [], []), (4, [], []), (5, [], []), (6, [], []), (7, [], []), (8, [], []), (9, [], []), (10, [], []), (11, [], []), (12, [], []), (13, [], []), (14, [], []), (15, [], [])] := by kernel_rfl
theorem plan114_13 : X.plan 114 13 = [(0, [], []), (1, [], []), (2, [], []), (3, [], []), (4, [], []), (5, [], []), (6, [], []), (7, [], []), (8, [], []), (9, [], []), (10, [], []), (11, [], []), (12, [], []), (13, [], []), (14, [], []), (15, [], [])] := by kernel_rfl
theorem plan114_15 : X.plan 114 15 = [(0, [], []), (1, [], []), (2, [], []), (3, [], []), (4, [], []), (5, [], []), (6, [], []), (7, [], []), (8, [], []), (9, [], []), (10, [], []), (11, [], []), (12, [], []), (13, [], []), (14, [], []), (15, [], []), (16, [], [])] := by kernel_rfl
theorem plan114_18 : X.plan 114 18 = [(0, [], []), (1, [], []), (2, [], []), (3, [], []), (4, [], []), (5, [], []), (6, [], []), (7, [], []), (8, [], []), (9, [], []), (10, [], []), (11, [], []), (12, [], []), (13, [], []), (14, [], []), (15, [], [])] := by kernel_rfl
theorem plan114_21 : X.plan 114 21 = [(0, [], []), (1, [], []), (2, [], []), (3, [], []), (4, [], []), (5, [], []), (6, [], []), (7, [], []), (8, [], []), (9, [], []), (10, [], []), (11, [], []), (12, [], []), (13, [], []), (14, [], []), (15, [], [])] := by kernel_rfl
noncomputable def c116 : Code := (Try.f116.body).getD .skip
theorem body116 : X.body 116 = some (c116, 82, []) := by kernel_rfl
theorem slot116 : X.slot 116 = fun t => posT [] t 0 := rfl
theorem nslot116 : X.nslots 116 = 0 := rfl
theorem pin116 : X.pin 116 = none := rfl
theorem plan116_3 : X.plan 116 3 = [(0, [], []), (1, [], []), (2, [], []), (3, [], []), (4, [], []), (5, [], []), (6, [], []), (7, [], []), (8, [], []), (9, [], []), (10, [], []), (11, [], []), (12, [], []), (13, [], []), (14, [], []), (15, [], []), (16, [], []), (17, [], []), (18, [], []), (19, [], []), (20, [], []), (21, [], [])] := by kernel_rfl
theorem plan116_5 : X.plan 116 5 = [(0, [], []), (1, [], []), (2, [], []), (3, [], []), (4, [], []), (5, [], []), (6, [], []), (7, [], []), (8, [], []), (9, [], []), (10, [], []), (11, [], []), (12, [], []), (13, [], []), (14, [], []), (15, [], [])] := by kernel_rfl
theorem plan116_6 : X.plan 116 6 = [(0, [], []), (1, [], []), (2, [], []), (3, [], []), (4, [], []), (5, [], []), (6, [], []), (7, [], []), (8, [], []), (9, [], []), (10, [], []), (11, [], []), (12, [], []), (13, [], []), (14, [], []), (15, [], []), (16, [], []), (17, [], []), (18, [], []), (19, [], []), (20, [], []), (21, [], []), (22, [], []), (23, [], [])] := by kernel_rfl
noncomputable def c117 : Code := (Try.f117.body).getD .skip
theorem body117 : X.body 117 = some (c117, 7, [.tmp 2]) := by kernel_rfl
theorem slot117 : X.slot 117 = fun t => posT [] t 0 := rfl
theorem nslot117 : X.nslots 117 = 0 := rfl
theorem pin117 : X.pin 117 = none := rfl
noncomputable def c118 : Code := (Try.f118.body).getD .skip
theorem body118 : X.body 118 = some (c118, 33, [.tmp 2]) := by kernel_rfl
theorem slot118 : X.slot 118 = fun t => posT [] t 0 := rfl
theorem nslot118 : X.nslots 118 = 0 := rfl
theorem pin118 : X.pin 118 = none := rfl
theorem plan118_1 : X.plan 118 1 = [(0, [], []), (1, [], []), (2, [], []), (3, [], []), (4, [], []), (5, [], []), (6, [], []), (7, [], []), (8, [], []), (9, [], [])] := by kernel_rfl
theorem plan118_2 : X.plan 118 2 = [(0, [], []), (1, [], []), (2, [], []), (3, [], []), (4, [], []), (5, [], []), (6, [], []), (7, [], []), (8, [], []), (9, [], [])] := by kernel_rfl
theorem plan118_3 : X.plan 118 3 = [(0, [], []), (1, [], []), (2, [], []), (3, [], []), (4, [], []), (5, [], []), (6, [], []), (7, [], []), (8, [], []), (9, [], [])] := by kernel_rfl
noncomputable def c119 : Code := (Try.f119.body).getD .skip
theorem body119 : X.body 119 = some (c119, 18, [.tmp 8]) := by kernel_rfl
theorem slot119 : X.slot 119 = fun t => posT [] t 0 := rfl
theorem nslot119 : X.nslots 119 = 0 := rfl
theorem pin119 : X.pin 119 = none := rfl
noncomputable def c120 : Code := (Try.f120.body).getD .skip
theorem body120 : X.body 120 = some (c120, 41, [.tmp 12]) := by kernel_rfl
theorem slot120 : X.slot 120 = fun t => posT [] t 0 := rfl
theorem nslot120 : X.nslots 120 = 0 := rfl
theorem pin120 : X.pin 120 = none := rfl
noncomputable def c121 : Code := (Try.f121.body).getD .skip
theorem body121 : X.body 121 = some (c121, 32, [.tmp 10, .tmp 11]) := by kernel_rfl
theorem slot121 : X.slot 121 = fun t => posT [] t 0 := rfl
theorem nslot121 : X.nslots 121 = 0 := rfl
theorem pin121 : X.pin 121 = none := rfl
theorem plan121_1 : X.plan 121 1 = [(0, [], []), (1, [], []), (2, [], []), (3, [], []), (4, [], []), (5, [], []), (6, [], []), (7, [], []), (8, [], []), (9, [], []), (10, [], [])] := by kernel_rfl
end Go.Ev
namespace Go.Ev
theorem ty3 : X.ty 3 = ⟨(.int .i64), 1, 8, [(.int .i64 0)], true⟩ := by kernel_rfl
theorem ty4 : X.ty 4 = ⟨.bool, 1, 1, [(.bool false)], true⟩ := by kernel_rfl
theorem ty5 : X.ty 5 = ⟨(.int .u8), 1, 1, [(.int .u8 0)], true⟩ := by kernel_rfl
theorem ty9 : X.ty 9 = ⟨.str, 1, 16, [(.str ⟨#[]⟩)], true⟩ := by kernel_rfl
theorem ty22 : X.ty 22 = ⟨(.struct [(0, 3), (1, 3)]), 2, 16, [(.int .i64 0), (.int .i64 0)], true⟩ := by kernel_rfl
theorem ty23 : X.ty 23 = ⟨(.struct [(0, 3), (1, 3)]), 2, 16, [(.int .i64 0), (.int .i64 0)], true⟩ := by kernel_rfl
theorem ty24 : X.ty 24 = ⟨(.struct [(0, 3), (1, 3)]), 2, 16, [(.int .i64 0), (.int .i64 0)], true⟩ := by kernel_rfl
theorem ty25 : X.ty 25 = ⟨(.struct [(0, 3), (1, 3)]), 2, 16, [(.int .i64 0), (.int .i64 0)], true⟩ := by kernel_rfl
theorem ty26 : X.ty 26 = ⟨(.slice 9), 1, 24, [(.sl .nil 0 0 0)], true⟩ := by kernel_rfl
theorem ty27 : X.ty 27 = ⟨(.struct [(0, 3), (1, 3), (2, 3), (3, 3), (4, 3), (5, 26)]), 6, 64, [(.int .i64 0), (.int .i64 0), (.int .i64 0), (.int .i64 0), (.int .i64 0), (.sl .nil 0 0 0)], true⟩ := by kernel_rfl
theorem ty28 : X.ty 28 = ⟨(.struct [(0, 3), (1, 3), (2, 3), (3, 3), (4, 3), (5, 26)]), 6, 64, [(.int .i64 0), (.int .i64 0), (.int .i64 0), (.int .i64 0), (.int .i64 0), (.sl .nil 0 0 0)], true⟩ := by kernel_rfl
theorem ty29 : X.ty 29 = ⟨(.slice 23), 1, 24, [(.sl .nil 0 0 0)], true⟩ := by kernel_rfl
theorem ty30 : X.ty 30 = ⟨(.struct [(0, 23), (2, 25), (4, 25), (6, 3), (7, 4), (8, 28), (14, 3), (15, 29)]), 16, 160, [(.int .i64 0), (.int .i64 0), (.int .i64 0), (.int .i64 0), (.int .i64 0), (.int .i64 0), (.int .i64 0), (.bool false), (.int .i64 0), (.int .i64 0), (.int .i64 0), (.int .i64 0), (.int .i64 0), (.sl .nil 0 0 0), (.int .i64 0), (.sl .nil 0 0 0)], true⟩ := by kernel_rfl
theorem ty31 : X.ty 31 = ⟨(.struct [(0, 23), (2, 25), (4, 25), (6, 3), (7, 4), (8, 28), (14, 3), (15, 29)]), 16, 160, [(.int .i64 0), (.int .i64 0), (.int .i64 0), (.int .i64 0), (.int .i64 0), (.int .i64 0), (.int .i64 0), (.bool false), (.int .i64 0), (.int .i64 0), (.int .i64 0), (.int .i64 0), (.int .i64 0), (.sl .nil 0 0 0), (.int .i64 0), (.sl .nil 0 0 0)], true⟩ := by kernel_rfl
theorem ty37 : X.ty 37 = ⟨(.ptr 84), 1, 8, [.nilp], true⟩ := by kernel_rfl
theorem ty39 : X.ty 39 = ⟨(.slice 31), 1, 24, [(.sl .nil 0 0 0)], true⟩ := by kernel_rfl
theorem ty44 : X.ty 44 = ⟨(.int .i64), 1, 8, [(.int .i64 0)], true⟩ := by kernel_rfl
theorem ty57 : X.ty 57 = ⟨.func, 1, 8, [.nilFn], true⟩ := by kernel_rfl
theorem ty58 : X.ty 58 = ⟨.func, 1, 8, [.nilFn], true⟩ := by kernel_rfl
theorem ty68 : X.ty 68 = ⟨(.int .u64), 1, 8, [(.int .u64 0)], true⟩ := by kernel_rfl
theorem ty82 : X.ty 82 = ⟨(.map 23 31), 1, 8, [.nilm], true⟩ := by kernel_rfl
theorem ty83 : X.ty 83 = ⟨(.struct [(0, 82)]), 1, 8, [.nilm], true⟩ := by kernel_rfl
theorem ty84 : X.ty 84 = ⟨(.struct [(0, 82)]), 1, 8, [.nilm], true⟩ := by kernel_rfl
theorem ty85 : X.ty 85 = ⟨.func, 1, 8, [.nilFn], true⟩ := by kernel_rfl
theorem ty99 : X.ty 99 = ⟨(.int .u64), 1, 8, [(.int .u64 0)], true⟩ := by kernel_rfl
theorem ty102 : X.ty 102 = ⟨(.ptr 3), 1, 8, [.nilp], true⟩ := by kernel_rfl
theorem ty128 : X.ty 128 = ⟨(.slice 29), 1, 24, [(.sl .nil 0 0 0)], true⟩ := by kernel_rfl
theorem ty131 : X.ty 131 = ⟨.func, 1, 8, [.nilFn], true⟩ := by kernel_rfl
theorem ty139 : X.ty 139 = ⟨(.int .i64), 1, 8, [(.int .i64 0)], true⟩ := by kernel_rfl
theorem ty147 : X.ty 147 = ⟨(.int .u32), 1, 4, [(.int .u32 0)], true⟩ := by kernel_rfl
theorem ty148 : X.ty 148 = ⟨(.int .u64), 1, 8, [(.int .u64 0)], true⟩ := by kernel_rfl
end Go.Ev
set_option maxRecDepth 100000
namespace Go.Ev
open Go.Proofs
def In64 (n : Int) : Prop := -9223372036854775808 <= n /\ n <= 9223372036854775807
theorem in64_of {i : Int} (h : (Lit.int .i64 i).wf = true) : In64 i := by
  simp only [Lit.wf,IntKind.min,IntKind.max,IntKind.signed,IntKind.bits] at h
  simp at h
  unfold In64
  omega
theorem fits_int {h : Heap} {d : Nat} {cs : List V} (hf : Fits X.ty h (d + 1) 3 cs) : ∃ i, cs = [.int .i64 i] /\ In64 i := by
  unfold Fits at hf
  rw [ty3] at hf
  obtain ⟨i, rfl, h1⟩ := hf
  exact ⟨i, rfl, in64_of h1⟩
def Strs (h : Heap) (v : V) (l : List ByteArray) : Prop :=
  (∀ s ∈ l, s.size <= 9223372036854775807) /\ l.length <= 9223372036854775807 /\ ((v = .sl .nil 0 0 0 /\ l = []) \/ (v = .sl .any 0 0 1 /\ l = []) \/ ∃ b cap full, v = .sl (.at b 0 0) l.length cap 0 /\ l.length <= cap /\ cap <= 9223372036854775807 /\ h[b]? = some (.cells 0 false full) /\ full.length = cap /\ ∀ (i : Nat) (s : ByteArray), l[i]? = some s -> full[i]? = some (V.str s))
theorem fits_strs {h : Heap} {d : Nat} {cs : List V} (hf : Fits X.ty h (d + 2) 26 cs) : ∃ v l, cs = [v] /\ Strs h v l := by
  unfold Fits at hf
  rw [ty26] at hf
  have hmax : maxLen = 9223372036854775807 := by decide
  rw [hmax] at hf
  rcases hf with rfl | rfl | ⟨b, len, cap, full, rfl, h1, h2, h3, h4, h5, h6⟩
  · exact ⟨_, [], rfl, by simp, by decide, .inl ⟨rfl, rfl⟩⟩
  · exact ⟨_, [], rfl, by simp, by decide, .inr (.inl ⟨rfl, rfl⟩)⟩
  · have hsz : (X.ty 9).size = 1 := by rw [ty9]
    rw [hsz] at h5 h6
    have hs : ∀ i, i < cap -> ∃ s : ByteArray, full[i]? = some (V.str s) /\ s.size <= 9223372036854775807 := by
      intro i hi
      have h7 := h6 i hi
      unfold Fits at h7
      rw [ty9] at h7
      rw [hmax] at h7
      obtain ⟨s, h8, h9⟩ := h7
      refine ⟨s, ?_, h9⟩
      have := congrArg (fun l => l[0]?) h8
      simpa using this
    let g : Nat -> ByteArray := fun i => match full[i]? with | some (.str s) => s | _ => .empty
    have hg : ∀ i, i < cap -> full[i]? = some (V.str (g i)) /\ (g i).size <= 9223372036854775807 := by
      intro i hi
      obtain ⟨s, h7, h8⟩ := hs i hi
      simp only [g,h7]
      exact ⟨trivial, h8⟩
    refine ⟨_, (List.range len).map g, rfl, ?_, by rw [List.length_map, List.length_range]; omega, .inr (.inr ⟨b, cap, full, by simp, by simpa using h2, h3, h4, by simpa using h5, ?_⟩)⟩
    · intro s hm
      obtain ⟨i, hi, rfl⟩ := List.mem_map.1 hm
      have := List.mem_range.1 hi
      exact (hg i (by omega)).2
    · intro i s hi
      rw [List.getElem?_map] at hi
      cases hr : (List.range len)[i]? with
      | none => rw [hr] at hi; cases hi
      | some j =>
        rw [hr] at hi
        have hj : i < len := by have := (List.getElem?_eq_some_iff.1 hr).1; simpa using this
        have : j = i := by rw [List.getElem?_range hj] at hr; exact (Option.some.inj hr).symm
        subst this
        simp only [Option.map_some,Option.some.injEq] at hi
        subst hi
        exact (hg j (by omega)).1
theorem Strs.sl {h : Heap} {v : V} {l : List ByteArray} (hs : Strs h v l) : ∃ a len cap z, v = .sl a len cap z := by
  obtain ⟨_, _, ⟨rfl, _⟩ | ⟨rfl, _⟩ | ⟨b, cap, full, rfl, _⟩⟩ := hs
  · exact ⟨_, _, _, _, rfl⟩
  · exact ⟨_, _, _, _, rfl⟩
  · exact ⟨_, _, _, _, rfl⟩
theorem fits_cmd {h : Heap} {d : Nat} {cs : List V} (hf : Fits X.ty h (d + 3) 28 cs) :
    ∃ o c q f t v l, cs = [.int .i64 o, .int .i64 c, .int .i64 q, .int .i64 f, .int .i64 t, v] /\ In64 o /\ In64 c /\ In64 q /\ In64 f /\ In64 t /\ Strs h v l := by
  unfold Fits at hf
  rw [ty28] at hf
  obtain ⟨hl, hf⟩ := hf
  match cs, hl with
  | [c0, c1, c2, c3, c4, c5], _ =>
    obtain ⟨o, h0, i0⟩ := fits_int (hf (0, 3) (by simp))
    obtain ⟨c, h1, i1⟩ := fits_int (hf (1, 3) (by simp))
    obtain ⟨q, h2, i2⟩ := fits_int (hf (2, 3) (by simp))
    obtain ⟨f, h3, i3⟩ := fits_int (hf (3, 3) (by simp))
    obtain ⟨t, h4, i4⟩ := fits_int (hf (4, 3) (by simp))
    obtain ⟨v, l, h5, i5⟩ := fits_strs (hf (5, 26) (by simp))
    simp [ty3] at h0 h1 h2 h3 h4
    simp [ty26] at h5
    subst h0 h1 h2 h3 h4 h5
    exact ⟨o, c, q, f, t, _, l, rfl, i0, i1, i2, i3, i4, i5⟩
end Go.Ev
namespace Go.Ev
theorem G77 : (type_of% @ty3) /\ (type_of% @ty5) /\ (type_of% @ty9) /\ (type_of% @slot77) := ⟨@ty3, @ty5, @ty9, @slot77⟩
theorem G53 : (type_of% @ty3) /\ (type_of% @ty5) /\ (type_of% @ty9) /\ (type_of% @slot53) := ⟨@ty3, @ty5, @ty9, @slot53⟩
theorem G76 : (type_of% @ty4) /\ (type_of% @ty9) /\ (type_of% @slot76) := ⟨@ty4, @ty9, @slot76⟩
theorem G95 : (type_of% @ty3) /\ (type_of% @ty9) /\ (type_of% @ty26) /\ (type_of% @slot95) := ⟨@ty3, @ty9, @ty26, @slot95⟩
theorem G75 : (type_of% @ty3) /\ (type_of% @ty9) /\ (type_of% @ty26) /\ (type_of% @ty85) /\ (type_of% @slot75) := ⟨@ty3, @ty9, @ty26, @ty85, @slot75⟩
theorem G74 : (type_of% @ty3) /\ (type_of% @slot74) := ⟨@ty3, @slot74⟩
theorem G73 : (type_of% @ty3) /\ (type_of% @ty9) /\ (type_of% @ty26) /\ (type_of% @ty27) /\ (type_of% @ty28) /\ (type_of% @slot73) := ⟨@ty3, @ty9, @ty26, @ty27, @ty28, @slot73⟩
theorem G46 : (type_of% @ty3) /\ (type_of% @ty4) /\ (type_of% @ty9) /\ (type_of% @ty26) /\ (type_of% @ty27) /\ (type_of% @ty28) /\ (type_of% @ty85) /\ (type_of% @slot46) := ⟨@ty3, @ty4, @ty9, @ty26, @ty27, @ty28, @ty85, @slot46⟩
theorem G21 : (type_of% @ty3) /\ (type_of% @ty4) /\ (type_of% @ty9) /\ (type_of% @ty26) /\ (type_of% @ty27) /\ (type_of% @ty28) /\ (type_of% @slot21) := ⟨@ty3, @ty4, @ty9, @ty26, @ty27, @ty28, @slot21⟩
theorem G52 : (type_of% @ty3) /\ (type_of% @ty22) /\ (type_of% @ty23) /\ (type_of% @ty29) /\ (type_of% @slot52) /\ (type_of% @plan52_6) := ⟨@ty3, @ty22, @ty23, @ty29, @slot52, @plan52_6⟩
theorem G29 : (type_of% @ty3) /\ (type_of% @ty22) /\ (type_of% @ty23) /\ (type_of% @ty29) /\ (type_of% @slot29) /\ (type_of% @plan29_6) := ⟨@ty3, @ty22, @ty23, @ty29, @slot29, @plan29_6⟩
theorem G79 : (type_of% @ty3) /\ (type_of% @ty9) /\ (type_of% @ty26) /\ (type_of% @slot79) /\ (type_of% @plan79_6) := ⟨@ty3, @ty9, @ty26, @slot79, @plan79_6⟩
theorem G50 : (type_of% @ty3) /\ (type_of% @ty9) /\ (type_of% @ty26) /\ (type_of% @ty27) /\ (type_of% @ty28) /\ (type_of% @slot50) /\ (type_of% @plan50_6) := ⟨@ty3, @ty9, @ty26, @ty27, @ty28, @slot50, @plan50_6⟩
theorem G33 : (type_of% @ty3) /\ (type_of% @ty22) /\ (type_of% @ty23) /\ (type_of% @slot33) := ⟨@ty3, @ty22, @ty23, @slot33⟩
theorem G78 : (type_of% @ty3) /\ (type_of% @ty22) /\ (type_of% @ty23) /\ (type_of% @slot78) := ⟨@ty3, @ty22, @ty23, @slot78⟩
theorem G43 : (type_of% @ty3) /\ (type_of% @ty22) /\ (type_of% @ty23) /\ (type_of% @slot43) := ⟨@ty3, @ty22, @ty23, @slot43⟩
theorem G48 : (type_of% @ty3) /\ (type_of% @ty22) /\ (type_of% @ty23) /\ (type_of% @slot48) := ⟨@ty3, @ty22, @ty23, @slot48⟩
theorem G44 : (type_of% @ty3) /\ (type_of% @ty24) /\ (type_of% @ty25) /\ (type_of% @slot44) := ⟨@ty3, @ty24, @ty25, @slot44⟩
theorem G49 : (type_of% @ty3) /\ (type_of% @ty24) /\ (type_of% @ty25) /\ (type_of% @slot49) := ⟨@ty3, @ty24, @ty25, @slot49⟩
theorem G18 : (type_of% @ty3) /\ (type_of% @ty24) /\ (type_of% @ty25) /\ (type_of% @slot18) := ⟨@ty3, @ty24, @ty25, @slot18⟩
theorem G19 : (type_of% @ty3) /\ (type_of% @ty24) /\ (type_of% @ty25) /\ (type_of% @slot19) := ⟨@ty3, @ty24, @ty25, @slot19⟩
theorem G51 : (type_of% @ty3) /\ (type_of% @ty9) /\ (type_of% @ty26) /\ (type_of% @ty27) /\ (type_of% @ty28) /\ (type_of% @slot51) := ⟨@ty3, @ty9, @ty26, @ty27, @ty28, @slot51⟩
theorem G16 : (type_of% @ty3) /\ (type_of% @ty4) /\ (type_of% @ty9) /\ (type_of% @ty22) /\ (type_of% @ty23) /\ (type_of% @ty24) /\ (type_of% @ty25) /\ (type_of% @ty26) /\ (type_of% @ty27) /\ (type_of% @ty28) /\ (type_of% @ty29) /\ (type_of% @ty30) /\ (type_of% @ty31) /\ (type_of% @slot16) := ⟨@ty3, @ty4, @ty9, @ty22, @ty23, @ty24, @ty25, @ty26, @ty27, @ty28, @ty29, @ty30, @ty31, @slot16⟩
theorem G17 : (type_of% @ty3) /\ (type_of% @ty4) /\ (type_of% @ty9) /\ (type_of% @ty22) /\ (type_of% @ty23) /\ (type_of% @ty24) /\ (type_of% @ty25) /\ (type_of% @ty26) /\ (type_of% @ty27) /\ (type_of% @ty28) /\ (type_of% @ty29) /\ (type_of% @ty30) /\ (type_of% @ty31) /\ (type_of% @slot17) := ⟨@ty3, @ty4, @ty9, @ty22, @ty23, @ty24, @ty25, @ty26, @ty27, @ty28, @ty29, @ty30, @ty31, @slot17⟩
theorem G47 : (type_of% @ty3) /\ (type_of% @ty4) /\ (type_of% @ty22) /\ (type_of% @ty23) /\ (type_of% @ty29) /\ (type_of% @slot47) /\ (type_of% @plan47_4) := ⟨@ty3, @ty4, @ty22, @ty23, @ty29, @slot47, @plan47_4⟩
theorem G45 : (type_of% @ty3) /\ (type_of% @ty4) /\ (type_of% @ty9) /\ (type_of% @ty22) /\ (type_of% @ty23) /\ (type_of% @ty24) /\ (type_of% @ty25) /\ (type_of% @ty26) /\ (type_of% @ty27) /\ (type_of% @ty28) /\ (type_of% @ty29) /\ (type_of% @ty30) /\ (type_of% @ty31) /\ (type_of% @slot45) := ⟨@ty3, @ty4, @ty9, @ty22, @ty23, @ty24, @ty25, @ty26, @ty27, @ty28, @ty29, @ty30, @ty31, @slot45⟩
theorem G14 : (type_of% @ty3) /\ (type_of% @ty4) /\ (type_of% @ty9) /\ (type_of% @ty22) /\ (type_of% @ty23) /\ (type_of% @ty24) /\ (type_of% @ty25) /\ (type_of% @ty26) /\ (type_of% @ty27) /\ (type_of% @ty28) /\ (type_of% @ty29) /\ (type_of% @ty30) /\ (type_of% @ty31) /\ (type_of% @slot14) := ⟨@ty3, @ty4, @ty9, @ty22, @ty23, @ty24, @ty25, @ty26, @ty27, @ty28, @ty29, @ty30, @ty31, @slot14⟩
theorem G15 : (type_of% @ty3) /\ (type_of% @ty4) /\ (type_of% @ty9) /\ (type_of% @ty22) /\ (type_of% @ty23) /\ (type_of% @ty24) /\ (type_of% @ty25) /\ (type_of% @ty26) /\ (type_of% @ty27) /\ (type_of% @ty28) /\ (type_of% @ty29) /\ (type_of% @ty30) /\ (type_of% @ty31) /\ (type_of% @slot15) /\ (type_of% @plan15_8) := ⟨@ty3, @ty4, @ty9, @ty22, @ty23, @ty24, @ty25, @ty26, @ty27, @ty28, @ty29, @ty30, @ty31, @slot15, @plan15_8⟩
theorem G83 : (type_of% @ty9) /\ (type_of% @ty26) /\ (type_of% @slot83) := ⟨@ty9, @ty26, @slot83⟩
theorem G84 : (type_of% @ty3) /\ (type_of% @ty22) /\ (type_of% @ty23) /\ (type_of% @ty29) /\ (type_of% @slot84) := ⟨@ty3, @ty22, @ty23, @ty29, @slot84⟩
theorem G56 : (type_of% @ty3) /\ (type_of% @ty4) /\ (type_of% @ty9) /\ (type_of% @ty22) /\ (type_of% @ty23) /\ (type_of% @ty24) /\ (type_of% @ty25) /\ (type_of% @ty26) /\ (type_of% @ty27) /\ (type_of% @ty28) /\ (type_of% @ty29) /\ (type_of% @ty30) /\ (type_of% @ty31) /\ (type_of% @slot56) := ⟨@ty3, @ty4, @ty9, @ty22, @ty23, @ty24, @ty25, @ty26, @ty27, @ty28, @ty29, @ty30, @ty31, @slot56⟩
theorem G20 : (type_of% @ty3) /\ (type_of% @ty4) /\ (type_of% @ty9) /\ (type_of% @ty22) /\ (type_of% @ty23) /\ (type_of% @ty24) /\ (type_of% @ty25) /\ (type_of% @ty26) /\ (type_of% @ty27) /\ (type_of% @ty28) /\ (type_of% @ty29) /\ (type_of% @ty30) /\ (type_of% @ty31) /\ (type_of% @ty82) /\ (type_of% @ty83) /\ (type_of% @ty84) /\ (type_of% @slot20) := ⟨@ty3, @ty4, @ty9, @ty22, @ty23, @ty24, @ty25, @ty26, @ty27, @ty28, @ty29, @ty30, @ty31, @ty82, @ty83, @ty84, @slot20⟩
theorem G34 : (type_of% @ty3) /\ (type_of% @ty4) /\ (type_of% @ty9) /\ (type_of% @ty22) /\ (type_of% @ty23) /\ (type_of% @ty24) /\ (type_of% @ty25) /\ (type_of% @ty26) /\ (type_of% @ty27) /\ (type_of% @ty28) /\ (type_of% @ty29) /\ (type_of% @ty30) /\ (type_of% @ty31) /\ (type_of% @ty37) /\ (type_of% @ty82) /\ (type_of% @ty83) /\ (type_of% @ty84) /\ (type_of% @slot34) /\ (type_of% @plan34_3) := ⟨@ty3, @ty4, @ty9, @ty22, @ty23, @ty24, @ty25, @ty26, @ty27, @ty28, @ty29, @ty30, @ty31, @ty37, @ty82, @ty83, @ty84, @slot34, @plan34_3⟩
theorem G30 : (type_of% @ty3) /\ (type_of% @ty4) /\ (type_of% @ty9) /\ (type_of% @ty22) /\ (type_of% @ty23) /\ (type_of% @ty24) /\ (type_of% @ty25) /\ (type_of% @ty26) /\ (type_of% @ty27) /\ (type_of% @ty28) /\ (type_of% @ty29) /\ (type_of% @ty30) /\ (type_of% @ty31) /\ (type_of% @ty37) /\ (type_of% @ty82) /\ (type_of% @ty83) /\ (type_of% @ty84) /\ (type_of% @slot30) := ⟨@ty3, @ty4, @ty9, @ty22, @ty23, @ty24, @ty25, @ty26, @ty27, @ty28, @ty29, @ty30, @ty31, @ty37, @ty82, @ty83, @ty84, @slot30⟩
theorem G24 : (type_of% @ty3) /\ (type_of% @ty4) /\ (type_of% @ty9) /\ (type_of% @ty22) /\ (type_of% @ty23) /\ (type_of% @ty24) /\ (type_of% @ty25) /\ (type_of% @ty26) /\ (type_of% @ty27) /\ (type_of% @ty28) /\ (type_of% @ty29) /\ (type_of% @ty30) /\ (type_of% @ty31) /\ (type_of% @ty37) /\ (type_of% @ty82) /\ (type_of% @ty83) /\ (type_of% @ty84) /\ (type_of% @slot24) /\ (type_of% @plan24_5) /\ (type_of% @plan24_8) := ⟨@ty3, @ty4, @ty9, @ty22, @ty23, @ty24, @ty25, @ty26, @ty27, @ty28, @ty29, @ty30, @ty31, @ty37, @ty82, @ty83, @ty84, @slot24, @plan24_5, @plan24_8⟩
theorem G59 : (type_of% @ty3) /\ (type_of% @ty4) /\ (type_of% @ty9) /\ (type_of% @ty22) /\ (type_of% @ty23) /\ (type_of% @ty24) /\ (type_of% @ty25) /\ (type_of% @ty26) /\ (type_of% @ty27) /\ (type_of% @ty28) /\ (type_of% @ty29) /\ (type_of% @ty30) /\ (type_of% @ty31) /\ (type_of% @ty37) /\ (type_of% @ty82) /\ (type_of% @ty83) /\ (type_of% @ty84) /\ (type_of% @slot59) /\ (type_of% @plan59_4) := ⟨@ty3, @ty4, @ty9, @ty22, @ty23, @ty24, @ty25, @ty26, @ty27, @ty28, @ty29, @ty30, @ty31, @ty37, @ty82, @ty83, @ty84, @slot59, @plan59_4⟩
theorem G57 : (type_of% @ty3) /\ (type_of% @ty4) /\ (type_of% @ty9) /\ (type_of% @ty22) /\ (type_of% @ty23) /\ (type_of% @ty24) /\ (type_of% @ty25) /\ (type_of% @ty26) /\ (type_of% @ty27) /\ (type_of% @ty28) /\ (type_of% @ty29) /\ (type_of% @ty30) /\ (type_of% @ty31) /\ (type_of% @ty39) /\ (type_of% @slot57) := ⟨@ty3, @ty4, @ty9, @ty22, @ty23, @ty24, @ty25, @ty26, @ty27, @ty28, @ty29, @ty30, @ty31, @ty39, @slot57⟩
theorem G32 : (type_of% @ty3) /\ (type_of% @ty4) /\ (type_of% @ty9) /\ (type_of% @ty22) /\ (type_of% @ty23) /\ (type_of% @ty24) /\ (type_of% @ty25) /\ (type_of% @ty26) /\ (type_of% @ty27) /\ (type_of% @ty28) /\ (type_of% @ty29) /\ (type_of% @ty30) /\ (type_of% @ty31) /\ (type_of% @ty39) /\ (type_of% @slot32) := ⟨@ty3, @ty4, @ty9, @ty22, @ty23, @ty24, @ty25, @ty26, @ty27, @ty28, @ty29, @ty30, @ty31, @ty39, @slot32⟩
theorem G12 : (type_of% @ty3) /\ (type_of% @ty4) /\ (type_of% @ty9) /\ (type_of% @ty22) /\ (type_of% @ty23) /\ (type_of% @ty24) /\ (type_of% @ty25) /\ (type_of% @ty26) /\ (type_of% @ty27) /\ (type_of% @ty28) /\ (type_of% @ty29) /\ (type_of% @ty30) /\ (type_of% @ty31) /\ (type_of% @slot12) := ⟨@ty3, @ty4, @ty9, @ty22, @ty23, @ty24, @ty25, @ty26, @ty27, @ty28, @ty29, @ty30, @ty31, @slot12⟩
theorem G3 : (type_of% @ty3) /\ (type_of% @ty4) /\ (type_of% @ty9) /\ (type_of% @ty22) /\ (type_of% @ty23) /\ (type_of% @ty24) /\ (type_of% @ty25) /\ (type_of% @ty26) /\ (type_of% @ty27) /\ (type_of% @ty28) /\ (type_of% @ty29) /\ (type_of% @ty30) /\ (type_of% @ty31) /\ (type_of% @slot3) /\ (type_of% @plan3_3) := ⟨@ty3, @ty4, @ty9, @ty22, @ty23, @ty24, @ty25, @ty26, @ty27, @ty28, @ty29, @ty30, @ty31, @slot3, @plan3_3⟩
theorem G27 : (type_of% @ty3) /\ (type_of% @ty4) /\ (type_of% @ty9) /\ (type_of% @ty22) /\ (type_of% @ty23) /\ (type_of% @ty24) /\ (type_of% @ty25) /\ (type_of% @ty26) /\ (type_of% @ty27) /\ (type_of% @ty28) /\ (type_of% @ty29) /\ (type_of% @ty30) /\ (type_of% @ty31) /\ (type_of% @ty37) /\ (type_of% @ty39) /\ (type_of% @ty44) /\ (type_of% @ty82) /\ (type_of% @ty83) /\ (type_of% @ty84) /\ (type_of% @slot27) := ⟨@ty3, @ty4, @ty9, @ty22, @ty23, @ty24, @ty25, @ty26, @ty27, @ty28, @ty29, @ty30, @ty31, @ty37, @ty39, @ty44, @ty82, @ty83, @ty84, @slot27⟩
theorem G22 : (type_of% @ty3) /\ (type_of% @ty4) /\ (type_of% @ty9) /\ (type_of% @ty22) /\ (type_of% @ty23) /\ (type_of% @ty24) /\ (type_of% @ty25) /\ (type_of% @ty26) /\ (type_of% @ty27) /\ (type_of% @ty28) /\ (type_of% @ty29) /\ (type_of% @ty30) /\ (type_of% @ty31) /\ (type_of% @ty37) /\ (type_of% @ty82) /\ (type_of% @ty83) /\ (type_of% @ty84) /\ (type_of% @slot22) := ⟨@ty3, @ty4, @ty9, @ty22, @ty23, @ty24, @ty25, @ty26, @ty27, @ty28, @ty29, @ty30, @ty31, @ty37, @ty82, @ty83, @ty84, @slot22⟩
theorem G6 : (type_of% @ty3) /\ (type_of% @ty4) /\ (type_of% @ty9) /\ (type_of% @ty22) /\ (type_of% @ty23) /\ (type_of% @ty24) /\ (type_of% @ty25) /\ (type_of% @ty26) /\ (type_of% @ty27) /\ (type_of% @ty28) /\ (type_of% @ty29) /\ (type_of% @ty30) /\ (type_of% @ty31) /\ (type_of% @ty37) /\ (type_of% @ty39) /\ (type_of% @ty82) /\ (type_of% @ty83) /\ (type_of% @ty84) /\ (type_of% @slot6) := ⟨@ty3, @ty4, @ty9, @ty22, @ty23, @ty24, @ty25, @ty26, @ty27, @ty28, @ty29, @ty30, @ty31, @ty37, @ty39, @ty82, @ty83, @ty84, @slot6⟩
theorem G23 : (type_of% @ty3) /\ (type_of% @ty4) /\ (type_of% @ty9) /\ (type_of% @ty22) /\ (type_of% @ty23) /\ (type_of% @ty24) /\ (type_of% @ty25) /\ (type_of% @ty26) /\ (type_of% @ty27) /\ (type_of% @ty28) /\ (type_of% @ty29) /\ (type_of% @ty30) /\ (type_of% @ty31) /\ (type_of% @ty37) /\ (type_of% @ty82) /\ (type_of% @ty83) /\ (type_of% @ty84) /\ (type_of% @slot23) /\ (type_of% @plan23_8) := ⟨@ty3, @ty4, @ty9, @ty22, @ty23, @ty24, @ty25, @ty26, @ty27, @ty28, @ty29, @ty30, @ty31, @ty37, @ty82, @ty83, @ty84, @slot23, @plan23_8⟩
theorem G31 : (type_of% @ty3) /\ (type_of% @ty4) /\ (type_of% @ty9) /\ (type_of% @ty22) /\ (type_of% @ty23) /\ (type_of% @ty24) /\ (type_of% @ty25) /\ (type_of% @ty26) /\ (type_of% @ty27) /\ (type_of% @ty28) /\ (type_of% @ty29) /\ (type_of% @ty30) /\ (type_of% @ty31) /\ (type_of% @ty37) /\ (type_of% @ty82) /\ (type_of% @ty83) /\ (type_of% @ty84) /\ (type_of% @slot31) := ⟨@ty3, @ty4, @ty9, @ty22, @ty23, @ty24, @ty25, @ty26, @ty27, @ty28, @ty29, @ty30, @ty31, @ty37, @ty82, @ty83, @ty84, @slot31⟩
theorem G8 : (type_of% @ty3) /\ (type_of% @ty4) /\ (type_of% @ty9) /\ (type_of% @ty22) /\ (type_of% @ty23) /\ (type_of% @ty24) /\ (type_of% @ty25) /\ (type_of% @ty26) /\ (type_of% @ty27) /\ (type_of% @ty28) /\ (type_of% @ty29) /\ (type_of% @ty30) /\ (type_of% @ty31) /\ (type_of% @ty37) /\ (type_of% @ty39) /\ (type_of% @ty57) /\ (type_of% @ty58) /\ (type_of% @ty82) /\ (type_of% @ty83) /\ (type_of% @ty84) /\ (type_of% @slot8) /\ (type_of% @plan8_12) /\ (type_of% @plan8_18) := ⟨@ty3, @ty4, @ty9, @ty22, @ty23, @ty24, @ty25, @ty26, @ty27, @ty28, @ty29, @ty30, @ty31, @ty37, @ty39, @ty57, @ty58, @ty82, @ty83, @ty84, @slot8, @plan8_12, @plan8_18⟩
theorem G10 : (type_of% @ty3) /\ (type_of% @ty4) /\ (type_of% @ty9) /\ (type_of% @ty22) /\ (type_of% @ty23) /\ (type_of% @ty24) /\ (type_of% @ty25) /\ (type_of% @ty26) /\ (type_of% @ty27) /\ (type_of% @ty28) /\ (type_of% @ty29) /\ (type_of% @ty30) /\ (type_of% @ty31) /\ (type_of% @ty37) /\ (type_of% @ty39) /\ (type_of% @ty44) /\ (type_of% @ty57) /\ (type_of% @ty58) /\ (type_of% @ty82) /\ (type_of% @ty83) /\ (type_of% @ty84) /\ (type_of% @slot10) := ⟨@ty3, @ty4, @ty9, @ty22, @ty23, @ty24, @ty25, @ty26, @ty27, @ty28, @ty29, @ty30, @ty31, @ty37, @ty39, @ty44, @ty57, @ty58, @ty82, @ty83, @ty84, @slot10⟩
theorem G9 : (type_of% @ty3) /\ (type_of% @ty4) /\ (type_of% @ty9) /\ (type_of% @ty22) /\ (type_of% @ty23) /\ (type_of% @ty24) /\ (type_of% @ty25) /\ (type_of% @ty26) /\ (type_of% @ty27) /\ (type_of% @ty28) /\ (type_of% @ty29) /\ (type_of% @ty30) /\ (type_of% @ty31) /\ (type_of% @ty37) /\ (type_of% @ty39) /\ (type_of% @ty82) /\ (type_of% @ty83) /\ (type_of% @ty84) /\ (type_of% @slot9) := ⟨@ty3, @ty4, @ty9, @ty22, @ty23, @ty24, @ty25, @ty26, @ty27, @ty28, @ty29, @ty30, @ty31, @ty37, @ty39, @ty82, @ty83, @ty84, @slot9⟩
end Go.Ev
set_option maxRecDepth 100000
namespace Go.Ev
open Go.Ev renaming exPure -> Ja, ofValue -> Jb, cellsV -> Jc, load -> Jd, store -> Je, binOp -> Jf, intOp -> Jg, rdV -> Jh, vsame -> Ji, vsames -> Jj, makeSliceV -> Jk, resV -> Jl, isCell -> Jm, nilCheckV -> Jn, allV -> Jo, builtinV -> Jp, lenV -> Jq, indexAddrV -> Jr, unOp -> Js, minmaxV -> Jt, minmax -> Ju, sliceV -> Jv, asInt -> Jw, appendV -> Jx, copyV -> Jy, clearV -> Jz, convV -> J0, sliceCells -> J1, shift -> J2
open Bool renaming true -> BT, false -> BF
open Nat renaming reduceEqDiff -> J3, reduceLT -> J4, reduceAdd -> J5, reduceBEq -> J6, reduceSub -> J7, reduceMul -> J8, reduceLeDiff -> JG
open Int renaming reduceLT -> J9, reduceLE -> JA, reduceAdd -> JB, reduceSub -> JC, reduceNeg -> JD, reduceToNat -> JE, reduceEq -> JF
open Go.Proofs
def textB (s : ByteArray) : Bool := decide ((s.size : Int) <= 4096) && (decide (s.size = 0) || match s.data.toList[s.size - 1]? with | some c => !decide ((c.toNat : Int) = 0) | none => false)
theorem textB_0 {s : ByteArray} (h : s.size = 0) : textB s = true := by
  unfold textB
  rw [h]
  rfl
theorem textB_1 {s : ByteArray} (h : s.size ≠ 0) {c : UInt8} (hc : s.data.toList[s.size - 1]? = some c) : textB s = (decide ((s.size : Int) <= 4096) && !decide ((c.toNat : Int) = 0)) := by
  unfold textB
  rw [hc, decide_eq_false h, Bool.false_or]
theorem strEq_nil (s : ByteArray) : strEq s ⟨#[]⟩ = decide (s.size = 0) := by
  unfold strEq
  apply decide_eq_decide.2
  have e : s.size = s.data.toList.length := rfl
  rw [e]
  exact ⟨fun h => by rw [h]; rfl, fun h => List.length_eq_zero_iff.1 h⟩
theorem byte_last {s : ByteArray} (h : s.size ≠ 0) : ∃ c, s.data.toList[s.size - 1]? = some c := by
  have : s.size - 1 < s.data.toList.length := by rw [Array.length_toList]; have : s.size = s.data.size := rfl; omega
  exact ⟨_, List.getElem?_eq_getElem this⟩
theorem isText_at (s : ByteArray) (h : Heap) : D X (.fn 77 []) [.str s] h = some (.bool (textB s), h) := by
  refine Ok.eq ?_
  by_cases h0 : s.size = 0
  · have ht := textB_0 h0
    (refine Ok.body body77 pin77 ?_; simp only [c77,Try.f77,Option.getD_some,nslot77,List.append_nil,List.map,List.replicate,List.length_cons,List.length_nil,Nat.reduceAdd,Nat.reduceSub,List.cons_append,List.nil_append])
    (repeat' (first | (simp -implicitDefEqProofs (maxSteps := 1000000) (disch := first | assumption | omega | (simp only [ZDI]; omega)) only [*,strEq_nil,G77,Za,Zb,Zc,Zd,Ze,Zf,Zg,Zh,Zi,Zj,Zk,Zl,Zm,Zn,Zo,Ja,Jb,Jc,J3,Jd,Je,J4,J5,Jf,Jg,Jh,Ji,Jj,Jk,J6,Jl,Jm,wr,Jn,J7,J8,Jo,Jp,Jq,Jr,Js,Jt,Ju,Jv,Jw,Jx,Jy,Jz,J0,J1,J2,reduceCtorEq,J9,JA,JB,JC,JD,JE,JF,JG]) | ((with_reducible (first | apply Ok.br | apply Ok.gd | apply Ok.ld)) <;> (intro g; (try simp only [ZGS] at g); try (exfalso; omega)))))
    all_goals omega
  · obtain ⟨c, hc⟩ := byte_last h0
    have ht := textB_1 h0 hc
    have h1 : ¬ (s.size : Int) = 0 := by omega
    have e1 : ((s.size : Int) - 1).toNat = s.size - 1 := by omega
    (refine Ok.body body77 pin77 ?_; simp only [c77,Try.f77,Option.getD_some,nslot77,List.append_nil,List.map,List.replicate,List.length_cons,List.length_nil,Nat.reduceAdd,Nat.reduceSub,List.cons_append,List.nil_append])
    (repeat' (first | (simp -implicitDefEqProofs (maxSteps := 1000000) (disch := first | assumption | omega | (simp only [ZDI]; omega)) only [*,strEq_nil,indexV,G77,Za,Zb,Zc,Zd,Ze,Zf,Zg,Zh,Zi,Zj,Zk,Zl,Zm,Zn,Zo,Ja,Jb,Jc,J3,Jd,Je,J4,J5,Jf,Jg,Jh,Ji,Jj,Jk,J6,Jl,Jm,wr,Jn,J7,J8,Jo,Jp,Jq,Jr,Js,Jt,Ju,Jv,Jw,Jx,Jy,Jz,J0,J1,J2,reduceCtorEq,J9,JA,JB,JC,JD,JE,JF,JG]) | ((with_reducible (first | apply Ok.br | apply Ok.gd | apply Ok.ld)) <;> (intro g; (try simp only [ZGS] at g); try (exfalso; omega)))))
theorem rIsText_at (s : ByteArray) (h : Heap) : D X (.fn 53 []) [.str s] h = some (.bool (textB s), h) := by
  refine Ok.eq ?_
  by_cases h0 : s.size = 0
  · have ht := textB_0 h0
    (refine Ok.body body53 pin53 ?_; simp only [c53,Try.f53,Option.getD_some,nslot53,List.append_nil,List.map,List.replicate,List.length_cons,List.length_nil,Nat.reduceAdd,Nat.reduceSub,List.cons_append,List.nil_append])
    (repeat' (first | (simp -implicitDefEqProofs (maxSteps := 1000000) (disch := first | assumption | omega | (simp only [ZDI]; omega)) only [*,Int.natCast_zero,G53,Za,Zb,Zc,Zd,Ze,Zf,Zg,Zh,Zi,Zj,Zk,Zl,Zm,Zn,Zo,Ja,Jb,Jc,J3,Jd,Je,J4,J5,Jf,Jg,Jh,Ji,Jj,Jk,J6,Jl,Jm,wr,Jn,J7,J8,Jo,Jp,Jq,Jr,Js,Jt,Ju,Jv,Jw,Jx,Jy,Jz,J0,J1,J2,reduceCtorEq,J9,JA,JB,JC,JD,JE,JF,JG]) | ((with_reducible (first | apply Ok.br | apply Ok.gd | apply Ok.ld)) <;> (intro g; (try simp only [ZGS] at g); try (exfalso; omega)))))
    all_goals omega
  · obtain ⟨c, hc⟩ := byte_last h0
    have ht := textB_1 h0 hc
    have h1 : ¬ (s.size : Int) = 0 := by omega
    have e1 : ((s.size : Int) - 1).toNat = s.size - 1 := by omega
    (refine Ok.body body53 pin53 ?_; simp only [c53,Try.f53,Option.getD_some,nslot53,List.append_nil,List.map,List.replicate,List.length_cons,List.length_nil,Nat.reduceAdd,Nat.reduceSub,List.cons_append,List.nil_append])
    (repeat' (first | (simp -implicitDefEqProofs (maxSteps := 1000000) (disch := first | assumption | omega | (simp only [ZDI]; omega)) only [*,indexV,G53,Za,Zb,Zc,Zd,Ze,Zf,Zg,Zh,Zi,Zj,Zk,Zl,Zm,Zn,Zo,Ja,Jb,Jc,J3,Jd,Je,J4,J5,Jf,Jg,Jh,Ji,Jj,Jk,J6,Jl,Jm,wr,Jn,J7,J8,Jo,Jp,Jq,Jr,Js,Jt,Ju,Jv,Jw,Jx,Jy,Jz,J0,J1,J2,reduceCtorEq,J9,JA,JB,JC,JD,JE,JF,JG]) | ((with_reducible (first | apply Ok.br | apply Ok.gd | apply Ok.ld)) <;> (intro g; (try simp only [ZGS] at g); try (exfalso; omega)))))
theorem notText_at (s : ByteArray) (h : Heap) : D X (.fn 76 []) [.str s] h = some (.bool (!textB s), h) := by
  refine Ok.eq ?_
  (refine Ok.body body76 pin76 ?_; simp only [c76,Try.f76,Option.getD_some,nslot76,List.append_nil,List.map,List.replicate,List.length_cons,List.length_nil,Nat.reduceAdd,Nat.reduceSub,List.cons_append,List.nil_append])
  (repeat' (first | (simp -implicitDefEqProofs (maxSteps := 1000000) (disch := first | assumption | omega | (simp only [ZDI]; omega)) only [*,isText_at,G76,Za,Zb,Zc,Zd,Ze,Zf,Zg,Zh,Zi,Zj,Zk,Zl,Zm,Zn,Zo,Ja,Jb,Jc,J3,Jd,Je,J4,J5,Jf,Jg,Jh,Ji,Jj,Jk,J6,Jl,Jm,wr,Jn,J7,J8,Jo,Jp,Jq,Jr,Js,Jt,Ju,Jv,Jw,Jx,Jy,Jz,J0,J1,J2,reduceCtorEq,J9,JA,JB,JC,JD,JE,JF,JG]) | ((with_reducible (first | apply Ok.br | apply Ok.gd | apply Ok.ld)) <;> (intro g; (try simp only [ZGS] at g); try (exfalso; omega)))))
def StrsAt (h : Heap) (v : V) (l : List ByteArray) : Prop :=
  ∃ a cap z, v = .sl a l.length cap z /\ l.length <= 9223372036854775807 /\ True /\ (l = [] \/ ∃ b g o rw full, a = .at b g o /\ hcells h b g = some (rw, full) /\ ∀ (i : Nat) (s : ByteArray), l[i]? = some s -> full[o + i]? = some (.str s))
theorem Strs.at {h : Heap} {v : V} {l : List ByteArray} (hs : Strs h v l) : StrsAt h v l := by
  obtain ⟨h1, h2, ⟨rfl, rfl⟩ | ⟨rfl, rfl⟩ | ⟨b, cap, full, rfl, h3, h4, h5, h6, h7⟩⟩ := hs
  · exact ⟨_, _, _, rfl, h2, trivial, .inl rfl⟩
  · exact ⟨_, _, _, rfl, h2, trivial, .inl rfl⟩
  · refine ⟨_, _, _, rfl, h2, trivial, .inr ⟨b, 0, 0, false, full, rfl, by unfold hcells; rw [h5]; exact grd_t rfl _, fun i s hi => by rw [Nat.zero_add]; exact h7 i s hi⟩⟩
theorem indexFunc_at {h : Heap} {a : SA} {cap z : Nat} {l : List ByteArray} (hl : l.length <= 9223372036854775807)
    (ha : l = [] \/ ∃ b g o rw full, a = .at b g o /\ hcells h b g = some (rw, full) /\ ∀ (i : Nat) (s : ByteArray), l[i]? = some s -> full[o + i]? = some (.str s))
    {f : FuncId} {cp : List V} (p : ByteArray -> Bool) (hp : ∀ s, D X (.fn f cp) [.str s] h = some (.bool (p s), h)) :
    Ok (D X (.fn 95 []) [.sl a l.length cap z, .fn f cp] h) fun r => ∃ n : Int, r = (.int .i64 n, h) /\ (0 <= n ↔ l.any p = true) := by
  refine Ok.aim fun Q hQ => ?_
  have hQ' := Hid.mk hQ
  clear hQ
  (refine Ok.body body95 pin95 ?_; simp only [c95,Try.f95,Option.getD_some,nslot95,List.append_nil,List.map,List.replicate,List.length_cons,List.length_nil,Nat.reduceAdd,Nat.reduceSub,List.cons_append,List.nil_append])
  simp -implicitDefEqProofs (maxSteps := 1000000) (disch := first | assumption | omega | (simp only [ZDI]; omega)) only [*,G95,Za,Zb,Zc,Zd,Ze,Zf,Zg,Zh,Zi,Zj,Zk,Zl,Zm,Zn,Zo,Ja,Jb,Jc,J3,Jd,Je,J4,J5,Jf,Jg,Jh,Ji,Jj,Jk,J6,Jl,Jm,wr,Jn,J7,J8,Jo,Jp,Jq,Jr,Js,Jt,Ju,Jv,Jw,Jx,Jy,Jz,J0,J1,J2,reduceCtorEq,J9,JA,JB,JC,JD,JE,JF,JG]
  refine Ok.loop [BF, BF, BF, BF, BT, BT, BF, BF, BT, BT, BT, BT, BT, BT, BT, BT, BT, BT, BT] (fun n s => ∃ i : Nat, n = l.length - i /\ i <= l.length /\ tv s.e 8 = .v (.int .i64 i) /\ s.l = [] /\ s.h = h /\ ∀ (j : Nat) (s : ByteArray), j < i -> l[j]? = some s -> p s = false)
    (fun x s => s.l = [] /\ s.h = h /\ ((x = .exit 0 /\ l.any p = false) \/ (x = .ret /\ l.any p = true /\ ∃ i : Nat, tv s.e 4 = .v (.int .i64 i)))) (l.length - 0) ⟨0, rfl, by omega, rfl, rfl, rfl, fun j s hj => by omega⟩ ?_ ?_
  · intro n ⟨e', l', h'⟩ hW ⟨i, hn, hi, h8, h1, h2, hno⟩
    dsimp only at hW h8 h1 h2
    subst l' h'
    rw [hW.spread]
    simp only [spread_t,spread_f,spread_n,Nat.zero_add,Nat.reduceAdd,h8]
    by_cases hlt : i < l.length
    · rcases ha with rfl | ⟨b, g, o, rw, full, rfl, hb, hfull⟩
      · simp at hlt
      · obtain ⟨s, hs⟩ : ∃ s, l[i]? = some s := ⟨_, List.getElem?_eq_getElem hlt⟩
        have hf := hfull i s hs
        have hfn := hp s
        cases hps : p s with
        | true =>
          rw [hps] at hfn
          simp -implicitDefEqProofs (maxSteps := 1000000) (disch := first | assumption | omega | (simp only [ZDI]; omega)) only [*,Int.ofNat_lt,Int.natCast_nonneg,G95,Za,Zb,Zc,Zd,Ze,Zf,Zg,Zh,Zi,Zj,Zk,Zl,Zm,Zn,Zo,Ja,Jb,Jc,J3,Jd,Je,J4,J5,Jf,Jg,Jh,Ji,Jj,Jk,J6,Jl,Jm,wr,Jn,J7,J8,Jo,Jp,Jq,Jr,Js,Jt,Ju,Jv,Jw,Jx,Jy,Jz,J0,J1,J2,reduceCtorEq,J9,JA,JB,JC,JD,JE,JF,JG]
          exact Turn.ret ⟨rfl, rfl, rfl, .inr ⟨rfl, List.any_eq_true.2 ⟨s, List.mem_of_getElem? hs, hps⟩, i, rfl⟩⟩
        | false =>
          rw [hps] at hfn
          simp -implicitDefEqProofs (maxSteps := 1000000) (disch := first | assumption | omega | (simp only [ZDI]; omega)) only [*,Int.ofNat_lt,Int.natCast_nonneg,G95,Za,Zb,Zc,Zd,Ze,Zf,Zg,Zh,Zi,Zj,Zk,Zl,Zm,Zn,Zo,Ja,Jb,Jc,J3,Jd,Je,J4,J5,Jf,Jg,Jh,Ji,Jj,Jk,J6,Jl,Jm,wr,Jn,J7,J8,Jo,Jp,Jq,Jr,Js,Jt,Ju,Jv,Jw,Jx,Jy,Jz,J0,J1,J2,reduceCtorEq,J9,JA,JB,JC,JD,JE,JF,JG]
          refine Turn.next (l.length - (i + 1)) (by omega) ⟨rfl, i + 1, rfl, by omega, rfl, rfl, rfl, fun j s' hj hs' => ?_⟩
          by_cases hji : j = i
          · subst hji
            rw [hs] at hs'
            cases hs'
            exact hps
          · exact hno j s' (by omega) hs'
    · simp -implicitDefEqProofs (maxSteps := 1000000) (disch := first | assumption | omega | (simp only [ZDI]; omega)) only [*,Int.ofNat_lt,G95,Za,Zb,Zc,Zd,Ze,Zf,Zg,Zh,Zi,Zj,Zk,Zl,Zm,Zn,Zo,Ja,Jb,Jc,J3,Jd,Je,J4,J5,Jf,Jg,Jh,Ji,Jj,Jk,J6,Jl,Jm,wr,Jn,J7,J8,Jo,Jp,Jq,Jr,Js,Jt,Ju,Jv,Jw,Jx,Jy,Jz,J0,J1,J2,reduceCtorEq,J9,JA,JB,JC,JD,JE,JF,JG]
      refine Turn.exit ⟨rfl, rfl, rfl, .inl ⟨rfl, ?_⟩⟩
      rw [List.any_eq_false]
      intro s hs
      obtain ⟨j, hj⟩ := List.getElem?_of_mem hs
      have := (List.getElem?_eq_some_iff.1 hj).1
      rw [hno j s (by omega) hj]
      simp
  · intro x ⟨e', l', h'⟩ hW ⟨h1, h2, hE⟩
    dsimp only at hW h1 h2 hE
    subst l' h'
    rw [hW.spread]
    rcases hE with ⟨rfl, hany⟩ | ⟨rfl, hany, i, h4⟩
    · simp only [spread_t,spread_f,spread_n,Nat.zero_add,Nat.reduceAdd]
      simp -implicitDefEqProofs (maxSteps := 1000000) (disch := first | assumption | omega | (simp only [ZDI]; omega)) only [*,Int.ofNat_lt,G95,Za,Zb,Zc,Zd,Ze,Zf,Zg,Zh,Zi,Zj,Zk,Zl,Zm,Zn,Zo,Ja,Jb,Jc,J3,Jd,Je,J4,J5,Jf,Jg,Jh,Ji,Jj,Jk,J6,Jl,Jm,wr,Jn,J7,J8,Jo,Jp,Jq,Jr,Js,Jt,Ju,Jv,Jw,Jx,Jy,Jz,J0,J1,J2,reduceCtorEq,J9,JA,JB,JC,JD,JE,JF,JG]
      exact hQ'.out _ ⟨-1, rfl, by rw [hany]; simp⟩
    · simp only [spread_t,spread_f,spread_n,Nat.zero_add,Nat.reduceAdd,h4]
      simp -implicitDefEqProofs (maxSteps := 1000000) (disch := first | assumption | omega | (simp only [ZDI]; omega)) only [*,Int.ofNat_lt,G95,Za,Zb,Zc,Zd,Ze,Zf,Zg,Zh,Zi,Zj,Zk,Zl,Zm,Zn,Zo,Ja,Jb,Jc,J3,Jd,Je,J4,J5,Jf,Jg,Jh,Ji,Jj,Jk,J6,Jl,Jm,wr,Jn,J7,J8,Jo,Jp,Jq,Jr,Js,Jt,Ju,Jv,Jw,Jx,Jy,Jz,J0,J1,J2,reduceCtorEq,J9,JA,JB,JC,JD,JE,JF,JG]
      exact hQ'.out _ ⟨i, rfl, by simp [hany]⟩
theorem containsFunc_at {h : Heap} {v : V} {l : List ByteArray} (hv : StrsAt h v l) {f : FuncId} {cp : List V} (p : ByteArray -> Bool) (hp : ∀ s, D X (.fn f cp) [.str s] h = some (.bool (p s), h)) :
    D X (.fn 75 []) [v, .fn f cp] h = some (.bool (l.any p), h) := by
  refine Ok.eq ?_
  obtain ⟨a, cap, z, rfl, hl, _, ha⟩ := hv
  obtain ⟨r, hr, n, rfl, hn⟩ := indexFunc_at (cap := cap) (z := z) hl ha p hp
  clear hp
  (refine Ok.body body75 pin75 ?_; simp only [c75,Try.f75,Option.getD_some,nslot75,List.append_nil,List.map,List.replicate,List.length_cons,List.length_nil,Nat.reduceAdd,Nat.reduceSub,List.cons_append,List.nil_append])
  simp -implicitDefEqProofs (maxSteps := 1000000) (disch := first | assumption | omega | (simp only [ZDI]; omega)) only [*,G75,Za,Zb,Zc,Zd,Ze,Zf,Zg,Zh,Zi,Zj,Zk,Zl,Zm,Zn,Zo,Ja,Jb,Jc,J3,Jd,Je,J4,J5,Jf,Jg,Jh,Ji,Jj,Jk,J6,Jl,Jm,wr,Jn,J7,J8,Jo,Jp,Jq,Jr,Js,Jt,Ju,Jv,Jw,Jx,Jy,Jz,J0,J1,J2,reduceCtorEq,J9,JA,JB,JC,JD,JE,JF,JG]
  have e : decide (0 <= n) = l.any p := by
    cases hb : l.any p
    · rw [hb] at hn; simpa using hn
    · rw [hb] at hn; simpa using hn
  simp only [Bool.decide_eq_true]
theorem isClients_at (o : Int) (h : Heap) : D X (.fn 74 []) [.int .i64 o] h = some (.bool (decide (1 <= o /\ o <= 4)), h) := by
  refine Ok.eq ?_
  (refine Ok.body body74 pin74 ?_; simp only [c74,Try.f74,Option.getD_some,nslot74,List.append_nil,List.map,List.replicate,List.length_cons,List.length_nil,Nat.reduceAdd,Nat.reduceSub,List.cons_append,List.nil_append])
  (repeat' (first | (simp -implicitDefEqProofs (maxSteps := 1000000) (disch := first | assumption | omega | (simp only [ZDI]; omega)) only [*,G74,Za,Zb,Zc,Zd,Ze,Zf,Zg,Zh,Zi,Zj,Zk,Zl,Zm,Zn,Zo,Ja,Jb,Jc,J3,Jd,Je,J4,J5,Jf,Jg,Jh,Ji,Jj,Jk,J6,Jl,Jm,wr,Jn,J7,J8,Jo,Jp,Jq,Jr,Js,Jt,Ju,Jv,Jw,Jx,Jy,Jz,J0,J1,J2,reduceCtorEq,J9,JA,JB,JC,JD,JE,JF,JG]) | ((with_reducible (first | apply Ok.br | apply Ok.gd | apply Ok.ld)) <;> (intro g; (try simp only [ZGS] at g); try (exfalso; omega)))))
  all_goals (first | rfl | (exfalso; omega) | exact leaf_t (by (try simp only [Bool.and_eq_true,Bool.or_eq_true,decide_eq_true_eq,Bool.not_eq_true',decide_eq_false_iff_not,Bool.false_eq_true,Bool.true_eq_false,Bool.not_false,Bool.not_true,eq_self,iff_true,iff_false,true_iff,false_iff,false_or,true_or,or_false,or_true,true_and,and_true,false_and,and_false,not_true_eq_false,not_false_eq_true]); (first | done | omega)) | exact leaf_f (by (try simp only [Bool.and_eq_true,Bool.or_eq_true,decide_eq_true_eq,Bool.not_eq_true',decide_eq_false_iff_not,Bool.false_eq_true,Bool.true_eq_false,Bool.not_false,Bool.not_true,eq_self,iff_true,iff_false,true_iff,false_iff,false_or,true_or,or_false,or_true,true_and,and_true,false_and,and_false,not_true_eq_false,not_false_eq_true]); (first | done | omega)) | exact leaf_b (by (try simp only [Bool.and_eq_true,Bool.or_eq_true,decide_eq_true_eq,Bool.not_eq_true',decide_eq_false_iff_not,Bool.false_eq_true,Bool.true_eq_false,Bool.not_false,Bool.not_true,eq_self,iff_true,iff_false,true_iff,false_iff,false_or,true_or,or_false,or_true,true_and,and_true,false_and,and_false,not_true_eq_false,not_false_eq_true]); (first | done | omega)))
theorem plain_at (o c q f t : Int) (a : SA) (n cap z : Nat) (h : Heap) : D X (.fn 73 []) [.agg [.int .i64 o, .int .i64 c, .int .i64 q, .int .i64 f, .int .i64 t, .sl a n cap z]] h = some (.bool (decide (c = 0 /\ q = 0 /\ f = 0 /\ t = 0 /\ (n : Int) = 0)), h) := by
  refine Ok.eq ?_
  (refine Ok.body body73 pin73 ?_; simp only [c73,Try.f73,Option.getD_some,nslot73,List.append_nil,List.map,List.replicate,List.length_cons,List.length_nil,Nat.reduceAdd,Nat.reduceSub,List.cons_append,List.nil_append])
  (repeat' (first | (simp -implicitDefEqProofs (maxSteps := 1000000) (disch := first | assumption | omega | (simp only [ZDI]; omega)) only [*,lenV,G73,Za,Zb,Zc,Zd,Ze,Zf,Zg,Zh,Zi,Zj,Zk,Zl,Zm,Zn,Zo,Ja,Jb,Jc,J3,Jd,Je,J4,J5,Jf,Jg,Jh,Ji,Jj,Jk,J6,Jl,Jm,wr,Jn,J7,J8,Jo,Jp,Jq,Jr,Js,Jt,Ju,Jv,Jw,Jx,Jy,Jz,J0,J1,J2,reduceCtorEq,J9,JA,JB,JC,JD,JE,JF,JG]) | ((with_reducible (first | apply Ok.br | apply Ok.gd | apply Ok.ld)) <;> (intro g; (try simp only [ZGS] at g); try (exfalso; omega)))))
  all_goals (first | rfl | (exfalso; omega) | exact leaf_t (by (try simp only [Bool.and_eq_true,Bool.or_eq_true,decide_eq_true_eq,Bool.not_eq_true',decide_eq_false_iff_not,Bool.false_eq_true,Bool.true_eq_false,Bool.not_false,Bool.not_true,eq_self,iff_true,iff_false,true_iff,false_iff,false_or,true_or,or_false,or_true,true_and,and_true,false_and,and_false,not_true_eq_false,not_false_eq_true]); (first | done | omega)) | exact leaf_f (by (try simp only [Bool.and_eq_true,Bool.or_eq_true,decide_eq_true_eq,Bool.not_eq_true',decide_eq_false_iff_not,Bool.false_eq_true,Bool.true_eq_false,Bool.not_false,Bool.not_true,eq_self,iff_true,iff_false,true_iff,false_iff,false_or,true_or,or_false,or_true,true_and,and_true,false_and,and_false,not_true_eq_false,not_false_eq_true]); (first | done | omega)) | exact leaf_b (by (try simp only [Bool.and_eq_true,Bool.or_eq_true,decide_eq_true_eq,Bool.not_eq_true',decide_eq_false_iff_not,Bool.false_eq_true,Bool.true_eq_false,Bool.not_false,Bool.not_true,eq_self,iff_true,iff_false,true_iff,false_iff,false_or,true_or,or_false,or_true,true_and,and_true,false_and,and_false,not_true_eq_false,not_false_eq_true]); (first | done | omega)))
def mayP (o c q f t : Int) (l : List ByteArray) : Prop :=
  ((o = 0 \/ o = 5) /\ c = 0 /\ q = 0 /\ f = 0 /\ t = 0 /\ (l.length : Int) = 0) \/
  ((1 <= o /\ o <= 4) /\ (0 <= c /\ c <= 3) /\ (1 <= q /\ q <= 1099511627776) /\ (0 <= f /\ f < t /\ t <= 256 /\ t - f <= 16) /\ ((o ≠ 2 /\ (l.length : Int) = 0) \/ (o = 2 /\ (l.length : Int) = t - f /\ (l.any fun s => !textB s) = false)))
instance (o c q f t : Int) (l : List ByteArray) : Decidable (mayP o c q f t l) := by unfold mayP; infer_instance
theorem may_at {o c q f t : Int} {v : V} {l : List ByteArray} {h : Heap} (hv : StrsAt h v l) : D X (.fn 46 []) [.agg [.int .i64 o, .int .i64 c, .int .i64 q, .int .i64 f, .int .i64 t, v]] h = some (.bool (decide (mayP o c q f t l)), h) := by
  refine Ok.eq ?_
  have hc := containsFunc_at hv _ (fun s => notText_at s h)
  obtain ⟨a, cap, z, rfl, hl, _, ha⟩ := hv
  clear ha
  generalize hb : (l.any fun s => !textB s) = b at hc
  (refine Ok.body body46 pin46 ?_; simp only [c46,Try.f46,Option.getD_some,nslot46,List.append_nil,List.map,List.replicate,List.length_cons,List.length_nil,Nat.reduceAdd,Nat.reduceSub,List.cons_append,List.nil_append])
  (repeat' (first | (simp -implicitDefEqProofs (maxSteps := 1000000) (disch := first | assumption | omega | (simp only [ZDI]; omega)) only [*,plain_at,isClients_at,lenV,G46,Za,Zb,Zc,Zd,Ze,Zf,Zg,Zh,Zi,Zj,Zk,Zl,Zm,Zn,Zo,Ja,Jb,Jc,J3,Jd,Je,J4,J5,Jf,Jg,Jh,Ji,Jj,Jk,J6,Jl,Jm,wr,Jn,J7,J8,Jo,Jp,Jq,Jr,Js,Jt,Ju,Jv,Jw,Jx,Jy,Jz,J0,J1,J2,reduceCtorEq,J9,JA,JB,JC,JD,JE,JF,JG]) | ((with_reducible (first | apply Ok.br | apply Ok.gd | apply Ok.ld)) <;> (intro g; (try simp only [ZGS] at g); try (exfalso; omega)))))
  all_goals (clear hc; cases b <;> (first | rfl | (exfalso; omega) | exact leaf_t (by (try unfold mayP); (try simp only [hb,Bool.and_eq_true,Bool.or_eq_true,decide_eq_true_eq,Bool.not_eq_true',decide_eq_false_iff_not,Bool.false_eq_true,Bool.true_eq_false,Bool.not_false,Bool.not_true,eq_self,iff_true,iff_false,true_iff,false_iff,false_or,true_or,or_false,or_true,true_and,and_true,false_and,and_false,not_true_eq_false,not_false_eq_true]); (first | done | omega)) | exact leaf_f (by (try unfold mayP); (try simp only [hb,Bool.and_eq_true,Bool.or_eq_true,decide_eq_true_eq,Bool.not_eq_true',decide_eq_false_iff_not,Bool.false_eq_true,Bool.true_eq_false,Bool.not_false,Bool.not_true,eq_self,iff_true,iff_false,true_iff,false_iff,false_or,true_or,or_false,or_true,true_and,and_true,false_and,and_false,not_true_eq_false,not_false_eq_true]); (first | done | omega)) | exact leaf_b (by (try unfold mayP); (try simp only [hb,Bool.and_eq_true,Bool.or_eq_true,decide_eq_true_eq,Bool.not_eq_true',decide_eq_false_iff_not,Bool.false_eq_true,Bool.true_eq_false,Bool.not_false,Bool.not_true,eq_self,iff_true,iff_false,true_iff,false_iff,false_or,true_or,or_false,or_true,true_and,and_true,false_and,and_false,not_true_eq_false,not_false_eq_true]); (first | done | omega))))
set_option maxHeartbeats 2000000 in
theorem rMay_at {o c q f t : Int} {v : V} {l : List ByteArray} {h : Heap} (hv : StrsAt h v l) : D X (.fn 21 []) [.agg [.int .i64 o, .int .i64 c, .int .i64 q, .int .i64 f, .int .i64 t, v]] h = some (.bool (decide (mayP o c q f t l)), h) := by
  refine Ok.eq ?_
  refine Ok.aim fun Q hQ => ?_
  have hQ' := Hid.mk hQ
  clear hQ
  obtain ⟨a, cap, z, rfl, hl, _, ha⟩ := hv
  have hh := Hid.mk ha
  clear ha
  (refine Ok.body body21 pin21 ?_; simp only [c21,Try.f21,Option.getD_some,nslot21,List.append_nil,List.map,List.replicate,List.length_cons,List.length_nil,Nat.reduceAdd,Nat.reduceSub,List.cons_append,List.nil_append])
  (repeat' (first | (simp -implicitDefEqProofs (maxSteps := 1000000) (disch := first | assumption | omega | (simp only [ZDI]; omega)) only [*,lenV,G21,Za,Zb,Zc,Zd,Ze,Zf,Zg,Zh,Zi,Zj,Zk,Zl,Zm,Zn,Zo,Ja,Jb,Jc,J3,Jd,Je,J4,J5,Jf,Jg,Jh,Ji,Jj,Jk,J6,Jl,Jm,wr,Jn,J7,J8,Jo,Jp,Jq,Jr,Js,Jt,Ju,Jv,Jw,Jx,Jy,Jz,J0,J1,J2,reduceCtorEq,J9,JA,JB,JC,JD,JE,JF,JG]) | ((with_reducible (first | apply Ok.br | apply Ok.gd | apply Ok.ld)) <;> (intro g; (try simp only [ZGS] at g); try (exfalso; omega)))))
  all_goals try (refine hQ'.out _ ?_; cases hb : (l.any fun s => !textB s) <;> (first | rfl | (exfalso; omega) | exact leaf_t (by (try unfold mayP); (try simp only [hb,Bool.and_eq_true,Bool.or_eq_true,decide_eq_true_eq,Bool.not_eq_true',decide_eq_false_iff_not,Bool.false_eq_true,Bool.true_eq_false,Bool.not_false,Bool.not_true,eq_self,iff_true,iff_false,true_iff,false_iff,false_or,true_or,or_false,or_true,true_and,and_true,false_and,and_false,not_true_eq_false,not_false_eq_true]); (first | done | omega)) | exact leaf_f (by (try unfold mayP); (try simp only [hb,Bool.and_eq_true,Bool.or_eq_true,decide_eq_true_eq,Bool.not_eq_true',decide_eq_false_iff_not,Bool.false_eq_true,Bool.true_eq_false,Bool.not_false,Bool.not_true,eq_self,iff_true,iff_false,true_iff,false_iff,false_or,true_or,or_false,or_true,true_and,and_true,false_and,and_false,not_true_eq_false,not_false_eq_true]); (first | done | omega)) | exact leaf_b (by (try unfold mayP); (try simp only [hb,Bool.and_eq_true,Bool.or_eq_true,decide_eq_true_eq,Bool.not_eq_true',decide_eq_false_iff_not,Bool.false_eq_true,Bool.true_eq_false,Bool.not_false,Bool.not_true,eq_self,iff_true,iff_false,true_iff,false_iff,false_or,true_or,or_false,or_true,true_and,and_true,false_and,and_false,not_true_eq_false,not_false_eq_true]); (first | done | omega))))
  refine Ok.loop [BF, BF, BT, BF, BT, BF, BF, BF, BF, BF, BF, BF, BF, BF, BF, BF, BF, BF, BF, BF, BF, BF, BF, BF, BF, BF, BF, BF, BF, BF, BF, BF, BF, BF, BF, BF, BF, BF, BF, BF, BF, BF, BF, BF, BF, BF, BF, BF, BF, BF, BF, BF, BF, BF, BF, BF, BF, BF, BF, BF, BF, BF, BF, BF, BF, BF, BF, BF, BF, BF, BF, BF, BF, BF, BF, BF, BF, BF, BF, BF, BF, BF, BF, BF, BF, BF, BF, BF, BF, BF, BF, BF, BF, BF, BF, BF, BF, BF, BF, BF, BT, BT, BT, BT, BT, BT, BT, BT, BF, BF, BF, BF, BF, BF, BF, BF, BF] (fun n s => ∃ i : Nat, n = l.length - i /\ i <= l.length /\ tv s.e 100 = .v (.int .i64 i) /\ s.l = [(1, [.int .i64 2, .int .i64 c, .int .i64 q, .int .i64 f, .int .i64 t, .sl a l.length cap z])] /\ s.h = h /\ ∀ (j : Nat) (s : ByteArray), j < i -> l[j]? = some s -> textB s = true)
    (fun x s => s.l = [(1, [.int .i64 2, .int .i64 c, .int .i64 q, .int .i64 f, .int .i64 t, .sl a l.length cap z])] /\ s.h = h /\ ((x = .exit 0 /\ (l.any fun s => !textB s) = false) \/ (x = .ret /\ (l.any fun s => !textB s) = true /\ tv s.e 2 = .v (.bool false)))) (l.length - 0) ⟨0, rfl, by omega, rfl, rfl, rfl, fun j s hj => by omega⟩ ?_ ?_
  · intro n ⟨e', l', h'⟩ hW ⟨i, hn, hi, h8, h1, h2, hno⟩
    dsimp only at hW h8 h1 h2
    subst l' h'
    rw [hW.spread]
    simp only [spread_t,spread_f,spread_n,Nat.zero_add,Nat.reduceAdd,h8]
    by_cases hlt : i < l.length
    · rcases hh.out with rfl | ⟨b, g, o, rw, full, rfl, hb, hfull⟩
      · simp at hlt
      · obtain ⟨s, hs⟩ : ∃ s, l[i]? = some s := ⟨_, List.getElem?_eq_getElem hlt⟩
        have hf := hfull i s hs
        have hfn := rIsText_at s h
        cases hps : textB s with
        | false =>
          rw [hps] at hfn
          simp -implicitDefEqProofs (maxSteps := 1000000) (disch := first | assumption | omega | (simp only [ZDI]; omega)) only [*,Int.ofNat_lt,Int.natCast_nonneg,G21,Za,Zb,Zc,Zd,Ze,Zf,Zg,Zh,Zi,Zj,Zk,Zl,Zm,Zn,Zo,Ja,Jb,Jc,J3,Jd,Je,J4,J5,Jf,Jg,Jh,Ji,Jj,Jk,J6,Jl,Jm,wr,Jn,J7,J8,Jo,Jp,Jq,Jr,Js,Jt,Ju,Jv,Jw,Jx,Jy,Jz,J0,J1,J2,reduceCtorEq,J9,JA,JB,JC,JD,JE,JF,JG]
          exact Turn.ret ⟨rfl, rfl, rfl, .inr ⟨rfl, List.any_eq_true.2 ⟨s, List.mem_of_getElem? hs, by rw [hps]; rfl⟩, rfl⟩⟩
        | true =>
          rw [hps] at hfn
          simp -implicitDefEqProofs (maxSteps := 1000000) (disch := first | assumption | omega | (simp only [ZDI]; omega)) only [*,Int.ofNat_lt,Int.natCast_nonneg,G21,Za,Zb,Zc,Zd,Ze,Zf,Zg,Zh,Zi,Zj,Zk,Zl,Zm,Zn,Zo,Ja,Jb,Jc,J3,Jd,Je,J4,J5,Jf,Jg,Jh,Ji,Jj,Jk,J6,Jl,Jm,wr,Jn,J7,J8,Jo,Jp,Jq,Jr,Js,Jt,Ju,Jv,Jw,Jx,Jy,Jz,J0,J1,J2,reduceCtorEq,J9,JA,JB,JC,JD,JE,JF,JG]
          refine Turn.next (l.length - (i + 1)) (by omega) ⟨rfl, i + 1, rfl, by omega, rfl, rfl, rfl, fun j s' hj hs' => ?_⟩
          by_cases hji : j = i
          · subst hji
            rw [hs] at hs'
            cases hs'
            exact hps
          · exact hno j s' (by omega) hs'
    · simp -implicitDefEqProofs (maxSteps := 1000000) (disch := first | assumption | omega | (simp only [ZDI]; omega)) only [*,Int.ofNat_lt,G21,Za,Zb,Zc,Zd,Ze,Zf,Zg,Zh,Zi,Zj,Zk,Zl,Zm,Zn,Zo,Ja,Jb,Jc,J3,Jd,Je,J4,J5,Jf,Jg,Jh,Ji,Jj,Jk,J6,Jl,Jm,wr,Jn,J7,J8,Jo,Jp,Jq,Jr,Js,Jt,Ju,Jv,Jw,Jx,Jy,Jz,J0,J1,J2,reduceCtorEq,J9,JA,JB,JC,JD,JE,JF,JG]
      refine Turn.exit ⟨rfl, rfl, rfl, .inl ⟨rfl, ?_⟩⟩
      rw [List.any_eq_false]
      intro s hs
      obtain ⟨j, hj⟩ := List.getElem?_of_mem hs
      have := (List.getElem?_eq_some_iff.1 hj).1
      rw [hno j s (by omega) hj]
      simp
  · intro x ⟨e', l', h'⟩ hW ⟨h1, h2, hE⟩
    dsimp only at hW h1 h2 hE
    subst l' h'
    rw [hW.spread]
    rcases hE with ⟨rfl, hany⟩ | ⟨rfl, hany, h4⟩
    · simp only [spread_t,spread_f,spread_n,Nat.zero_add,Nat.reduceAdd]
      simp -implicitDefEqProofs (maxSteps := 1000000) (disch := first | assumption | omega | (simp only [ZDI]; omega)) only [*,lenV,G21,Za,Zb,Zc,Zd,Ze,Zf,Zg,Zh,Zi,Zj,Zk,Zl,Zm,Zn,Zo,Ja,Jb,Jc,J3,Jd,Je,J4,J5,Jf,Jg,Jh,Ji,Jj,Jk,J6,Jl,Jm,wr,Jn,J7,J8,Jo,Jp,Jq,Jr,Js,Jt,Ju,Jv,Jw,Jx,Jy,Jz,J0,J1,J2,reduceCtorEq,J9,JA,JB,JC,JD,JE,JF,JG]
      refine hQ'.out _ ?_
      (first | rfl | (exfalso; omega) | exact leaf_t (by (try unfold mayP); (try simp only [hany,Bool.and_eq_true,Bool.or_eq_true,decide_eq_true_eq,Bool.not_eq_true',decide_eq_false_iff_not,Bool.false_eq_true,Bool.true_eq_false,Bool.not_false,Bool.not_true,eq_self,iff_true,iff_false,true_iff,false_iff,false_or,true_or,or_false,or_true,true_and,and_true,false_and,and_false,not_true_eq_false,not_false_eq_true]); (first | done | omega)) | exact leaf_f (by (try unfold mayP); (try simp only [hany,Bool.and_eq_true,Bool.or_eq_true,decide_eq_true_eq,Bool.not_eq_true',decide_eq_false_iff_not,Bool.false_eq_true,Bool.true_eq_false,Bool.not_false,Bool.not_true,eq_self,iff_true,iff_false,true_iff,false_iff,false_or,true_or,or_false,or_true,true_and,and_true,false_and,and_false,not_true_eq_false,not_false_eq_true]); (first | done | omega)) | exact leaf_b (by (try unfold mayP); (try simp only [hany,Bool.and_eq_true,Bool.or_eq_true,decide_eq_true_eq,Bool.not_eq_true',decide_eq_false_iff_not,Bool.false_eq_true,Bool.true_eq_false,Bool.not_false,Bool.not_true,eq_self,iff_true,iff_false,true_iff,false_iff,false_or,true_or,or_false,or_true,true_and,and_true,false_and,and_false,not_true_eq_false,not_false_eq_true]); (first | done | omega)))
    · simp only [spread_t,spread_f,spread_n,Nat.zero_add,Nat.reduceAdd,h4]
      simp -implicitDefEqProofs (maxSteps := 1000000) (disch := first | assumption | omega | (simp only [ZDI]; omega)) only [*,lenV,G21,Za,Zb,Zc,Zd,Ze,Zf,Zg,Zh,Zi,Zj,Zk,Zl,Zm,Zn,Zo,Ja,Jb,Jc,J3,Jd,Je,J4,J5,Jf,Jg,Jh,Ji,Jj,Jk,J6,Jl,Jm,wr,Jn,J7,J8,Jo,Jp,Jq,Jr,Js,Jt,Ju,Jv,Jw,Jx,Jy,Jz,J0,J1,J2,reduceCtorEq,J9,JA,JB,JC,JD,JE,JF,JG]
      refine hQ'.out _ ?_
      (first | rfl | (exfalso; omega) | exact leaf_t (by (try unfold mayP); (try simp only [hany,Bool.and_eq_true,Bool.or_eq_true,decide_eq_true_eq,Bool.not_eq_true',decide_eq_false_iff_not,Bool.false_eq_true,Bool.true_eq_false,Bool.not_false,Bool.not_true,eq_self,iff_true,iff_false,true_iff,false_iff,false_or,true_or,or_false,or_true,true_and,and_true,false_and,and_false,not_true_eq_false,not_false_eq_true]); (first | done | omega)) | exact leaf_f (by (try unfold mayP); (try simp only [hany,Bool.and_eq_true,Bool.or_eq_true,decide_eq_true_eq,Bool.not_eq_true',decide_eq_false_iff_not,Bool.false_eq_true,Bool.true_eq_false,Bool.not_false,Bool.not_true,eq_self,iff_true,iff_false,true_iff,false_iff,false_or,true_or,or_false,or_true,true_and,and_true,false_and,and_false,not_true_eq_false,not_false_eq_true]); (first | done | omega)) | exact leaf_b (by (try unfold mayP); (try simp only [hany,Bool.and_eq_true,Bool.or_eq_true,decide_eq_true_eq,Bool.not_eq_true',decide_eq_false_iff_not,Bool.false_eq_true,Bool.true_eq_false,Bool.not_false,Bool.not_true,eq_self,iff_true,iff_false,true_iff,false_iff,false_or,true_or,or_false,or_true,true_and,and_true,false_and,and_false,not_true_eq_false,not_false_eq_true]); (first | done | omega)))
end Go.Ev
set_option maxRecDepth 100000
namespace Go.Ev
open Go.Ev renaming exPure -> Ja, ofValue -> Jb, cellsV -> Jc, load -> Jd, store -> Je, binOp -> Jf, intOp -> Jg, rdV -> Jh, vsame -> Ji, vsames -> Jj, makeSliceV -> Jk, resV -> Jl, isCell -> Jm, nilCheckV -> Jn, allV -> Jo, builtinV -> Jp, lenV -> Jq, indexAddrV -> Jr, unOp -> Js, minmaxV -> Jt, minmax -> Ju, sliceV -> Jv, asInt -> Jw, appendV -> Jx, copyV -> Jy, clearV -> Jz, convV -> J0, sliceCells -> J1, shift -> J2
open Bool renaming true -> BT, false -> BF
open Nat renaming reduceEqDiff -> J3, reduceLT -> J4, reduceAdd -> J5, reduceBEq -> J6, reduceSub -> J7, reduceMul -> J8, reduceLeDiff -> JG
open Int renaming reduceLT -> J9, reduceLE -> JA, reduceAdd -> JB, reduceSub -> JC, reduceNeg -> JD, reduceToNat -> JE, reduceEq -> JF
open Go.Proofs
theorem strEq_refl (s : ByteArray) : strEq s s = true := by unfold strEq; simp
theorem strEq_ne {x y : ByteArray} (h : ¬ x = y) : strEq x y = false := by
  unfold strEq
  refine decide_eq_false fun e => h ?_
  cases x with | mk a => cases y with | mk b =>
  cases a with | mk a => cases b with | mk b =>
  simp only at e
  rw [e]
theorem equalR_at {h : Heap} {v w : V} {l m : List RP} (hr : RowAt h v l) (hs : RowAt h w m) : D X (.fn 52 []) [v, w] h = some (.bool (decide (l = m)), h) := by
  refine Ok.eq ?_
  refine Ok.aim fun Q hQ => ?_
  have hQ' := Hid.mk hQ
  clear hQ
  obtain ⟨a, cap, z, rfl, h1, h1', h2⟩ := hr
  obtain ⟨a2, cap2, z2, rfl, h3, h3', h4⟩ := hs
  by_cases hlen : l.length = m.length
  · have hlen' : (l.length : Int) = (m.length : Int) := by omega
    (refine Ok.body body52 pin52 ?_; simp only [c52,Try.f52,Option.getD_some,nslot52,List.append_nil,List.map,List.replicate,List.length_cons,List.length_nil,Nat.reduceAdd,Nat.reduceSub,List.cons_append,List.nil_append])
    (repeat' (first | (simp -implicitDefEqProofs (maxSteps := 1000000) (disch := first | assumption | omega | (simp only [ZDI]; omega)) only [*,lenV,G52,Za,Zb,Zc,Zd,Ze,Zf,Zg,Zh,Zi,Zj,Zk,Zl,Zm,Zn,Zo,Ja,Jb,Jc,J3,Jd,Je,J4,J5,Jf,Jg,Jh,Ji,Jj,Jk,J6,Jl,Jm,wr,Jn,J7,J8,Jo,Jp,Jq,Jr,Js,Jt,Ju,Jv,Jw,Jx,Jy,Jz,J0,J1,J2,reduceCtorEq,J9,JA,JB,JC,JD,JE,JF,JG]) | ((with_reducible (first | apply Ok.br | apply Ok.gd | apply Ok.ld)) <;> (intro g; (try simp only [ZGS] at g); try (exfalso; omega)))))
    refine Ok.loop [BF, BF, BF, BF, BT, BT, BF, BF, BF, BF, BF, BF, BF, BT, BT, BT, BT, BT, BT, BT, BT, BT, BT, BT, BT, BT] (fun n s2 => ∃ (i : Nat), n = l.length - i /\ i <= l.length /\ tv s2.e 13 = .v (.int .i64 i) /\ s2.l = [] /\ s2.h = h /\ l.take i = m.take i)
      (fun y s2 => s2.h = h /\ s2.l = [] /\ ((y = .exit 0 /\ l = m) \/ (y = .ret /\ l ≠ m /\ tv s2.e 4 = .v (.bool false)))) (l.length - 0) ⟨0, rfl, Nat.zero_le _, rfl, rfl, rfl, by simp⟩ ?_ ?_
    · intro n ⟨e', l', H'⟩ hW ⟨i, hm, hi, h9, k2, k3, hno⟩
      dsimp only at hW h9 k2 k3
      subst l' H'
      rw [hW.spread]
      simp only [spread_t,spread_f,spread_n,Nat.zero_add,Nat.reduceAdd,h9]
      clear hW hQ'
      have hno' := Hid.mk hno
      clear hno
      by_cases hlt : i < l.length
      · have hlt' : (i : Int) < (m.length : Int) := by omega
        have g1 : 0 <= (i : Int) /\ (i : Int) < (m.length : Int) := by omega
        rcases h2 with rfl | ⟨b, g, o, rw, full, rfl, hb, hfull, ho⟩
        · simp at hlt
        · rcases h4 with rfl | ⟨b2, g2, o2, rw2, full2, rfl, hb2, hfull2, ho2⟩
          · simp at hlen; subst hlen; simp at hlt
          · obtain ⟨y, hy⟩ : ∃ y, l[i]? = some y := ⟨_, List.getElem?_eq_getElem hlt⟩
            obtain ⟨x, hx⟩ : ∃ y, m[i]? = some y := ⟨_, List.getElem?_eq_getElem (by omega)⟩
            have hf := hfull i y hy
            have hf2 := hfull2 i x hx
            have hy' := Hid.mk hy
            have hx' := Hid.mk hx
            clear hy hfull hx hfull2
            by_cases hxy : y = x
            · subst hxy
              (repeat' (first | (simp -implicitDefEqProofs (maxSteps := 1000000) (disch := first | assumption | omega | (simp only [ZDI]; omega)) only [*,lenV,eq_self,G52,Za,Zb,Zc,Zd,Ze,Zf,Zg,Zh,Zi,Zj,Zk,Zl,Zm,Zn,Zo,Ja,Jb,Jc,J3,Jd,Je,J4,J5,Jf,Jg,Jh,Ji,Jj,Jk,J6,Jl,Jm,wr,Jn,J7,J8,Jo,Jp,Jq,Jr,Js,Jt,Ju,Jv,Jw,Jx,Jy,Jz,J0,J1,J2,reduceCtorEq,J9,JA,JB,JC,JD,JE,JF,JG]) | ((with_reducible (first | apply Ok.br | apply Ok.gd | apply Ok.ld)) <;> (intro g; (try simp only [ZGS] at g); try (exfalso; omega)))))
              refine Turn.next (l.length - (i + 1)) (by omega) ⟨rfl, i + 1, by omega, by omega, rfl, rfl, rfl, ?_⟩
              rw [List.take_add_one, List.take_add_one, hy'.out, hx'.out, hno'.out]
            · have hnx : ∀ P : Prop, (¬ y.1 = x.1 -> P) -> (y.1 = x.1 -> ¬ y.2 = x.2 -> P) -> P := fun P p q => by
                by_cases h1 : y.1 = x.1
                · exact q h1 fun h2 => hxy (Prod.ext h1 h2)
                · exact p h1
              have hno2 : l ≠ m := by
                rintro rfl
                have := hy'.out
                rw [hx'.out] at this
                exact hxy (Option.some.inj this).symm
              have hno3 := Hid.mk hno2
              clear hno2 hxy
              apply hnx <;> clear hnx
              · intro hn1
                (repeat' (first | (simp -implicitDefEqProofs (maxSteps := 1000000) (disch := first | assumption | omega | (simp only [ZDI]; omega)) only [*,lenV,G52,Za,Zb,Zc,Zd,Ze,Zf,Zg,Zh,Zi,Zj,Zk,Zl,Zm,Zn,Zo,Ja,Jb,Jc,J3,Jd,Je,J4,J5,Jf,Jg,Jh,Ji,Jj,Jk,J6,Jl,Jm,wr,Jn,J7,J8,Jo,Jp,Jq,Jr,Js,Jt,Ju,Jv,Jw,Jx,Jy,Jz,J0,J1,J2,reduceCtorEq,J9,JA,JB,JC,JD,JE,JF,JG]) | ((with_reducible (first | apply Ok.br | apply Ok.gd | apply Ok.ld)) <;> (intro g; (try simp only [ZGS] at g); try (exfalso; omega)))))
                exact Turn.ret ⟨rfl, rfl, rfl, .inr ⟨rfl, hno3.out, rfl⟩⟩
              · intro hn1 hn2
                (repeat' (first | (simp -implicitDefEqProofs (maxSteps := 1000000) (disch := first | assumption | omega | (simp only [ZDI]; omega)) only [*,lenV,G52,Za,Zb,Zc,Zd,Ze,Zf,Zg,Zh,Zi,Zj,Zk,Zl,Zm,Zn,Zo,Ja,Jb,Jc,J3,Jd,Je,J4,J5,Jf,Jg,Jh,Ji,Jj,Jk,J6,Jl,Jm,wr,Jn,J7,J8,Jo,Jp,Jq,Jr,Js,Jt,Ju,Jv,Jw,Jx,Jy,Jz,J0,J1,J2,reduceCtorEq,J9,JA,JB,JC,JD,JE,JF,JG]) | ((with_reducible (first | apply Ok.br | apply Ok.gd | apply Ok.ld)) <;> (intro g; (try simp only [ZGS] at g); try (exfalso; omega)))))
                exact Turn.ret ⟨rfl, rfl, rfl, .inr ⟨rfl, hno3.out, rfl⟩⟩
      · have hlt' : ¬ (i : Int) < (m.length : Int) := by omega
        (repeat' (first | (simp -implicitDefEqProofs (maxSteps := 1000000) (disch := first | assumption | omega | (simp only [ZDI]; omega)) only [*,lenV,G52,Za,Zb,Zc,Zd,Ze,Zf,Zg,Zh,Zi,Zj,Zk,Zl,Zm,Zn,Zo,Ja,Jb,Jc,J3,Jd,Je,J4,J5,Jf,Jg,Jh,Ji,Jj,Jk,J6,Jl,Jm,wr,Jn,J7,J8,Jo,Jp,Jq,Jr,Js,Jt,Ju,Jv,Jw,Jx,Jy,Jz,J0,J1,J2,reduceCtorEq,J9,JA,JB,JC,JD,JE,JF,JG]) | ((with_reducible (first | apply Ok.br | apply Ok.gd | apply Ok.ld)) <;> (intro g; (try simp only [ZGS] at g); try (exfalso; omega)))))
        refine Turn.exit ⟨rfl, rfl, rfl, .inl ⟨rfl, ?_⟩⟩
        have := hno'.out
        rwa [List.take_of_length_le (by omega), List.take_of_length_le (by omega)] at this
    · intro y ⟨e', l', H'⟩ hW ⟨k3, k2, hy⟩
      dsimp only at hW k2 k3 hy
      subst l' H'
      rw [hW.spread]
      clear hW
      rcases hy with ⟨rfl, hm⟩ | ⟨rfl, hm, h4⟩
      · simp only [spread_t,spread_f,spread_n,Nat.zero_add,Nat.reduceAdd]
        (repeat' (first | (simp -implicitDefEqProofs (maxSteps := 1000000) (disch := first | assumption | omega | (simp only [ZDI]; omega)) only [*,G52,Za,Zb,Zc,Zd,Ze,Zf,Zg,Zh,Zi,Zj,Zk,Zl,Zm,Zn,Zo,Ja,Jb,Jc,J3,Jd,Je,J4,J5,Jf,Jg,Jh,Ji,Jj,Jk,J6,Jl,Jm,wr,Jn,J7,J8,Jo,Jp,Jq,Jr,Js,Jt,Ju,Jv,Jw,Jx,Jy,Jz,J0,J1,J2,reduceCtorEq,J9,JA,JB,JC,JD,JE,JF,JG]) | ((with_reducible (first | apply Ok.br | apply Ok.gd | apply Ok.ld)) <;> (intro g; (try simp only [ZGS] at g); try (exfalso; omega)))))
        exact hQ'.out _ (by rw [decide_eq_true hm])
      · simp only [spread_t,spread_f,spread_n,Nat.zero_add,Nat.reduceAdd,h4]
        (repeat' (first | (simp -implicitDefEqProofs (maxSteps := 1000000) (disch := first | assumption | omega | (simp only [ZDI]; omega)) only [*,G52,Za,Zb,Zc,Zd,Ze,Zf,Zg,Zh,Zi,Zj,Zk,Zl,Zm,Zn,Zo,Ja,Jb,Jc,J3,Jd,Je,J4,J5,Jf,Jg,Jh,Ji,Jj,Jk,J6,Jl,Jm,wr,Jn,J7,J8,Jo,Jp,Jq,Jr,Js,Jt,Ju,Jv,Jw,Jx,Jy,Jz,J0,J1,J2,reduceCtorEq,J9,JA,JB,JC,JD,JE,JF,JG]) | ((with_reducible (first | apply Ok.br | apply Ok.gd | apply Ok.ld)) <;> (intro g; (try simp only [ZGS] at g); try (exfalso; omega)))))
        exact hQ'.out _ (by rw [decide_eq_false hm])
  · have hlen' : ¬ (l.length : Int) = (m.length : Int) := by omega
    (refine Ok.body body52 pin52 ?_; simp only [c52,Try.f52,Option.getD_some,nslot52,List.append_nil,List.map,List.replicate,List.length_cons,List.length_nil,Nat.reduceAdd,Nat.reduceSub,List.cons_append,List.nil_append])
    (repeat' (first | (simp -implicitDefEqProofs (maxSteps := 1000000) (disch := first | assumption | omega | (simp only [ZDI]; omega)) only [*,lenV,G52,Za,Zb,Zc,Zd,Ze,Zf,Zg,Zh,Zi,Zj,Zk,Zl,Zm,Zn,Zo,Ja,Jb,Jc,J3,Jd,Je,J4,J5,Jf,Jg,Jh,Ji,Jj,Jk,J6,Jl,Jm,wr,Jn,J7,J8,Jo,Jp,Jq,Jr,Js,Jt,Ju,Jv,Jw,Jx,Jy,Jz,J0,J1,J2,reduceCtorEq,J9,JA,JB,JC,JD,JE,JF,JG]) | ((with_reducible (first | apply Ok.br | apply Ok.gd | apply Ok.ld)) <;> (intro g; (try simp only [ZGS] at g); try (exfalso; omega)))))
    exact hQ'.out _ (by rw [decide_eq_false]; rintro rfl; exact hlen rfl)
theorem sameRefs_at {h : Heap} {v w : V} {l m : List RP} (hr : RowAt h v l) (hs : RowAt h w m) : D X (.fn 29 []) [v, w] h = some (.bool (decide (l = m)), h) := by
  refine Ok.eq ?_
  refine Ok.aim fun Q hQ => ?_
  have hQ' := Hid.mk hQ
  clear hQ
  obtain ⟨a, cap, z, rfl, h1, h1', h2⟩ := hr
  obtain ⟨a2, cap2, z2, rfl, h3, h3', h4⟩ := hs
  by_cases hlen : l.length = m.length
  · have hlen' : (l.length : Int) = (m.length : Int) := by omega
    (refine Ok.body body29 pin29 ?_; simp only [c29,Try.f29,Option.getD_some,nslot29,List.append_nil,List.map,List.replicate,List.length_cons,List.length_nil,Nat.reduceAdd,Nat.reduceSub,List.cons_append,List.nil_append])
    (repeat' (first | (simp -implicitDefEqProofs (maxSteps := 1000000) (disch := first | assumption | omega | (simp only [ZDI]; omega)) only [*,lenV,G29,Za,Zb,Zc,Zd,Ze,Zf,Zg,Zh,Zi,Zj,Zk,Zl,Zm,Zn,Zo,Ja,Jb,Jc,J3,Jd,Je,J4,J5,Jf,Jg,Jh,Ji,Jj,Jk,J6,Jl,Jm,wr,Jn,J7,J8,Jo,Jp,Jq,Jr,Js,Jt,Ju,Jv,Jw,Jx,Jy,Jz,J0,J1,J2,reduceCtorEq,J9,JA,JB,JC,JD,JE,JF,JG]) | ((with_reducible (first | apply Ok.br | apply Ok.gd | apply Ok.ld)) <;> (intro g; (try simp only [ZGS] at g); try (exfalso; omega)))))
    refine Ok.loop [BF, BF, BF, BF, BT, BT, BF, BF, BF, BF, BF, BF, BF, BT, BT, BT, BT, BT, BT, BT, BT, BT, BT, BT, BT, BT] (fun n s2 => ∃ (i : Nat), n = l.length - i /\ i <= l.length /\ tv s2.e 13 = .v (.int .i64 i) /\ s2.l = [] /\ s2.h = h /\ l.take i = m.take i)
      (fun y s2 => s2.h = h /\ s2.l = [] /\ ((y = .exit 0 /\ l = m) \/ (y = .ret /\ l ≠ m /\ tv s2.e 4 = .v (.bool false)))) (l.length - 0) ⟨0, rfl, Nat.zero_le _, rfl, rfl, rfl, by simp⟩ ?_ ?_
    · intro n ⟨e', l', H'⟩ hW ⟨i, hm, hi, h9, k2, k3, hno⟩
      dsimp only at hW h9 k2 k3
      subst l' H'
      rw [hW.spread]
      simp only [spread_t,spread_f,spread_n,Nat.zero_add,Nat.reduceAdd,h9]
      clear hW hQ'
      have hno' := Hid.mk hno
      clear hno
      by_cases hlt : i < l.length
      · have hlt' : (i : Int) < (m.length : Int) := by omega
        have g1 : 0 <= (i : Int) /\ (i : Int) < (m.length : Int) := by omega
        rcases h2 with rfl | ⟨b, g, o, rw, full, rfl, hb, hfull, ho⟩
        · simp at hlt
        · rcases h4 with rfl | ⟨b2, g2, o2, rw2, full2, rfl, hb2, hfull2, ho2⟩
          · simp at hlen; subst hlen; simp at hlt
          · obtain ⟨y, hy⟩ : ∃ y, l[i]? = some y := ⟨_, List.getElem?_eq_getElem hlt⟩
            obtain ⟨x, hx⟩ : ∃ y, m[i]? = some y := ⟨_, List.getElem?_eq_getElem (by omega)⟩
            have hf := hfull i y hy
            have hf2 := hfull2 i x hx
            have hy' := Hid.mk hy
            have hx' := Hid.mk hx
            clear hy hfull hx hfull2
            by_cases hxy : y = x
            · subst hxy
              (repeat' (first | (simp -implicitDefEqProofs (maxSteps := 1000000) (disch := first | assumption | omega | (simp only [ZDI]; omega)) only [*,lenV,eq_self,G29,Za,Zb,Zc,Zd,Ze,Zf,Zg,Zh,Zi,Zj,Zk,Zl,Zm,Zn,Zo,Ja,Jb,Jc,J3,Jd,Je,J4,J5,Jf,Jg,Jh,Ji,Jj,Jk,J6,Jl,Jm,wr,Jn,J7,J8,Jo,Jp,Jq,Jr,Js,Jt,Ju,Jv,Jw,Jx,Jy,Jz,J0,J1,J2,reduceCtorEq,J9,JA,JB,JC,JD,JE,JF,JG]) | ((with_reducible (first | apply Ok.br | apply Ok.gd | apply Ok.ld)) <;> (intro g; (try simp only [ZGS] at g); try (exfalso; omega)))))
              refine Turn.next (l.length - (i + 1)) (by omega) ⟨rfl, i + 1, by omega, by omega, rfl, rfl, rfl, ?_⟩
              rw [List.take_add_one, List.take_add_one, hy'.out, hx'.out, hno'.out]
            · have hnx : ∀ P : Prop, (¬ y.1 = x.1 -> P) -> (y.1 = x.1 -> ¬ y.2 = x.2 -> P) -> P := fun P p q => by
                by_cases h1 : y.1 = x.1
                · exact q h1 fun h2 => hxy (Prod.ext h1 h2)
                · exact p h1
              have hno2 : l ≠ m := by
                rintro rfl
                have := hy'.out
                rw [hx'.out] at this
                exact hxy (Option.some.inj this).symm
              have hno3 := Hid.mk hno2
              clear hno2 hxy
              apply hnx <;> clear hnx
              · intro hn1
                (repeat' (first | (simp -implicitDefEqProofs (maxSteps := 1000000) (disch := first | assumption | omega | (simp only [ZDI]; omega)) only [*,lenV,G29,Za,Zb,Zc,Zd,Ze,Zf,Zg,Zh,Zi,Zj,Zk,Zl,Zm,Zn,Zo,Ja,Jb,Jc,J3,Jd,Je,J4,J5,Jf,Jg,Jh,Ji,Jj,Jk,J6,Jl,Jm,wr,Jn,J7,J8,Jo,Jp,Jq,Jr,Js,Jt,Ju,Jv,Jw,Jx,Jy,Jz,J0,J1,J2,reduceCtorEq,J9,JA,JB,JC,JD,JE,JF,JG]) | ((with_reducible (first | apply Ok.br | apply Ok.gd | apply Ok.ld)) <;> (intro g; (try simp only [ZGS] at g); try (exfalso; omega)))))
                exact Turn.ret ⟨rfl, rfl, rfl, .inr ⟨rfl, hno3.out, rfl⟩⟩
              · intro hn1 hn2
                (repeat' (first | (simp -implicitDefEqProofs (maxSteps := 1000000) (disch := first | assumption | omega | (simp only [ZDI]; omega)) only [*,lenV,G29,Za,Zb,Zc,Zd,Ze,Zf,Zg,Zh,Zi,Zj,Zk,Zl,Zm,Zn,Zo,Ja,Jb,Jc,J3,Jd,Je,J4,J5,Jf,Jg,Jh,Ji,Jj,Jk,J6,Jl,Jm,wr,Jn,J7,J8,Jo,Jp,Jq,Jr,Js,Jt,Ju,Jv,Jw,Jx,Jy,Jz,J0,J1,J2,reduceCtorEq,J9,JA,JB,JC,JD,JE,JF,JG]) | ((with_reducible (first | apply Ok.br | apply Ok.gd | apply Ok.ld)) <;> (intro g; (try simp only [ZGS] at g); try (exfalso; omega)))))
                exact Turn.ret ⟨rfl, rfl, rfl, .inr ⟨rfl, hno3.out, rfl⟩⟩
      · have hlt' : ¬ (i : Int) < (m.length : Int) := by omega
        (repeat' (first | (simp -implicitDefEqProofs (maxSteps := 1000000) (disch := first | assumption | omega | (simp only [ZDI]; omega)) only [*,lenV,G29,Za,Zb,Zc,Zd,Ze,Zf,Zg,Zh,Zi,Zj,Zk,Zl,Zm,Zn,Zo,Ja,Jb,Jc,J3,Jd,Je,J4,J5,Jf,Jg,Jh,Ji,Jj,Jk,J6,Jl,Jm,wr,Jn,J7,J8,Jo,Jp,Jq,Jr,Js,Jt,Ju,Jv,Jw,Jx,Jy,Jz,J0,J1,J2,reduceCtorEq,J9,JA,JB,JC,JD,JE,JF,JG]) | ((with_reducible (first | apply Ok.br | apply Ok.gd | apply Ok.ld)) <;> (intro g; (try simp only [ZGS] at g); try (exfalso; omega)))))
        refine Turn.exit ⟨rfl, rfl, rfl, .inl ⟨rfl, ?_⟩⟩
        have := hno'.out
        rwa [List.take_of_length_le (by omega), List.take_of_length_le (by omega)] at this
    · intro y ⟨e', l', H'⟩ hW ⟨k3, k2, hy⟩
      dsimp only at hW k2 k3 hy
      subst l' H'
      rw [hW.spread]
      clear hW
      rcases hy with ⟨rfl, hm⟩ | ⟨rfl, hm, h4⟩
      · simp only [spread_t,spread_f,spread_n,Nat.zero_add,Nat.reduceAdd]
        (repeat' (first | (simp -implicitDefEqProofs (maxSteps := 1000000) (disch := first | assumption | omega | (simp only [ZDI]; omega)) only [*,G29,Za,Zb,Zc,Zd,Ze,Zf,Zg,Zh,Zi,Zj,Zk,Zl,Zm,Zn,Zo,Ja,Jb,Jc,J3,Jd,Je,J4,J5,Jf,Jg,Jh,Ji,Jj,Jk,J6,Jl,Jm,wr,Jn,J7,J8,Jo,Jp,Jq,Jr,Js,Jt,Ju,Jv,Jw,Jx,Jy,Jz,J0,J1,J2,reduceCtorEq,J9,JA,JB,JC,JD,JE,JF,JG]) | ((with_reducible (first | apply Ok.br | apply Ok.gd | apply Ok.ld)) <;> (intro g; (try simp only [ZGS] at g); try (exfalso; omega)))))
        exact hQ'.out _ (by rw [decide_eq_true hm])
      · simp only [spread_t,spread_f,spread_n,Nat.zero_add,Nat.reduceAdd,h4]
        (repeat' (first | (simp -implicitDefEqProofs (maxSteps := 1000000) (disch := first | assumption | omega | (simp only [ZDI]; omega)) only [*,G29,Za,Zb,Zc,Zd,Ze,Zf,Zg,Zh,Zi,Zj,Zk,Zl,Zm,Zn,Zo,Ja,Jb,Jc,J3,Jd,Je,J4,J5,Jf,Jg,Jh,Ji,Jj,Jk,J6,Jl,Jm,wr,Jn,J7,J8,Jo,Jp,Jq,Jr,Js,Jt,Ju,Jv,Jw,Jx,Jy,Jz,J0,J1,J2,reduceCtorEq,J9,JA,JB,JC,JD,JE,JF,JG]) | ((with_reducible (first | apply Ok.br | apply Ok.gd | apply Ok.ld)) <;> (intro g; (try simp only [ZGS] at g); try (exfalso; omega)))))
        exact hQ'.out _ (by rw [decide_eq_false hm])
  · have hlen' : ¬ (l.length : Int) = (m.length : Int) := by omega
    (refine Ok.body body29 pin29 ?_; simp only [c29,Try.f29,Option.getD_some,nslot29,List.append_nil,List.map,List.replicate,List.length_cons,List.length_nil,Nat.reduceAdd,Nat.reduceSub,List.cons_append,List.nil_append])
    (repeat' (first | (simp -implicitDefEqProofs (maxSteps := 1000000) (disch := first | assumption | omega | (simp only [ZDI]; omega)) only [*,lenV,G29,Za,Zb,Zc,Zd,Ze,Zf,Zg,Zh,Zi,Zj,Zk,Zl,Zm,Zn,Zo,Ja,Jb,Jc,J3,Jd,Je,J4,J5,Jf,Jg,Jh,Ji,Jj,Jk,J6,Jl,Jm,wr,Jn,J7,J8,Jo,Jp,Jq,Jr,Js,Jt,Ju,Jv,Jw,Jx,Jy,Jz,J0,J1,J2,reduceCtorEq,J9,JA,JB,JC,JD,JE,JF,JG]) | ((with_reducible (first | apply Ok.br | apply Ok.gd | apply Ok.ld)) <;> (intro g; (try simp only [ZGS] at g); try (exfalso; omega)))))
    exact hQ'.out _ (by rw [decide_eq_false]; rintro rfl; exact hlen rfl)
theorem equalS_at {h : Heap} {v w : V} {l m : List ByteArray} (hr : StrsAt h v l) (hs : StrsAt h w m) : D X (.fn 79 []) [v, w] h = some (.bool (decide (l = m)), h) := by
  refine Ok.eq ?_
  refine Ok.aim fun Q hQ => ?_
  have hQ' := Hid.mk hQ
  clear hQ
  obtain ⟨a, cap, z, rfl, h1, _, h2⟩ := hr
  obtain ⟨a2, cap2, z2, rfl, h3, _, h4⟩ := hs
  by_cases hlen : l.length = m.length
  · rw [hlen]
    have h2' := Hid.mk h2
    have h4' := Hid.mk h4
    clear h2 h4
    (refine Ok.body body79 pin79 ?_; simp only [c79,Try.f79,Option.getD_some,nslot79,List.append_nil,List.map,List.replicate,List.length_cons,List.length_nil,Nat.reduceAdd,Nat.reduceSub,List.cons_append,List.nil_append])
    (repeat' (first | (simp -implicitDefEqProofs (maxSteps := 1000000) (disch := first | assumption | omega | (simp only [ZDI]; omega)) only [*,lenV,eq_self,G79,Za,Zb,Zc,Zd,Ze,Zf,Zg,Zh,Zi,Zj,Zk,Zl,Zm,Zn,Zo,Ja,Jb,Jc,J3,Jd,Je,J4,J5,Jf,Jg,Jh,Ji,Jj,Jk,J6,Jl,Jm,wr,Jn,J7,J8,Jo,Jp,Jq,Jr,Js,Jt,Ju,Jv,Jw,Jx,Jy,Jz,J0,J1,J2,reduceCtorEq,J9,JA,JB,JC,JD,JE,JF,JG]) | ((with_reducible (first | apply Ok.br | apply Ok.gd | apply Ok.ld)) <;> (intro g; (try simp only [ZGS] at g); try (exfalso; omega)))))
    refine Ok.loop [BF, BF, BF, BF, BT, BT, BF, BF, BF, BF, BF, BF, BF, BT, BT, BT, BT, BT, BT, BT, BT, BT, BT, BT, BT, BT] (fun n s2 => ∃ (i : Nat), n = l.length - i /\ i <= l.length /\ tv s2.e 13 = .v (.int .i64 i) /\ s2.l = [] /\ s2.h = h /\ l.take i = m.take i)
      (fun y s2 => s2.h = h /\ s2.l = [] /\ ((y = .exit 0 /\ l = m) \/ (y = .ret /\ l ≠ m /\ tv s2.e 4 = .v (.bool false)))) (l.length - 0) ⟨0, rfl, Nat.zero_le _, rfl, rfl, rfl, by simp⟩ ?_ ?_
    · intro n ⟨e', l', H'⟩ hW ⟨i, hm, hi, h9, k2, k3, hno⟩
      dsimp only at hW h9 k2 k3
      subst l' H'
      rw [hW.spread]
      simp only [spread_t,spread_f,spread_n,Nat.zero_add,Nat.reduceAdd,h9]
      clear hW hQ'
      have hno' := Hid.mk hno
      clear hno
      by_cases hlt : i < l.length
      · have hlt' : (i : Int) < (m.length : Int) := by omega
        rcases h2'.out with rfl | ⟨b, g, oo, rw, full, rfl, hb, hfull⟩
        · simp at hlt
        · rcases h4'.out with rfl | ⟨b2, g2, o2, rw2, full2, rfl, hb2, hfull2⟩
          · simp at hlen; subst hlen; simp at hlt
          · obtain ⟨y, hy⟩ : ∃ y, l[i]? = some y := ⟨_, List.getElem?_eq_getElem hlt⟩
            obtain ⟨x, hx⟩ : ∃ y, m[i]? = some y := ⟨_, List.getElem?_eq_getElem (by omega)⟩
            have hf := hfull i y hy
            have hf2 := hfull2 i x hx
            have hy' := Hid.mk hy
            have hx' := Hid.mk hx
            clear hy hfull hx hfull2
            by_cases hxy : y = x
            · subst hxy
              (repeat' (first | (simp -implicitDefEqProofs (maxSteps := 1000000) (disch := first | assumption | omega | (simp only [ZDI]; omega)) only [*,lenV,strEq_refl,G79,Za,Zb,Zc,Zd,Ze,Zf,Zg,Zh,Zi,Zj,Zk,Zl,Zm,Zn,Zo,Ja,Jb,Jc,J3,Jd,Je,J4,J5,Jf,Jg,Jh,Ji,Jj,Jk,J6,Jl,Jm,wr,Jn,J7,J8,Jo,Jp,Jq,Jr,Js,Jt,Ju,Jv,Jw,Jx,Jy,Jz,J0,J1,J2,reduceCtorEq,J9,JA,JB,JC,JD,JE,JF,JG]) | ((with_reducible (first | apply Ok.br | apply Ok.gd | apply Ok.ld)) <;> (intro g; (try simp only [ZGS] at g); try (exfalso; omega)))))
              refine Turn.next (l.length - (i + 1)) (by omega) ⟨rfl, i + 1, by omega, by omega, rfl, rfl, rfl, ?_⟩
              rw [List.take_add_one, List.take_add_one, hy'.out, hx'.out, hno'.out]
            · have hno2 : l ≠ m := by
                rintro rfl
                have := hy'.out
                rw [hx'.out] at this
                exact hxy (Option.some.inj this).symm
              have hno3 := Hid.mk hno2
              have hse := strEq_ne hxy
              clear hno2 hxy
              (repeat' (first | (simp -implicitDefEqProofs (maxSteps := 1000000) (disch := first | assumption | omega | (simp only [ZDI]; omega)) only [*,lenV,G79,Za,Zb,Zc,Zd,Ze,Zf,Zg,Zh,Zi,Zj,Zk,Zl,Zm,Zn,Zo,Ja,Jb,Jc,J3,Jd,Je,J4,J5,Jf,Jg,Jh,Ji,Jj,Jk,J6,Jl,Jm,wr,Jn,J7,J8,Jo,Jp,Jq,Jr,Js,Jt,Ju,Jv,Jw,Jx,Jy,Jz,J0,J1,J2,reduceCtorEq,J9,JA,JB,JC,JD,JE,JF,JG]) | ((with_reducible (first | apply Ok.br | apply Ok.gd | apply Ok.ld)) <;> (intro g; (try simp only [ZGS] at g); try (exfalso; omega)))))
              exact Turn.ret ⟨rfl, rfl, rfl, .inr ⟨rfl, hno3.out, rfl⟩⟩
      · have hlt' : ¬ (i : Int) < (m.length : Int) := by omega
        (repeat' (first | (simp -implicitDefEqProofs (maxSteps := 1000000) (disch := first | assumption | omega | (simp only [ZDI]; omega)) only [*,lenV,G79,Za,Zb,Zc,Zd,Ze,Zf,Zg,Zh,Zi,Zj,Zk,Zl,Zm,Zn,Zo,Ja,Jb,Jc,J3,Jd,Je,J4,J5,Jf,Jg,Jh,Ji,Jj,Jk,J6,Jl,Jm,wr,Jn,J7,J8,Jo,Jp,Jq,Jr,Js,Jt,Ju,Jv,Jw,Jx,Jy,Jz,J0,J1,J2,reduceCtorEq,J9,JA,JB,JC,JD,JE,JF,JG]) | ((with_reducible (first | apply Ok.br | apply Ok.gd | apply Ok.ld)) <;> (intro g; (try simp only [ZGS] at g); try (exfalso; omega)))))
        refine Turn.exit ⟨rfl, rfl, rfl, .inl ⟨rfl, ?_⟩⟩
        have := hno'.out
        rwa [List.take_of_length_le (by omega), List.take_of_length_le (by omega)] at this
    · intro y ⟨e', l', H'⟩ hW ⟨k3, k2, hy⟩
      dsimp only at hW k2 k3 hy
      subst l' H'
      rw [hW.spread]
      clear hW
      rcases hy with ⟨rfl, hm⟩ | ⟨rfl, hm, h4⟩
      · simp only [spread_t,spread_f,spread_n,Nat.zero_add,Nat.reduceAdd]
        (repeat' (first | (simp -implicitDefEqProofs (maxSteps := 1000000) (disch := first | assumption | omega | (simp only [ZDI]; omega)) only [*,G79,Za,Zb,Zc,Zd,Ze,Zf,Zg,Zh,Zi,Zj,Zk,Zl,Zm,Zn,Zo,Ja,Jb,Jc,J3,Jd,Je,J4,J5,Jf,Jg,Jh,Ji,Jj,Jk,J6,Jl,Jm,wr,Jn,J7,J8,Jo,Jp,Jq,Jr,Js,Jt,Ju,Jv,Jw,Jx,Jy,Jz,J0,J1,J2,reduceCtorEq,J9,JA,JB,JC,JD,JE,JF,JG]) | ((with_reducible (first | apply Ok.br | apply Ok.gd | apply Ok.ld)) <;> (intro g; (try simp only [ZGS] at g); try (exfalso; omega)))))
        exact hQ'.out _ (by rw [decide_eq_true hm])
      · simp only [spread_t,spread_f,spread_n,Nat.zero_add,Nat.reduceAdd,h4]
        (repeat' (first | (simp -implicitDefEqProofs (maxSteps := 1000000) (disch := first | assumption | omega | (simp only [ZDI]; omega)) only [*,G79,Za,Zb,Zc,Zd,Ze,Zf,Zg,Zh,Zi,Zj,Zk,Zl,Zm,Zn,Zo,Ja,Jb,Jc,J3,Jd,Je,J4,J5,Jf,Jg,Jh,Ji,Jj,Jk,J6,Jl,Jm,wr,Jn,J7,J8,Jo,Jp,Jq,Jr,Js,Jt,Ju,Jv,Jw,Jx,Jy,Jz,J0,J1,J2,reduceCtorEq,J9,JA,JB,JC,JD,JE,JF,JG]) | ((with_reducible (first | apply Ok.br | apply Ok.gd | apply Ok.ld)) <;> (intro g; (try simp only [ZGS] at g); try (exfalso; omega)))))
        exact hQ'.out _ (by rw [decide_eq_false hm])
  · have hlen' : ¬ (l.length : Int) = (m.length : Int) := by omega
    (refine Ok.body body79 pin79 ?_; simp only [c79,Try.f79,Option.getD_some,nslot79,List.append_nil,List.map,List.replicate,List.length_cons,List.length_nil,Nat.reduceAdd,Nat.reduceSub,List.cons_append,List.nil_append])
    (repeat' (first | (simp -implicitDefEqProofs (maxSteps := 1000000) (disch := first | assumption | omega | (simp only [ZDI]; omega)) only [*,lenV,eq_self,G79,Za,Zb,Zc,Zd,Ze,Zf,Zg,Zh,Zi,Zj,Zk,Zl,Zm,Zn,Zo,Ja,Jb,Jc,J3,Jd,Je,J4,J5,Jf,Jg,Jh,Ji,Jj,Jk,J6,Jl,Jm,wr,Jn,J7,J8,Jo,Jp,Jq,Jr,Js,Jt,Ju,Jv,Jw,Jx,Jy,Jz,J0,J1,J2,reduceCtorEq,J9,JA,JB,JC,JD,JE,JF,JG]) | ((with_reducible (first | apply Ok.br | apply Ok.gd | apply Ok.ld)) <;> (intro g; (try simp only [ZGS] at g); try (exfalso; omega)))))
    exact hQ'.out _ (by rw [decide_eq_false]; rintro rfl; exact hlen rfl)
theorem rSameCmdEq_at {h : Heap} {o c q f t : Int} {v w : V} {l m : List ByteArray} (hr : StrsAt h v l) (hs : StrsAt h w m) : D X (.fn 50 []) [.agg [.int .i64 o, .int .i64 c, .int .i64 q, .int .i64 f, .int .i64 t, v], .agg [.int .i64 o, .int .i64 c, .int .i64 q, .int .i64 f, .int .i64 t, w]] h = some (.bool (decide (l = m)), h) := by
  refine Ok.eq ?_
  refine Ok.aim fun Q hQ => ?_
  have hQ' := Hid.mk hQ
  clear hQ
  obtain ⟨a, cap, z, rfl, h1, _, h2⟩ := hr
  obtain ⟨a2, cap2, z2, rfl, h3, _, h4⟩ := hs
  by_cases hlen : l.length = m.length
  · rw [hlen]
    have h2' := Hid.mk h2
    have h4' := Hid.mk h4
    clear h2 h4
    (refine Ok.body body50 pin50 ?_; simp only [c50,Try.f50,Option.getD_some,nslot50,List.append_nil,List.map,List.replicate,List.length_cons,List.length_nil,Nat.reduceAdd,Nat.reduceSub,List.cons_append,List.nil_append])
    (repeat' (first | (simp -implicitDefEqProofs (maxSteps := 1000000) (disch := first | assumption | omega | (simp only [ZDI]; omega)) only [*,lenV,eq_self,G50,Za,Zb,Zc,Zd,Ze,Zf,Zg,Zh,Zi,Zj,Zk,Zl,Zm,Zn,Zo,Ja,Jb,Jc,J3,Jd,Je,J4,J5,Jf,Jg,Jh,Ji,Jj,Jk,J6,Jl,Jm,wr,Jn,J7,J8,Jo,Jp,Jq,Jr,Js,Jt,Ju,Jv,Jw,Jx,Jy,Jz,J0,J1,J2,reduceCtorEq,J9,JA,JB,JC,JD,JE,JF,JG]) | ((with_reducible (first | apply Ok.br | apply Ok.gd | apply Ok.ld)) <;> (intro g; (try simp only [ZGS] at g); try (exfalso; omega)))))
    refine Ok.loop [BF, BF, BF, BF, BT, BT, BF, BF, BF, BF, BF, BF, BF, BF, BF, BF, BF, BF, BF, BF, BF, BF, BF, BF, BF, BF, BF, BF, BF, BF, BF, BF, BF, BF, BF, BF, BF, BF, BF, BF, BF, BF, BF, BF, BF, BF, BF, BF, BF, BF, BF, BT, BT, BT, BT, BT, BT, BT, BT, BT, BT, BT, BT, BT, BT, BT] (fun n s2 => ∃ (i : Nat), n = l.length - i /\ i <= l.length /\ tv s2.e 51 = .v (.int .i64 i) /\ s2.l = [(1, [.int .i64 o, .int .i64 c, .int .i64 q, .int .i64 f, .int .i64 t, .sl a m.length cap z]), (1, [.int .i64 o, .int .i64 c, .int .i64 q, .int .i64 f, .int .i64 t, .sl a2 m.length cap2 z2])] /\ s2.h = h /\ l.take i = m.take i)
      (fun y s2 => s2.h = h /\ s2.l = [(1, [.int .i64 o, .int .i64 c, .int .i64 q, .int .i64 f, .int .i64 t, .sl a m.length cap z]), (1, [.int .i64 o, .int .i64 c, .int .i64 q, .int .i64 f, .int .i64 t, .sl a2 m.length cap2 z2])] /\ ((y = .exit 0 /\ l = m) \/ (y = .ret /\ l ≠ m /\ tv s2.e 4 = .v (.bool false)))) (l.length - 0) ⟨0, rfl, Nat.zero_le _, rfl, rfl, rfl, by simp⟩ ?_ ?_
    · intro n ⟨e', l', H'⟩ hW ⟨i, hm, hi, h9, k2, k3, hno⟩
      dsimp only at hW h9 k2 k3
      subst l' H'
      rw [hW.spread]
      simp only [spread_t,spread_f,spread_n,Nat.zero_add,Nat.reduceAdd,h9]
      clear hW hQ'
      have hno' := Hid.mk hno
      clear hno
      by_cases hlt : i < l.length
      · have hlt' : (i : Int) < (m.length : Int) := by omega
        rcases h2'.out with rfl | ⟨b, g, oo, rw, full, rfl, hb, hfull⟩
        · simp at hlt
        · rcases h4'.out with rfl | ⟨b2, g2, o2, rw2, full2, rfl, hb2, hfull2⟩
          · simp at hlen; subst hlen; simp at hlt
          · obtain ⟨y, hy⟩ : ∃ y, l[i]? = some y := ⟨_, List.getElem?_eq_getElem hlt⟩
            obtain ⟨x, hx⟩ : ∃ y, m[i]? = some y := ⟨_, List.getElem?_eq_getElem (by omega)⟩
            have hf := hfull i y hy
            have hf2 := hfull2 i x hx
            have hy' := Hid.mk hy
            have hx' := Hid.mk hx
            clear hy hfull hx hfull2
            by_cases hxy : y = x
            · subst hxy
              (repeat' (first | (simp -implicitDefEqProofs (maxSteps := 1000000) (disch := first | assumption | omega | (simp only [ZDI]; omega)) only [*,lenV,strEq_refl,G50,Za,Zb,Zc,Zd,Ze,Zf,Zg,Zh,Zi,Zj,Zk,Zl,Zm,Zn,Zo,Ja,Jb,Jc,J3,Jd,Je,J4,J5,Jf,Jg,Jh,Ji,Jj,Jk,J6,Jl,Jm,wr,Jn,J7,J8,Jo,Jp,Jq,Jr,Js,Jt,Ju,Jv,Jw,Jx,Jy,Jz,J0,J1,J2,reduceCtorEq,J9,JA,JB,JC,JD,JE,JF,JG]) | ((with_reducible (first | apply Ok.br | apply Ok.gd | apply Ok.ld)) <;> (intro g; (try simp only [ZGS] at g); try (exfalso; omega)))))
              refine Turn.next (l.length - (i + 1)) (by omega) ⟨rfl, i + 1, by omega, by omega, rfl, rfl, rfl, ?_⟩
              rw [List.take_add_one, List.take_add_one, hy'.out, hx'.out, hno'.out]
            · have hno2 : l ≠ m := by
                rintro rfl
                have := hy'.out
                rw [hx'.out] at this
                exact hxy (Option.some.inj this).symm
              have hno3 := Hid.mk hno2
              have hse := strEq_ne hxy
              clear hno2 hxy
              (repeat' (first | (simp -implicitDefEqProofs (maxSteps := 1000000) (disch := first | assumption | omega | (simp only [ZDI]; omega)) only [*,lenV,G50,Za,Zb,Zc,Zd,Ze,Zf,Zg,Zh,Zi,Zj,Zk,Zl,Zm,Zn,Zo,Ja,Jb,Jc,J3,Jd,Je,J4,J5,Jf,Jg,Jh,Ji,Jj,Jk,J6,Jl,Jm,wr,Jn,J7,J8,Jo,Jp,Jq,Jr,Js,Jt,Ju,Jv,Jw,Jx,Jy,Jz,J0,J1,J2,reduceCtorEq,J9,JA,JB,JC,JD,JE,JF,JG]) | ((with_reducible (first | apply Ok.br | apply Ok.gd | apply Ok.ld)) <;> (intro g; (try simp only [ZGS] at g); try (exfalso; omega)))))
              exact Turn.ret ⟨rfl, rfl, rfl, .inr ⟨rfl, hno3.out, rfl⟩⟩
      · have hlt' : ¬ (i : Int) < (m.length : Int) := by omega
        (repeat' (first | (simp -implicitDefEqProofs (maxSteps := 1000000) (disch := first | assumption | omega | (simp only [ZDI]; omega)) only [*,lenV,G50,Za,Zb,Zc,Zd,Ze,Zf,Zg,Zh,Zi,Zj,Zk,Zl,Zm,Zn,Zo,Ja,Jb,Jc,J3,Jd,Je,J4,J5,Jf,Jg,Jh,Ji,Jj,Jk,J6,Jl,Jm,wr,Jn,J7,J8,Jo,Jp,Jq,Jr,Js,Jt,Ju,Jv,Jw,Jx,Jy,Jz,J0,J1,J2,reduceCtorEq,J9,JA,JB,JC,JD,JE,JF,JG]) | ((with_reducible (first | apply Ok.br | apply Ok.gd | apply Ok.ld)) <;> (intro g; (try simp only [ZGS] at g); try (exfalso; omega)))))
        refine Turn.exit ⟨rfl, rfl, rfl, .inl ⟨rfl, ?_⟩⟩
        have := hno'.out
        rwa [List.take_of_length_le (by omega), List.take_of_length_le (by omega)] at this
    · intro y ⟨e', l', H'⟩ hW ⟨k3, k2, hy⟩
      dsimp only at hW k2 k3 hy
      subst l' H'
      rw [hW.spread]
      clear hW
      rcases hy with ⟨rfl, hm⟩ | ⟨rfl, hm, h4⟩
      · simp only [spread_t,spread_f,spread_n,Nat.zero_add,Nat.reduceAdd]
        (repeat' (first | (simp -implicitDefEqProofs (maxSteps := 1000000) (disch := first | assumption | omega | (simp only [ZDI]; omega)) only [*,G50,Za,Zb,Zc,Zd,Ze,Zf,Zg,Zh,Zi,Zj,Zk,Zl,Zm,Zn,Zo,Ja,Jb,Jc,J3,Jd,Je,J4,J5,Jf,Jg,Jh,Ji,Jj,Jk,J6,Jl,Jm,wr,Jn,J7,J8,Jo,Jp,Jq,Jr,Js,Jt,Ju,Jv,Jw,Jx,Jy,Jz,J0,J1,J2,reduceCtorEq,J9,JA,JB,JC,JD,JE,JF,JG]) | ((with_reducible (first | apply Ok.br | apply Ok.gd | apply Ok.ld)) <;> (intro g; (try simp only [ZGS] at g); try (exfalso; omega)))))
        exact hQ'.out _ (by rw [decide_eq_true hm])
      · simp only [spread_t,spread_f,spread_n,Nat.zero_add,Nat.reduceAdd,h4]
        (repeat' (first | (simp -implicitDefEqProofs (maxSteps := 1000000) (disch := first | assumption | omega | (simp only [ZDI]; omega)) only [*,G50,Za,Zb,Zc,Zd,Ze,Zf,Zg,Zh,Zi,Zj,Zk,Zl,Zm,Zn,Zo,Ja,Jb,Jc,J3,Jd,Je,J4,J5,Jf,Jg,Jh,Ji,Jj,Jk,J6,Jl,Jm,wr,Jn,J7,J8,Jo,Jp,Jq,Jr,Js,Jt,Ju,Jv,Jw,Jx,Jy,Jz,J0,J1,J2,reduceCtorEq,J9,JA,JB,JC,JD,JE,JF,JG]) | ((with_reducible (first | apply Ok.br | apply Ok.gd | apply Ok.ld)) <;> (intro g; (try simp only [ZGS] at g); try (exfalso; omega)))))
        exact hQ'.out _ (by rw [decide_eq_false hm])
  · have hlen' : ¬ (l.length : Int) = (m.length : Int) := by omega
    (refine Ok.body body50 pin50 ?_; simp only [c50,Try.f50,Option.getD_some,nslot50,List.append_nil,List.map,List.replicate,List.length_cons,List.length_nil,Nat.reduceAdd,Nat.reduceSub,List.cons_append,List.nil_append])
    (repeat' (first | (simp -implicitDefEqProofs (maxSteps := 1000000) (disch := first | assumption | omega | (simp only [ZDI]; omega)) only [*,lenV,eq_self,G50,Za,Zb,Zc,Zd,Ze,Zf,Zg,Zh,Zi,Zj,Zk,Zl,Zm,Zn,Zo,Ja,Jb,Jc,J3,Jd,Je,J4,J5,Jf,Jg,Jh,Ji,Jj,Jk,J6,Jl,Jm,wr,Jn,J7,J8,Jo,Jp,Jq,Jr,Js,Jt,Ju,Jv,Jw,Jx,Jy,Jz,J0,J1,J2,reduceCtorEq,J9,JA,JB,JC,JD,JE,JF,JG]) | ((with_reducible (first | apply Ok.br | apply Ok.gd | apply Ok.ld)) <;> (intro g; (try simp only [ZGS] at g); try (exfalso; omega)))))
    exact hQ'.out _ (by rw [decide_eq_false]; rintro rfl; exact hlen rfl)
end Go.Ev
set_option maxRecDepth 100000
namespace Go.Ev
open Go.Ev renaming exPure -> Ja, ofValue -> Jb, cellsV -> Jc, load -> Jd, store -> Je, binOp -> Jf, intOp -> Jg, rdV -> Jh, vsame -> Ji, vsames -> Jj, makeSliceV -> Jk, resV -> Jl, isCell -> Jm, nilCheckV -> Jn, allV -> Jo, builtinV -> Jp, lenV -> Jq, indexAddrV -> Jr, unOp -> Js, minmaxV -> Jt, minmax -> Ju, sliceV -> Jv, asInt -> Jw, appendV -> Jx, copyV -> Jy, clearV -> Jz, convV -> J0, sliceCells -> J1, shift -> J2
open Bool renaming true -> BT, false -> BF
open Nat renaming reduceEqDiff -> J3, reduceLT -> J4, reduceAdd -> J5, reduceBEq -> J6, reduceSub -> J7, reduceMul -> J8, reduceLeDiff -> JG
open Int renaming reduceLT -> J9, reduceLE -> JA, reduceAdd -> JB, reduceSub -> JC, reduceNeg -> JD, reduceToNat -> JE, reduceEq -> JF
open Go.Proofs Go.Sort
theorem less06_at (x y : RP) (h : Heap) : D X (.fn 33 []) [.agg [.int .i64 x.1, .int .i64 x.2], .agg [.int .i64 y.1, .int .i64 y.2]] h = some (.bool (ltR x y), h) := by
  refine Ok.eq ?_
  obtain ⟨x1, x2⟩ := x
  obtain ⟨y1, y2⟩ := y
  unfold ltR
  by_cases h1 : x1 < y1
  · (refine Ok.body body33 pin33 ?_; simp only [c33,Try.f33,Option.getD_some,nslot33,List.append_nil,List.map,List.replicate,List.length_cons,List.length_nil,Nat.reduceAdd,Nat.reduceSub,List.cons_append,List.nil_append])
    (repeat' (first | (simp -implicitDefEqProofs (maxSteps := 1000000) (disch := first | assumption | omega | (simp only [ZDI]; omega)) only [*,lenV,G33,Za,Zb,Zc,Zd,Ze,Zf,Zg,Zh,Zi,Zj,Zk,Zl,Zm,Zn,Zo,Ja,Jb,Jc,J3,Jd,Je,J4,J5,Jf,Jg,Jh,Ji,Jj,Jk,J6,Jl,Jm,wr,Jn,J7,J8,Jo,Jp,Jq,Jr,Js,Jt,Ju,Jv,Jw,Jx,Jy,Jz,J0,J1,J2,reduceCtorEq,J9,JA,JB,JC,JD,JE,JF,JG]) | ((with_reducible (first | apply Ok.br | apply Ok.gd | apply Ok.ld)) <;> (intro g; (try simp only [ZGS] at g); try (exfalso; omega)))))
    all_goals simp [*]
  · by_cases h2 : x1 = y1
    · by_cases h3 : x2 < y2
      · (refine Ok.body body33 pin33 ?_; simp only [c33,Try.f33,Option.getD_some,nslot33,List.append_nil,List.map,List.replicate,List.length_cons,List.length_nil,Nat.reduceAdd,Nat.reduceSub,List.cons_append,List.nil_append])
        (repeat' (first | (simp -implicitDefEqProofs (maxSteps := 1000000) (disch := first | assumption | omega | (simp only [ZDI]; omega)) only [*,lenV,G33,Za,Zb,Zc,Zd,Ze,Zf,Zg,Zh,Zi,Zj,Zk,Zl,Zm,Zn,Zo,Ja,Jb,Jc,J3,Jd,Je,J4,J5,Jf,Jg,Jh,Ji,Jj,Jk,J6,Jl,Jm,wr,Jn,J7,J8,Jo,Jp,Jq,Jr,Js,Jt,Ju,Jv,Jw,Jx,Jy,Jz,J0,J1,J2,reduceCtorEq,J9,JA,JB,JC,JD,JE,JF,JG]) | ((with_reducible (first | apply Ok.br | apply Ok.gd | apply Ok.ld)) <;> (intro g; (try simp only [ZGS] at g); try (exfalso; omega)))))
        all_goals simp [*]
      · (refine Ok.body body33 pin33 ?_; simp only [c33,Try.f33,Option.getD_some,nslot33,List.append_nil,List.map,List.replicate,List.length_cons,List.length_nil,Nat.reduceAdd,Nat.reduceSub,List.cons_append,List.nil_append])
        (repeat' (first | (simp -implicitDefEqProofs (maxSteps := 1000000) (disch := first | assumption | omega | (simp only [ZDI]; omega)) only [*,lenV,G33,Za,Zb,Zc,Zd,Ze,Zf,Zg,Zh,Zi,Zj,Zk,Zl,Zm,Zn,Zo,Ja,Jb,Jc,J3,Jd,Je,J4,J5,Jf,Jg,Jh,Ji,Jj,Jk,J6,Jl,Jm,wr,Jn,J7,J8,Jo,Jp,Jq,Jr,Js,Jt,Ju,Jv,Jw,Jx,Jy,Jz,J0,J1,J2,reduceCtorEq,J9,JA,JB,JC,JD,JE,JF,JG]) | ((with_reducible (first | apply Ok.br | apply Ok.gd | apply Ok.ld)) <;> (intro g; (try simp only [ZGS] at g); try (exfalso; omega)))))
        all_goals simp [*]
    · (refine Ok.body body33 pin33 ?_; simp only [c33,Try.f33,Option.getD_some,nslot33,List.append_nil,List.map,List.replicate,List.length_cons,List.length_nil,Nat.reduceAdd,Nat.reduceSub,List.cons_append,List.nil_append])
      (repeat' (first | (simp -implicitDefEqProofs (maxSteps := 1000000) (disch := first | assumption | omega | (simp only [ZDI]; omega)) only [*,lenV,G33,Za,Zb,Zc,Zd,Ze,Zf,Zg,Zh,Zi,Zj,Zk,Zl,Zm,Zn,Zo,Ja,Jb,Jc,J3,Jd,Je,J4,J5,Jf,Jg,Jh,Ji,Jj,Jk,J6,Jl,Jm,wr,Jn,J7,J8,Jo,Jp,Jq,Jr,Js,Jt,Ju,Jv,Jw,Jx,Jy,Jz,J0,J1,J2,reduceCtorEq,J9,JA,JB,JC,JD,JE,JF,JG]) | ((with_reducible (first | apply Ok.br | apply Ok.gd | apply Ok.ld)) <;> (intro g; (try simp only [ZGS] at g); try (exfalso; omega)))))
      all_goals simp [*]
end Go.Ev
set_option maxRecDepth 100000
namespace Go.Ev
open Go.Ev renaming exPure -> Ja, ofValue -> Jb, cellsV -> Jc, load -> Jd, store -> Je, binOp -> Jf, intOp -> Jg, rdV -> Jh, vsame -> Ji, vsames -> Jj, makeSliceV -> Jk, resV -> Jl, isCell -> Jm, nilCheckV -> Jn, allV -> Jo, builtinV -> Jp, lenV -> Jq, indexAddrV -> Jr, unOp -> Js, minmaxV -> Jt, minmax -> Ju, sliceV -> Jv, asInt -> Jw, appendV -> Jx, copyV -> Jy, clearV -> Jz, convV -> J0, sliceCells -> J1, shift -> J2
open Bool renaming true -> BT, false -> BF
open Nat renaming reduceEqDiff -> J3, reduceLT -> J4, reduceAdd -> J5, reduceBEq -> J6, reduceSub -> J7, reduceMul -> J8, reduceLeDiff -> JG
open Int renaming reduceLT -> J9, reduceLE -> JA, reduceAdd -> JB, reduceSub -> JC, reduceNeg -> JD, reduceToNat -> JE, reduceEq -> JF
open Go.Proofs
structure In where
  (l i bn bd vn vd st : Int) (sm : Bool) (o c q f t : Int) (dv : V) (dl : List ByteArray) (sq : Int) (pv : V) (pl : List RP)
def inV (x : In) : List V := [.int .i64 x.l, .int .i64 x.i, .int .i64 x.bn, .int .i64 x.bd, .int .i64 x.vn, .int .i64 x.vd, .int .i64 x.st, .bool x.sm, .int .i64 x.o, .int .i64 x.c, .int .i64 x.q, .int .i64 x.f, .int .i64 x.t, x.dv, .int .i64 x.sq, x.pv]
def InAt (h : Heap) (x : In) : Prop := StrsAt h x.dv x.dl /\ RowAt h x.pv x.pl
theorem StrsAt.sl {h : Heap} {v : V} {l : List ByteArray} (hs : StrsAt h v l) : ∃ a cap z, v = .sl a l.length cap z := let ⟨a, cap, z, e, _⟩ := hs; ⟨a, cap, z, e⟩
theorem RowAt.sl {h : Heap} {v : V} {l : List RP} (hs : RowAt h v l) : ∃ a cap z, v = .sl a l.length cap z := let ⟨a, cap, z, e, _⟩ := hs; ⟨a, cap, z, e⟩
theorem less_at (x y : RP) (h : Heap) : D X (.fn 78 []) [.agg [.int .i64 x.1, .int .i64 x.2], .agg [.int .i64 y.1, .int .i64 y.2]] h = some (.bool (ltR x y), h) := by
  refine Ok.eq ?_
  obtain ⟨x1, x2⟩ := x
  obtain ⟨y1, y2⟩ := y
  unfold ltR
  by_cases h1 : x1 = y1
  · by_cases h2 : x2 < y2
    · (refine Ok.body body78 pin78 ?_; simp only [c78,Try.f78,Option.getD_some,nslot78,List.append_nil,List.map,List.replicate,List.length_cons,List.length_nil,Nat.reduceAdd,Nat.reduceSub,List.cons_append,List.nil_append])
      (repeat' (first | (simp -implicitDefEqProofs (maxSteps := 1000000) (disch := first | assumption | omega | (simp only [ZDI]; omega)) only [*,lenV,G78,Za,Zb,Zc,Zd,Ze,Zf,Zg,Zh,Zi,Zj,Zk,Zl,Zm,Zn,Zo,Ja,Jb,Jc,J3,Jd,Je,J4,J5,Jf,Jg,Jh,Ji,Jj,Jk,J6,Jl,Jm,wr,Jn,J7,J8,Jo,Jp,Jq,Jr,Js,Jt,Ju,Jv,Jw,Jx,Jy,Jz,J0,J1,J2,reduceCtorEq,J9,JA,JB,JC,JD,JE,JF,JG]) | ((with_reducible (first | apply Ok.br | apply Ok.gd | apply Ok.ld)) <;> (intro g; (try simp only [ZGS] at g); try (exfalso; omega)))))
      all_goals simp [*]
    · (refine Ok.body body78 pin78 ?_; simp only [c78,Try.f78,Option.getD_some,nslot78,List.append_nil,List.map,List.replicate,List.length_cons,List.length_nil,Nat.reduceAdd,Nat.reduceSub,List.cons_append,List.nil_append])
      (repeat' (first | (simp -implicitDefEqProofs (maxSteps := 1000000) (disch := first | assumption | omega | (simp only [ZDI]; omega)) only [*,lenV,G78,Za,Zb,Zc,Zd,Ze,Zf,Zg,Zh,Zi,Zj,Zk,Zl,Zm,Zn,Zo,Ja,Jb,Jc,J3,Jd,Je,J4,J5,Jf,Jg,Jh,Ji,Jj,Jk,J6,Jl,Jm,wr,Jn,J7,J8,Jo,Jp,Jq,Jr,Js,Jt,Ju,Jv,Jw,Jx,Jy,Jz,J0,J1,J2,reduceCtorEq,J9,JA,JB,JC,JD,JE,JF,JG]) | ((with_reducible (first | apply Ok.br | apply Ok.gd | apply Ok.ld)) <;> (intro g; (try simp only [ZGS] at g); try (exfalso; omega)))))
      all_goals simp [*]
  · by_cases h2 : x1 < y1
    · (refine Ok.body body78 pin78 ?_; simp only [c78,Try.f78,Option.getD_some,nslot78,List.append_nil,List.map,List.replicate,List.length_cons,List.length_nil,Nat.reduceAdd,Nat.reduceSub,List.cons_append,List.nil_append])
      (repeat' (first | (simp -implicitDefEqProofs (maxSteps := 1000000) (disch := first | assumption | omega | (simp only [ZDI]; omega)) only [*,lenV,G78,Za,Zb,Zc,Zd,Ze,Zf,Zg,Zh,Zi,Zj,Zk,Zl,Zm,Zn,Zo,Ja,Jb,Jc,J3,Jd,Je,J4,J5,Jf,Jg,Jh,Ji,Jj,Jk,J6,Jl,Jm,wr,Jn,J7,J8,Jo,Jp,Jq,Jr,Js,Jt,Ju,Jv,Jw,Jx,Jy,Jz,J0,J1,J2,reduceCtorEq,J9,JA,JB,JC,JD,JE,JF,JG]) | ((with_reducible (first | apply Ok.br | apply Ok.gd | apply Ok.ld)) <;> (intro g; (try simp only [ZGS] at g); try (exfalso; omega)))))
      all_goals simp [*]
    · (refine Ok.body body78 pin78 ?_; simp only [c78,Try.f78,Option.getD_some,nslot78,List.append_nil,List.map,List.replicate,List.length_cons,List.length_nil,Nat.reduceAdd,Nat.reduceSub,List.cons_append,List.nil_append])
      (repeat' (first | (simp -implicitDefEqProofs (maxSteps := 1000000) (disch := first | assumption | omega | (simp only [ZDI]; omega)) only [*,lenV,G78,Za,Zb,Zc,Zd,Ze,Zf,Zg,Zh,Zi,Zj,Zk,Zl,Zm,Zn,Zo,Ja,Jb,Jc,J3,Jd,Je,J4,J5,Jf,Jg,Jh,Ji,Jj,Jk,J6,Jl,Jm,wr,Jn,J7,J8,Jo,Jp,Jq,Jr,Js,Jt,Ju,Jv,Jw,Jx,Jy,Jz,J0,J1,J2,reduceCtorEq,J9,JA,JB,JC,JD,JE,JF,JG]) | ((with_reducible (first | apply Ok.br | apply Ok.gd | apply Ok.ld)) <;> (intro g; (try simp only [ZGS] at g); try (exfalso; omega)))))
      all_goals simp [*]
def refP (l i : Int) : Prop := 0 <= l /\ l < 7 /\ 1 <= i /\ i <= 1073741824
instance (l i : Int) : Decidable (refP l i) := by unfold refP; infer_instance
theorem isRef_at (l i : Int) (h : Heap) : D X (.fn 43 []) [.agg [.int .i64 l, .int .i64 i]] h = some (.bool (decide (refP l i)), h) := by
  refine Ok.eq ?_
  (refine Ok.body body43 pin43 ?_; simp only [c43,Try.f43,Option.getD_some,nslot43,List.append_nil,List.map,List.replicate,List.length_cons,List.length_nil,Nat.reduceAdd,Nat.reduceSub,List.cons_append,List.nil_append])
  (repeat' (first | (simp -implicitDefEqProofs (maxSteps := 1000000) (disch := first | assumption | omega | (simp only [ZDI]; omega)) only [*,G43,Za,Zb,Zc,Zd,Ze,Zf,Zg,Zh,Zi,Zj,Zk,Zl,Zm,Zn,Zo,Ja,Jb,Jc,J3,Jd,Je,J4,J5,Jf,Jg,Jh,Ji,Jj,Jk,J6,Jl,Jm,wr,Jn,J7,J8,Jo,Jp,Jq,Jr,Js,Jt,Ju,Jv,Jw,Jx,Jy,Jz,J0,J1,J2,reduceCtorEq,J9,JA,JB,JC,JD,JE,JF,JG]) | ((with_reducible (first | apply Ok.br | apply Ok.gd | apply Ok.ld)) <;> (intro g; (try simp only [ZGS] at g); try (exfalso; omega)))))
  all_goals (first | rfl | (exfalso; omega) | exact leaf_t (by (try unfold refP); (try simp only [Bool.and_eq_true,Bool.or_eq_true,decide_eq_true_eq,Bool.not_eq_true',decide_eq_false_iff_not,Bool.false_eq_true,Bool.true_eq_false,Bool.not_false,Bool.not_true,eq_self,iff_true,iff_false,true_iff,false_iff,false_or,true_or,or_false,or_true,true_and,and_true,false_and,and_false,not_true_eq_false,not_false_eq_true]); (first | done | omega)) | exact leaf_f (by (try unfold refP); (try simp only [Bool.and_eq_true,Bool.or_eq_true,decide_eq_true_eq,Bool.not_eq_true',decide_eq_false_iff_not,Bool.false_eq_true,Bool.true_eq_false,Bool.not_false,Bool.not_true,eq_self,iff_true,iff_false,true_iff,false_iff,false_or,true_or,or_false,or_true,true_and,and_true,false_and,and_false,not_true_eq_false,not_false_eq_true]); (first | done | omega)) | exact leaf_b (by (try unfold refP); (try simp only [Bool.and_eq_true,Bool.or_eq_true,decide_eq_true_eq,Bool.not_eq_true',decide_eq_false_iff_not,Bool.false_eq_true,Bool.true_eq_false,Bool.not_false,Bool.not_true,eq_self,iff_true,iff_false,true_iff,false_iff,false_or,true_or,or_false,or_true,true_and,and_true,false_and,and_false,not_true_eq_false,not_false_eq_true]); (first | done | omega)))
theorem mayRef_at (l i : Int) (h : Heap) : D X (.fn 48 []) [.agg [.int .i64 l, .int .i64 i]] h = some (.bool (decide (refP l i)), h) := by
  refine Ok.eq ?_
  (refine Ok.body body48 pin48 ?_; simp only [c48,Try.f48,Option.getD_some,nslot48,List.append_nil,List.map,List.replicate,List.length_cons,List.length_nil,Nat.reduceAdd,Nat.reduceSub,List.cons_append,List.nil_append])
  (repeat' (first | (simp -implicitDefEqProofs (maxSteps := 1000000) (disch := first | assumption | omega | (simp only [ZDI]; omega)) only [*,G48,Za,Zb,Zc,Zd,Ze,Zf,Zg,Zh,Zi,Zj,Zk,Zl,Zm,Zn,Zo,Ja,Jb,Jc,J3,Jd,Je,J4,J5,Jf,Jg,Jh,Ji,Jj,Jk,J6,Jl,Jm,wr,Jn,J7,J8,Jo,Jp,Jq,Jr,Js,Jt,Ju,Jv,Jw,Jx,Jy,Jz,J0,J1,J2,reduceCtorEq,J9,JA,JB,JC,JD,JE,JF,JG]) | ((with_reducible (first | apply Ok.br | apply Ok.gd | apply Ok.ld)) <;> (intro g; (try simp only [ZGS] at g); try (exfalso; omega)))))
  all_goals (first | rfl | (exfalso; omega) | exact leaf_t (by (try unfold refP); (try simp only [Bool.and_eq_true,Bool.or_eq_true,decide_eq_true_eq,Bool.not_eq_true',decide_eq_false_iff_not,Bool.false_eq_true,Bool.true_eq_false,Bool.not_false,Bool.not_true,eq_self,iff_true,iff_false,true_iff,false_iff,false_or,true_or,or_false,or_true,true_and,and_true,false_and,and_false,not_true_eq_false,not_false_eq_true]); (first | done | omega)) | exact leaf_f (by (try unfold refP); (try simp only [Bool.and_eq_true,Bool.or_eq_true,decide_eq_true_eq,Bool.not_eq_true',decide_eq_false_iff_not,Bool.false_eq_true,Bool.true_eq_false,Bool.not_false,Bool.not_true,eq_self,iff_true,iff_false,true_iff,false_iff,false_or,true_or,or_false,or_true,true_and,and_true,false_and,and_false,not_true_eq_false,not_false_eq_true]); (first | done | omega)) | exact leaf_b (by (try unfold refP); (try simp only [Bool.and_eq_true,Bool.or_eq_true,decide_eq_true_eq,Bool.not_eq_true',decide_eq_false_iff_not,Bool.false_eq_true,Bool.true_eq_false,Bool.not_false,Bool.not_true,eq_self,iff_true,iff_false,true_iff,false_iff,false_or,true_or,or_false,or_true,true_and,and_true,false_and,and_false,not_true_eq_false,not_false_eq_true]); (first | done | omega)))
def balP (n d : Int) : Prop := 0 <= n /\ n <= 1073741824 /\ 0 <= d /\ d < 7
instance (n d : Int) : Decidable (balP n d) := by unfold balP; infer_instance
theorem isBallot_at (n d : Int) (h : Heap) : D X (.fn 44 []) [.agg [.int .i64 n, .int .i64 d]] h = some (.bool (decide (balP n d)), h) := by
  refine Ok.eq ?_
  (refine Ok.body body44 pin44 ?_; simp only [c44,Try.f44,Option.getD_some,nslot44,List.append_nil,List.map,List.replicate,List.length_cons,List.length_nil,Nat.reduceAdd,Nat.reduceSub,List.cons_append,List.nil_append])
  (repeat' (first | (simp -implicitDefEqProofs (maxSteps := 1000000) (disch := first | assumption | omega | (simp only [ZDI]; omega)) only [*,G44,Za,Zb,Zc,Zd,Ze,Zf,Zg,Zh,Zi,Zj,Zk,Zl,Zm,Zn,Zo,Ja,Jb,Jc,J3,Jd,Je,J4,J5,Jf,Jg,Jh,Ji,Jj,Jk,J6,Jl,Jm,wr,Jn,J7,J8,Jo,Jp,Jq,Jr,Js,Jt,Ju,Jv,Jw,Jx,Jy,Jz,J0,J1,J2,reduceCtorEq,J9,JA,JB,JC,JD,JE,JF,JG]) | ((with_reducible (first | apply Ok.br | apply Ok.gd | apply Ok.ld)) <;> (intro g; (try simp only [ZGS] at g); try (exfalso; omega)))))
  all_goals (first | rfl | (exfalso; omega) | exact leaf_t (by (try unfold balP); (try simp only [Bool.and_eq_true,Bool.or_eq_true,decide_eq_true_eq,Bool.not_eq_true',decide_eq_false_iff_not,Bool.false_eq_true,Bool.true_eq_false,Bool.not_false,Bool.not_true,eq_self,iff_true,iff_false,true_iff,false_iff,false_or,true_or,or_false,or_true,true_and,and_true,false_and,and_false,not_true_eq_false,not_false_eq_true]); (first | done | omega)) | exact leaf_f (by (try unfold balP); (try simp only [Bool.and_eq_true,Bool.or_eq_true,decide_eq_true_eq,Bool.not_eq_true',decide_eq_false_iff_not,Bool.false_eq_true,Bool.true_eq_false,Bool.not_false,Bool.not_true,eq_self,iff_true,iff_false,true_iff,false_iff,false_or,true_or,or_false,or_true,true_and,and_true,false_and,and_false,not_true_eq_false,not_false_eq_true]); (first | done | omega)) | exact leaf_b (by (try unfold balP); (try simp only [Bool.and_eq_true,Bool.or_eq_true,decide_eq_true_eq,Bool.not_eq_true',decide_eq_false_iff_not,Bool.false_eq_true,Bool.true_eq_false,Bool.not_false,Bool.not_true,eq_self,iff_true,iff_false,true_iff,false_iff,false_or,true_or,or_false,or_true,true_and,and_true,false_and,and_false,not_true_eq_false,not_false_eq_true]); (first | done | omega)))
theorem mayBallot_at (n d : Int) (h : Heap) : D X (.fn 49 []) [.agg [.int .i64 n, .int .i64 d]] h = some (.bool (decide (balP n d)), h) := by
  refine Ok.eq ?_
  (refine Ok.body body49 pin49 ?_; simp only [c49,Try.f49,Option.getD_some,nslot49,List.append_nil,List.map,List.replicate,List.length_cons,List.length_nil,Nat.reduceAdd,Nat.reduceSub,List.cons_append,List.nil_append])
  (repeat' (first | (simp -implicitDefEqProofs (maxSteps := 1000000) (disch := first | assumption | omega | (simp only [ZDI]; omega)) only [*,G49,Za,Zb,Zc,Zd,Ze,Zf,Zg,Zh,Zi,Zj,Zk,Zl,Zm,Zn,Zo,Ja,Jb,Jc,J3,Jd,Je,J4,J5,Jf,Jg,Jh,Ji,Jj,Jk,J6,Jl,Jm,wr,Jn,J7,J8,Jo,Jp,Jq,Jr,Js,Jt,Ju,Jv,Jw,Jx,Jy,Jz,J0,J1,J2,reduceCtorEq,J9,JA,JB,JC,JD,JE,JF,JG]) | ((with_reducible (first | apply Ok.br | apply Ok.gd | apply Ok.ld)) <;> (intro g; (try simp only [ZGS] at g); try (exfalso; omega)))))
  all_goals (first | rfl | (exfalso; omega) | exact leaf_t (by (try unfold balP); (try simp only [Bool.and_eq_true,Bool.or_eq_true,decide_eq_true_eq,Bool.not_eq_true',decide_eq_false_iff_not,Bool.false_eq_true,Bool.true_eq_false,Bool.not_false,Bool.not_true,eq_self,iff_true,iff_false,true_iff,false_iff,false_or,true_or,or_false,or_true,true_and,and_true,false_and,and_false,not_true_eq_false,not_false_eq_true]); (first | done | omega)) | exact leaf_f (by (try unfold balP); (try simp only [Bool.and_eq_true,Bool.or_eq_true,decide_eq_true_eq,Bool.not_eq_true',decide_eq_false_iff_not,Bool.false_eq_true,Bool.true_eq_false,Bool.not_false,Bool.not_true,eq_self,iff_true,iff_false,true_iff,false_iff,false_or,true_or,or_false,or_true,true_and,and_true,false_and,and_false,not_true_eq_false,not_false_eq_true]); (first | done | omega)) | exact leaf_b (by (try unfold balP); (try simp only [Bool.and_eq_true,Bool.or_eq_true,decide_eq_true_eq,Bool.not_eq_true',decide_eq_false_iff_not,Bool.false_eq_true,Bool.true_eq_false,Bool.not_false,Bool.not_true,eq_self,iff_true,iff_false,true_iff,false_iff,false_or,true_or,or_false,or_true,true_and,and_true,false_and,and_false,not_true_eq_false,not_false_eq_true]); (first | done | omega)))
def lsP (a b c d : Int) : Prop := a < c \/ (a = c /\ b < d)
instance (a b c d : Int) : Decidable (lsP a b c d) := by unfold lsP; infer_instance
theorem lessBallot_at (a b c d : Int) (h : Heap) : D X (.fn 18 []) [.agg [.int .i64 a, .int .i64 b], .agg [.int .i64 c, .int .i64 d]] h = some (.bool (decide (lsP a b c d)), h) := by
  refine Ok.eq ?_
  by_cases h1 : a = c
  · (refine Ok.body body18 pin18 ?_; simp only [c18,Try.f18,Option.getD_some,nslot18,List.append_nil,List.map,List.replicate,List.length_cons,List.length_nil,Nat.reduceAdd,Nat.reduceSub,List.cons_append,List.nil_append])
    (repeat' (first | (simp -implicitDefEqProofs (maxSteps := 1000000) (disch := first | assumption | omega | (simp only [ZDI]; omega)) only [*,eq_self,G18,Za,Zb,Zc,Zd,Ze,Zf,Zg,Zh,Zi,Zj,Zk,Zl,Zm,Zn,Zo,Ja,Jb,Jc,J3,Jd,Je,J4,J5,Jf,Jg,Jh,Ji,Jj,Jk,J6,Jl,Jm,wr,Jn,J7,J8,Jo,Jp,Jq,Jr,Js,Jt,Ju,Jv,Jw,Jx,Jy,Jz,J0,J1,J2,reduceCtorEq,J9,JA,JB,JC,JD,JE,JF,JG]) | ((with_reducible (first | apply Ok.br | apply Ok.gd | apply Ok.ld)) <;> (intro g; (try simp only [ZGS] at g); try (exfalso; omega)))))
    all_goals (first | rfl | (exfalso; omega) | exact leaf_t (by (try unfold lsP); (try simp only [Bool.and_eq_true,Bool.or_eq_true,decide_eq_true_eq,Bool.not_eq_true',decide_eq_false_iff_not,Bool.false_eq_true,Bool.true_eq_false,Bool.not_false,Bool.not_true,eq_self,iff_true,iff_false,true_iff,false_iff,false_or,true_or,or_false,or_true,true_and,and_true,false_and,and_false,not_true_eq_false,not_false_eq_true]); (first | done | omega)) | exact leaf_f (by (try unfold lsP); (try simp only [Bool.and_eq_true,Bool.or_eq_true,decide_eq_true_eq,Bool.not_eq_true',decide_eq_false_iff_not,Bool.false_eq_true,Bool.true_eq_false,Bool.not_false,Bool.not_true,eq_self,iff_true,iff_false,true_iff,false_iff,false_or,true_or,or_false,or_true,true_and,and_true,false_and,and_false,not_true_eq_false,not_false_eq_true]); (first | done | omega)) | exact leaf_b (by (try unfold lsP); (try simp only [Bool.and_eq_true,Bool.or_eq_true,decide_eq_true_eq,Bool.not_eq_true',decide_eq_false_iff_not,Bool.false_eq_true,Bool.true_eq_false,Bool.not_false,Bool.not_true,eq_self,iff_true,iff_false,true_iff,false_iff,false_or,true_or,or_false,or_true,true_and,and_true,false_and,and_false,not_true_eq_false,not_false_eq_true]); (first | done | omega)))
  · (refine Ok.body body18 pin18 ?_; simp only [c18,Try.f18,Option.getD_some,nslot18,List.append_nil,List.map,List.replicate,List.length_cons,List.length_nil,Nat.reduceAdd,Nat.reduceSub,List.cons_append,List.nil_append])
    (repeat' (first | (simp -implicitDefEqProofs (maxSteps := 1000000) (disch := first | assumption | omega | (simp only [ZDI]; omega)) only [*,G18,Za,Zb,Zc,Zd,Ze,Zf,Zg,Zh,Zi,Zj,Zk,Zl,Zm,Zn,Zo,Ja,Jb,Jc,J3,Jd,Je,J4,J5,Jf,Jg,Jh,Ji,Jj,Jk,J6,Jl,Jm,wr,Jn,J7,J8,Jo,Jp,Jq,Jr,Js,Jt,Ju,Jv,Jw,Jx,Jy,Jz,J0,J1,J2,reduceCtorEq,J9,JA,JB,JC,JD,JE,JF,JG]) | ((with_reducible (first | apply Ok.br | apply Ok.gd | apply Ok.ld)) <;> (intro g; (try simp only [ZGS] at g); try (exfalso; omega)))))
    all_goals (first | rfl | (exfalso; omega) | exact leaf_t (by (try unfold lsP); (try simp only [Bool.and_eq_true,Bool.or_eq_true,decide_eq_true_eq,Bool.not_eq_true',decide_eq_false_iff_not,Bool.false_eq_true,Bool.true_eq_false,Bool.not_false,Bool.not_true,eq_self,iff_true,iff_false,true_iff,false_iff,false_or,true_or,or_false,or_true,true_and,and_true,false_and,and_false,not_true_eq_false,not_false_eq_true]); (first | done | omega)) | exact leaf_f (by (try unfold lsP); (try simp only [Bool.and_eq_true,Bool.or_eq_true,decide_eq_true_eq,Bool.not_eq_true',decide_eq_false_iff_not,Bool.false_eq_true,Bool.true_eq_false,Bool.not_false,Bool.not_true,eq_self,iff_true,iff_false,true_iff,false_iff,false_or,true_or,or_false,or_true,true_and,and_true,false_and,and_false,not_true_eq_false,not_false_eq_true]); (first | done | omega)) | exact leaf_b (by (try unfold lsP); (try simp only [Bool.and_eq_true,Bool.or_eq_true,decide_eq_true_eq,Bool.not_eq_true',decide_eq_false_iff_not,Bool.false_eq_true,Bool.true_eq_false,Bool.not_false,Bool.not_true,eq_self,iff_true,iff_false,true_iff,false_iff,false_or,true_or,or_false,or_true,true_and,and_true,false_and,and_false,not_true_eq_false,not_false_eq_true]); (first | done | omega)))
theorem rLess_at (a b c d : Int) (h : Heap) : D X (.fn 19 []) [.agg [.int .i64 a, .int .i64 b], .agg [.int .i64 c, .int .i64 d]] h = some (.bool (decide (lsP a b c d)), h) := by
  refine Ok.eq ?_
  by_cases h1 : a = c
  · (refine Ok.body body19 pin19 ?_; simp only [c19,Try.f19,Option.getD_some,nslot19,List.append_nil,List.map,List.replicate,List.length_cons,List.length_nil,Nat.reduceAdd,Nat.reduceSub,List.cons_append,List.nil_append])
    (repeat' (first | (simp -implicitDefEqProofs (maxSteps := 1000000) (disch := first | assumption | omega | (simp only [ZDI]; omega)) only [*,eq_self,G19,Za,Zb,Zc,Zd,Ze,Zf,Zg,Zh,Zi,Zj,Zk,Zl,Zm,Zn,Zo,Ja,Jb,Jc,J3,Jd,Je,J4,J5,Jf,Jg,Jh,Ji,Jj,Jk,J6,Jl,Jm,wr,Jn,J7,J8,Jo,Jp,Jq,Jr,Js,Jt,Ju,Jv,Jw,Jx,Jy,Jz,J0,J1,J2,reduceCtorEq,J9,JA,JB,JC,JD,JE,JF,JG]) | ((with_reducible (first | apply Ok.br | apply Ok.gd | apply Ok.ld)) <;> (intro g; (try simp only [ZGS] at g); try (exfalso; omega)))))
    all_goals (first | rfl | (exfalso; omega) | exact leaf_t (by (try unfold lsP); (try simp only [Bool.and_eq_true,Bool.or_eq_true,decide_eq_true_eq,Bool.not_eq_true',decide_eq_false_iff_not,Bool.false_eq_true,Bool.true_eq_false,Bool.not_false,Bool.not_true,eq_self,iff_true,iff_false,true_iff,false_iff,false_or,true_or,or_false,or_true,true_and,and_true,false_and,and_false,not_true_eq_false,not_false_eq_true]); (first | done | omega)) | exact leaf_f (by (try unfold lsP); (try simp only [Bool.and_eq_true,Bool.or_eq_true,decide_eq_true_eq,Bool.not_eq_true',decide_eq_false_iff_not,Bool.false_eq_true,Bool.true_eq_false,Bool.not_false,Bool.not_true,eq_self,iff_true,iff_false,true_iff,false_iff,false_or,true_or,or_false,or_true,true_and,and_true,false_and,and_false,not_true_eq_false,not_false_eq_true]); (first | done | omega)) | exact leaf_b (by (try unfold lsP); (try simp only [Bool.and_eq_true,Bool.or_eq_true,decide_eq_true_eq,Bool.not_eq_true',decide_eq_false_iff_not,Bool.false_eq_true,Bool.true_eq_false,Bool.not_false,Bool.not_true,eq_self,iff_true,iff_false,true_iff,false_iff,false_or,true_or,or_false,or_true,true_and,and_true,false_and,and_false,not_true_eq_false,not_false_eq_true]); (first | done | omega)))
  · (refine Ok.body body19 pin19 ?_; simp only [c19,Try.f19,Option.getD_some,nslot19,List.append_nil,List.map,List.replicate,List.length_cons,List.length_nil,Nat.reduceAdd,Nat.reduceSub,List.cons_append,List.nil_append])
    (repeat' (first | (simp -implicitDefEqProofs (maxSteps := 1000000) (disch := first | assumption | omega | (simp only [ZDI]; omega)) only [*,G19,Za,Zb,Zc,Zd,Ze,Zf,Zg,Zh,Zi,Zj,Zk,Zl,Zm,Zn,Zo,Ja,Jb,Jc,J3,Jd,Je,J4,J5,Jf,Jg,Jh,Ji,Jj,Jk,J6,Jl,Jm,wr,Jn,J7,J8,Jo,Jp,Jq,Jr,Js,Jt,Ju,Jv,Jw,Jx,Jy,Jz,J0,J1,J2,reduceCtorEq,J9,JA,JB,JC,JD,JE,JF,JG]) | ((with_reducible (first | apply Ok.br | apply Ok.gd | apply Ok.ld)) <;> (intro g; (try simp only [ZGS] at g); try (exfalso; omega)))))
    all_goals (first | rfl | (exfalso; omega) | exact leaf_t (by (try unfold lsP); (try simp only [Bool.and_eq_true,Bool.or_eq_true,decide_eq_true_eq,Bool.not_eq_true',decide_eq_false_iff_not,Bool.false_eq_true,Bool.true_eq_false,Bool.not_false,Bool.not_true,eq_self,iff_true,iff_false,true_iff,false_iff,false_or,true_or,or_false,or_true,true_and,and_true,false_and,and_false,not_true_eq_false,not_false_eq_true]); (first | done | omega)) | exact leaf_f (by (try unfold lsP); (try simp only [Bool.and_eq_true,Bool.or_eq_true,decide_eq_true_eq,Bool.not_eq_true',decide_eq_false_iff_not,Bool.false_eq_true,Bool.true_eq_false,Bool.not_false,Bool.not_true,eq_self,iff_true,iff_false,true_iff,false_iff,false_or,true_or,or_false,or_true,true_and,and_true,false_and,and_false,not_true_eq_false,not_false_eq_true]); (first | done | omega)) | exact leaf_b (by (try unfold lsP); (try simp only [Bool.and_eq_true,Bool.or_eq_true,decide_eq_true_eq,Bool.not_eq_true',decide_eq_false_iff_not,Bool.false_eq_true,Bool.true_eq_false,Bool.not_false,Bool.not_true,eq_self,iff_true,iff_false,true_iff,false_iff,false_or,true_or,or_false,or_true,true_and,and_true,false_and,and_false,not_true_eq_false,not_false_eq_true]); (first | done | omega)))
def smC (o c q f t o' c' q' f' t' : Int) : Prop := o = o' /\ c = c' /\ q = q' /\ f = f' /\ t = t'
instance (o c q f t o' c' q' f' t' : Int) : Decidable (smC o c q f t o' c' q' f' t') := by unfold smC; infer_instance
theorem truth (P : Prop) [Decidable P] : ∃ b, decide P = b /\ Hid (P -> b = true) /\ Hid (¬ P -> b = false) := ⟨decide P, rfl, ⟨fun h => decide_eq_true h⟩, ⟨fun h => decide_eq_false h⟩⟩
theorem sameCmd_at {h : Heap} {o c q f t o' c' q' f' t' : Int} {v w : V} {l m : List ByteArray} (hr : StrsAt h v l) (hs : StrsAt h w m) :
    D X (.fn 51 []) [.agg [.int .i64 o, .int .i64 c, .int .i64 q, .int .i64 f, .int .i64 t, v], .agg [.int .i64 o', .int .i64 c', .int .i64 q', .int .i64 f', .int .i64 t', w]] h = some (.bool (decide (smC o c q f t o' c' q' f' t') && decide (l = m)), h) := by
  refine Ok.eq ?_
  have he := equalS_at hr hs
  obtain ⟨a, cap, z, rfl⟩ := hr.sl
  obtain ⟨a2, cap2, z2, rfl⟩ := hs.sl
  clear hr hs
  generalize decide (l = m) = e at he ⊢
  obtain ⟨b, hb, b1, b0⟩ := truth (smC o c q f t o' c' q' f' t')
  rw [hb]
  clear hb
  (refine Ok.body body51 pin51 ?_; simp only [c51,Try.f51,Option.getD_some,nslot51,List.append_nil,List.map,List.replicate,List.length_cons,List.length_nil,Nat.reduceAdd,Nat.reduceSub,List.cons_append,List.nil_append])
  (repeat' (first | (simp -implicitDefEqProofs (maxSteps := 1000000) (disch := first | assumption | omega | (simp only [ZDI]; omega)) only [*,G51,Za,Zb,Zc,Zd,Ze,Zf,Zg,Zh,Zi,Zj,Zk,Zl,Zm,Zn,Zo,Ja,Jb,Jc,J3,Jd,Je,J4,J5,Jf,Jg,Jh,Ji,Jj,Jk,J6,Jl,Jm,wr,Jn,J7,J8,Jo,Jp,Jq,Jr,Js,Jt,Ju,Jv,Jw,Jx,Jy,Jz,J0,J1,J2,reduceCtorEq,J9,JA,JB,JC,JD,JE,JF,JG]) | ((with_reducible (first | apply Ok.br | apply Ok.gd | apply Ok.ld)) <;> (intro g; (try simp only [ZGS] at g); try (exfalso; omega)))))
  all_goals first
    | (rw [b1.out (by unfold smC; omega)]; rfl)
    | (rw [b0.out (by unfold smC; omega)]; rfl)
theorem rSameCmd_at {h : Heap} {o c q f t o' c' q' f' t' : Int} {v w : V} {l m : List ByteArray} (hr : StrsAt h v l) (hs : StrsAt h w m) :
    D X (.fn 50 []) [.agg [.int .i64 o, .int .i64 c, .int .i64 q, .int .i64 f, .int .i64 t, v], .agg [.int .i64 o', .int .i64 c', .int .i64 q', .int .i64 f', .int .i64 t', w]] h = some (.bool (decide (smC o c q f t o' c' q' f' t') && decide (l = m)), h) := by
  by_cases hsm : smC o c q f t o' c' q' f' t'
  · rw [decide_eq_true hsm, Bool.true_and]
    obtain ⟨rfl, rfl, rfl, rfl, rfl⟩ := hsm
    exact rSameCmdEq_at hr hs
  · rw [decide_eq_false hsm, Bool.false_and]
    refine Ok.eq ?_
    obtain ⟨a, cap, z, rfl⟩ := hr.sl
    obtain ⟨a2, cap2, z2, rfl⟩ := hs.sl
    clear hr hs
    unfold smC at hsm
    have key : ∀ P : Prop, (¬ o = o' -> P) -> (o = o' -> ¬ c = c' -> P) -> (o = o' -> c = c' -> ¬ q = q' -> P) -> (o = o' -> c = c' -> q = q' -> ¬ f = f' -> P) -> (o = o' -> c = c' -> q = q' -> f = f' -> ¬ t = t' -> P) -> P := by
      intro P p1 p2 p3 p4 p5
      by_cases h1 : o = o'
      · by_cases h2 : c = c'
        · by_cases h3 : q = q'
          · by_cases h4 : f = f'
            · exact p5 h1 h2 h3 h4 fun h5 => hsm ⟨h1, h2, h3, h4, h5⟩
            · exact p4 h1 h2 h3 h4
          · exact p3 h1 h2 h3
        · exact p2 h1 h2
      · exact p1 h1
    clear hsm
    apply key <;> clear key
    all_goals
      intros
      (refine Ok.body body50 pin50 ?_; simp only [c50,Try.f50,Option.getD_some,nslot50,List.append_nil,List.map,List.replicate,List.length_cons,List.length_nil,Nat.reduceAdd,Nat.reduceSub,List.cons_append,List.nil_append])
      (repeat' (first | (simp -implicitDefEqProofs (maxSteps := 1000000) (disch := first | assumption | omega | (simp only [ZDI]; omega)) only [*,eq_self,G50,Za,Zb,Zc,Zd,Ze,Zf,Zg,Zh,Zi,Zj,Zk,Zl,Zm,Zn,Zo,Ja,Jb,Jc,J3,Jd,Je,J4,J5,Jf,Jg,Jh,Ji,Jj,Jk,J6,Jl,Jm,wr,Jn,J7,J8,Jo,Jp,Jq,Jr,Js,Jt,Ju,Jv,Jw,Jx,Jy,Jz,J0,J1,J2,reduceCtorEq,J9,JA,JB,JC,JD,JE,JF,JG]) | ((with_reducible (first | apply Ok.br | apply Ok.gd | apply Ok.ld)) <;> (intro g; (try simp only [ZGS] at g); try (exfalso; omega)))))
def smN (x y : In) : Prop := x.l = y.l /\ x.i = y.i /\ x.bn = y.bn /\ x.bd = y.bd /\ x.vn = y.vn /\ x.vd = y.vd /\ x.st = y.st /\ x.sq = y.sq
instance (x y : In) : Decidable (smN x y) := by unfold smN; infer_instance
def smB (x y : In) : Bool := decide (smN x y) && (x.sm == y.sm) && (decide (smC x.o x.c x.q x.f x.t y.o y.c y.q y.f y.t) && decide (x.dl = y.dl)) && decide (x.pl = y.pl)
set_option maxHeartbeats 2000000 in
theorem same_at {h : Heap} {x y : In} (hx : InAt h x) (hy : InAt h y) : D X (.fn 16 []) [.agg (inV x), .agg (inV y)] h = some (.bool (smB x y), h) := by
  refine Ok.eq ?_
  have h1 := sameCmd_at (o := x.o) (c := x.c) (q := x.q) (f := x.f) (t := x.t) (o' := y.o) (c' := y.c) (q' := y.q) (f' := y.f) (t' := y.t) hx.1 hy.1
  have h2 := equalR_at hx.2 hy.2
  obtain ⟨a, cap, z, e1⟩ := hx.1.sl
  obtain ⟨a2, cap2, z2, e2⟩ := hy.1.sl
  obtain ⟨a3, cap3, z3, e3⟩ := hx.2.sl
  obtain ⟨a4, cap4, z4, e4⟩ := hy.2.sl
  rw [e1, e2] at h1
  rw [e3, e4] at h2
  clear hx hy
  unfold smB
  simp only [inV,e1,e2,e3,e4]
  clear e1 e2 e3 e4
  generalize (decide (smC x.o x.c x.q x.f x.t y.o y.c y.q y.f y.t) && decide (x.dl = y.dl)) = A at h1 ⊢
  generalize decide (x.pl = y.pl) = B at h2 ⊢
  obtain ⟨b, hb, b1, b0⟩ := truth (smN x y)
  rw [hb]
  clear hb
  generalize hsm : (x.sm == y.sm) = s
  (refine Ok.body body16 pin16 ?_; simp only [c16,Try.f16,Option.getD_some,nslot16,List.append_nil,List.map,List.replicate,List.length_cons,List.length_nil,Nat.reduceAdd,Nat.reduceSub,List.cons_append,List.nil_append])
  (repeat' (first | (simp -implicitDefEqProofs (maxSteps := 1000000) (disch := first | assumption | omega | (simp only [ZDI]; omega)) only [*,G16,Za,Zb,Zc,Zd,Ze,Zf,Zg,Zh,Zi,Zj,Zk,Zl,Zm,Zn,Zo,Ja,Jb,Jc,J3,Jd,Je,J4,J5,Jf,Jg,Jh,Ji,Jj,Jk,J6,Jl,Jm,wr,Jn,J7,J8,Jo,Jp,Jq,Jr,Js,Jt,Ju,Jv,Jw,Jx,Jy,Jz,J0,J1,J2,reduceCtorEq,J9,JA,JB,JC,JD,JE,JF,JG]) | ((with_reducible (first | apply Ok.br | apply Ok.gd | apply Ok.ld)) <;> (intro g; (try simp only [ZGS] at g); try (exfalso; omega)))))
  all_goals (try simp only [Bool.and_eq_true,Bool.and_eq_false_iff,decide_eq_true_eq,decide_eq_false_iff_not] at *)
  all_goals first
    | (rw [b1.out (by unfold smN; omega)]; simp [*]; done)
    | (rw [b0.out (by unfold smN; omega)]; simp; done)
    | (simp [*]; done)
set_option maxHeartbeats 2000000 in
theorem rSame_at {h : Heap} {x y : In} (hx : InAt h x) (hy : InAt h y) : D X (.fn 17 []) [.agg (inV x), .agg (inV y)] h = some (.bool (smB x y), h) := by
  refine Ok.eq ?_
  have h1 := rSameCmd_at (o := x.o) (c := x.c) (q := x.q) (f := x.f) (t := x.t) (o' := y.o) (c' := y.c) (q' := y.q) (f' := y.f) (t' := y.t) hx.1 hy.1
  have h2 := sameRefs_at hx.2 hy.2
  obtain ⟨a, cap, z, e1⟩ := hx.1.sl
  obtain ⟨a2, cap2, z2, e2⟩ := hy.1.sl
  obtain ⟨a3, cap3, z3, e3⟩ := hx.2.sl
  obtain ⟨a4, cap4, z4, e4⟩ := hy.2.sl
  rw [e1, e2] at h1
  rw [e3, e4] at h2
  clear hx hy
  unfold smB
  simp only [inV,e1,e2,e3,e4]
  clear e1 e2 e3 e4
  generalize (decide (smC x.o x.c x.q x.f x.t y.o y.c y.q y.f y.t) && decide (x.dl = y.dl)) = A at h1 ⊢
  generalize decide (x.pl = y.pl) = B at h2 ⊢
  obtain ⟨b, hb, b1, b0⟩ := truth (smN x y)
  rw [hb]
  clear hb
  generalize hsm : (x.sm == y.sm) = s
  (refine Ok.body body17 pin17 ?_; simp only [c17,Try.f17,Option.getD_some,nslot17,List.append_nil,List.map,List.replicate,List.length_cons,List.length_nil,Nat.reduceAdd,Nat.reduceSub,List.cons_append,List.nil_append])
  (repeat' (first | (simp -implicitDefEqProofs (maxSteps := 1000000) (disch := first | assumption | omega | (simp only [ZDI]; omega)) only [*,G17,Za,Zb,Zc,Zd,Ze,Zf,Zg,Zh,Zi,Zj,Zk,Zl,Zm,Zn,Zo,Ja,Jb,Jc,J3,Jd,Je,J4,J5,Jf,Jg,Jh,Ji,Jj,Jk,J6,Jl,Jm,wr,Jn,J7,J8,Jo,Jp,Jq,Jr,Js,Jt,Ju,Jv,Jw,Jx,Jy,Jz,J0,J1,J2,reduceCtorEq,J9,JA,JB,JC,JD,JE,JF,JG]) | ((with_reducible (first | apply Ok.br | apply Ok.gd | apply Ok.ld)) <;> (intro g; (try simp only [ZGS] at g); try (exfalso; omega)))))
  all_goals (try simp only [Bool.and_eq_true,Bool.and_eq_false_iff,decide_eq_true_eq,decide_eq_false_iff_not] at *)
  all_goals first
    | (rw [b1.out (by unfold smN; omega)]; simp [*]; done)
    | (rw [b0.out (by unfold smN; omega)]; simp; done)
    | (simp [*]; done)
end Go.Ev
set_option maxRecDepth 100000
namespace Go.Ev
open Go.Ev renaming exPure -> Ja, ofValue -> Jb, cellsV -> Jc, load -> Jd, store -> Je, binOp -> Jf, intOp -> Jg, rdV -> Jh, vsame -> Ji, vsames -> Jj, makeSliceV -> Jk, resV -> Jl, isCell -> Jm, nilCheckV -> Jn, allV -> Jo, builtinV -> Jp, lenV -> Jq, indexAddrV -> Jr, unOp -> Js, minmaxV -> Jt, minmax -> Ju, sliceV -> Jv, asInt -> Jw, appendV -> Jx, copyV -> Jy, clearV -> Jz, convV -> J0, sliceCells -> J1, shift -> J2
open Bool renaming true -> BT, false -> BF
open Nat renaming reduceEqDiff -> J3, reduceLT -> J4, reduceAdd -> J5, reduceBEq -> J6, reduceSub -> J7, reduceMul -> J8, reduceLeDiff -> JG
open Int renaming reduceLT -> J9, reduceLE -> JA, reduceAdd -> JB, reduceSub -> JC, reduceNeg -> JD, reduceToNat -> JE, reduceEq -> JF
open Go.Proofs
def prvB (p : Option RP) (y : RP) : Bool := match p with | none => true | some p => ltR p y
def risB : Option RP -> List RP -> Bool
  | _, [] => true
  | p, y :: r => decide (refP y.1 y.2) && prvB p y && risB (some y) r
def prv (l : List RP) (i : Nat) : Option RP := if i = 0 then none else l[i - 1]?
theorem risB_step {l : List RP} {i : Nat} {y : RP} (hy : l[i]? = some y) : risB (prv l i) (l.drop i) = (decide (refP y.1 y.2) && prvB (prv l i) y && risB (prv l (i + 1)) (l.drop (i + 1))) := by
  have hi := (List.getElem?_eq_some_iff.1 hy).1
  rw [List.drop_eq_getElem_cons hi]
  have e : l[i] = y := by rw [List.getElem?_eq_getElem hi] at hy; exact Option.some.inj hy
  have e2 : prv l (i + 1) = some y := by unfold prv; rw [if_neg (by omega), Nat.add_sub_cancel, hy]
  rw [e, e2, risB]
theorem risB_end {l : List RP} {i : Nat} (h : l.length <= i) : risB (prv l i) (l.drop i) = true := by
  rw [List.drop_of_length_le h, risB]
set_option maxHeartbeats 2000000 in
theorem rising_at {h : Heap} {v : V} {l : List RP} (hr : RowAt h v l) : D X (.fn 47 []) [v] h = some (.bool (risB none l && decide ((l.length : Int) <= 4096)), h) := by
  refine Ok.eq ?_
  refine Ok.aim fun Q hQ => ?_
  have hQ' := Hid.mk hQ
  clear hQ
  obtain ⟨a, cap, z, rfl, h1, h1', h2⟩ := hr
  have h2' := Hid.mk h2
  clear h2
  (refine Ok.body body47 pin47 ?_; simp only [c47,Try.f47,Option.getD_some,nslot47,List.append_nil,List.map,List.replicate,List.length_cons,List.length_nil,Nat.reduceAdd,Nat.reduceSub,List.cons_append,List.nil_append])
  (repeat' (first | (simp -implicitDefEqProofs (maxSteps := 1000000) (disch := first | assumption | omega | (simp only [ZDI]; omega)) only [*,lenV,G47,Za,Zb,Zc,Zd,Ze,Zf,Zg,Zh,Zi,Zj,Zk,Zl,Zm,Zn,Zo,Ja,Jb,Jc,J3,Jd,Je,J4,J5,Jf,Jg,Jh,Ji,Jj,Jk,J6,Jl,Jm,wr,Jn,J7,J8,Jo,Jp,Jq,Jr,Js,Jt,Ju,Jv,Jw,Jx,Jy,Jz,J0,J1,J2,reduceCtorEq,J9,JA,JB,JC,JD,JE,JF,JG]) | ((with_reducible (first | apply Ok.br | apply Ok.gd | apply Ok.ld)) <;> (intro g; (try simp only [ZGS] at g); try (exfalso; omega)))))
  refine Ok.loop [BF, BF, BT, BT, BT, BF, BF, BT, BT, BT, BT, BT, BT, BT, BT, BT, BT, BT, BT, BT, BT, BT, BT, BT, BT, BT, BT, BT, BT, BT, BF, BF, BF] (fun n s2 => ∃ (i w0 : Nat) (q0 : List V), n = l.length - i /\ i <= l.length /\ tv s2.e 7 = .v (.int .i64 i) /\ s2.l = [(w0, q0)] /\ s2.h = h /\ risB none l = risB (prv l i) (l.drop i))
    (fun y s2 => s2.h = h /\ (∃ (w0 : Nat) (q0 : List V), s2.l = [(w0, q0)]) /\ ((y = .exit 0 /\ risB none l = true) \/ (y = .ret /\ risB none l = false /\ tv s2.e 2 = .v (.bool false)))) (l.length - 0) ⟨0, 0, [], rfl, Nat.zero_le _, rfl, rfl, rfl, rfl⟩ ?_ ?_
  · intro n ⟨e', l', H'⟩ hW ⟨i, w0, q0, hm, hi, h9, k2, k3, hno⟩
    dsimp only at hW h9 k2 k3
    subst l' H'
    rw [hW.spread]
    simp only [spread_t,spread_f,spread_n,Nat.zero_add,Nat.reduceAdd,h9]
    clear hW hQ'
    by_cases hlt : i < l.length
    · have hlt' : (i : Int) < (l.length : Int) := by omega
      have g1 : 0 <= (i : Int) /\ (i : Int) < (l.length : Int) := by omega
      rcases h2'.out with rfl | ⟨b, g, o, rw, full, rfl, hb, hfull, ho⟩
      · simp at hlt
      · obtain ⟨⟨y1, y2⟩, hy⟩ : ∃ y, l[i]? = some y := ⟨_, List.getElem?_eq_getElem hlt⟩
        have hf := hfull i _ hy
        rw [risB_step hy] at hno
        dsimp only at hf hno
        have hr1 := isRef_at y1 y2 h
        generalize decide (refP y1 y2) = rb at hr1 hno
        by_cases h0 : i = 0
        · have hp : prvB (prv l i) (y1, y2) = true := by unfold prv; rw [if_pos h0]; rfl
          rw [hp] at hno
          have g0 : ¬ (0 : Int) < (i : Int) := by omega
          have hno' := Hid.mk hno
          clear hno hy hfull hp h0
          cases rb
          · (repeat' (first | (simp -implicitDefEqProofs (maxSteps := 1000000) (disch := first | assumption | omega | (simp only [ZDI]; omega)) only [*,lenV,G47,Za,Zb,Zc,Zd,Ze,Zf,Zg,Zh,Zi,Zj,Zk,Zl,Zm,Zn,Zo,Ja,Jb,Jc,J3,Jd,Je,J4,J5,Jf,Jg,Jh,Ji,Jj,Jk,J6,Jl,Jm,wr,Jn,J7,J8,Jo,Jp,Jq,Jr,Js,Jt,Ju,Jv,Jw,Jx,Jy,Jz,J0,J1,J2,reduceCtorEq,J9,JA,JB,JC,JD,JE,JF,JG]) | ((with_reducible (first | apply Ok.br | apply Ok.gd | apply Ok.ld)) <;> (intro g; (try simp only [ZGS] at g); try (exfalso; omega)))))
            exact Turn.ret ⟨rfl, rfl, ⟨_, _, rfl⟩, .inr ⟨rfl, by rw [hno'.out]; rfl, rfl⟩⟩
          · (repeat' (first | (simp -implicitDefEqProofs (maxSteps := 1000000) (disch := first | assumption | omega | (simp only [ZDI]; omega)) only [*,lenV,G47,Za,Zb,Zc,Zd,Ze,Zf,Zg,Zh,Zi,Zj,Zk,Zl,Zm,Zn,Zo,Ja,Jb,Jc,J3,Jd,Je,J4,J5,Jf,Jg,Jh,Ji,Jj,Jk,J6,Jl,Jm,wr,Jn,J7,J8,Jo,Jp,Jq,Jr,Js,Jt,Ju,Jv,Jw,Jx,Jy,Jz,J0,J1,J2,reduceCtorEq,J9,JA,JB,JC,JD,JE,JF,JG]) | ((with_reducible (first | apply Ok.br | apply Ok.gd | apply Ok.ld)) <;> (intro g; (try simp only [ZGS] at g); try (exfalso; omega)))))
            exact Turn.next (l.length - (i + 1)) (by omega) ⟨rfl, i + 1, _, _, by omega, by omega, rfl, rfl, rfl, by rw [hno'.out]; rfl⟩
        · obtain ⟨⟨x1, x2⟩, hx⟩ : ∃ x, l[i - 1]? = some x := ⟨_, List.getElem?_eq_getElem (by omega)⟩
          have hf2 := hfull (i - 1) _ hx
          dsimp only at hf2
          have hp : prvB (prv l i) (y1, y2) = ltR (x1, x2) (y1, y2) := by unfold prv; rw [if_neg h0, hx]; rfl
          rw [hp] at hno
          have hl1 := less_at (x1, x2) (y1, y2) h
          dsimp only at hl1
          generalize ltR (x1, x2) (y1, y2) = lb at hl1 hno
          have e1 : (i : Int) - 1 = ((i - 1 : Nat) : Int) := by omega
          have g0 : (0 : Int) < (i : Int) := by omega
          have g2 : 0 <= ((i - 1 : Nat) : Int) /\ ((i - 1 : Nat) : Int) < (l.length : Int) := by omega
          have hno' := Hid.mk hno
          clear hno hy hfull hp hx
          cases rb
          · (repeat' (first | (simp -implicitDefEqProofs (maxSteps := 1000000) (disch := first | assumption | omega | (simp only [ZDI]; omega)) only [*,lenV,G47,Za,Zb,Zc,Zd,Ze,Zf,Zg,Zh,Zi,Zj,Zk,Zl,Zm,Zn,Zo,Ja,Jb,Jc,J3,Jd,Je,J4,J5,Jf,Jg,Jh,Ji,Jj,Jk,J6,Jl,Jm,wr,Jn,J7,J8,Jo,Jp,Jq,Jr,Js,Jt,Ju,Jv,Jw,Jx,Jy,Jz,J0,J1,J2,reduceCtorEq,J9,JA,JB,JC,JD,JE,JF,JG]) | ((with_reducible (first | apply Ok.br | apply Ok.gd | apply Ok.ld)) <;> (intro g; (try simp only [ZGS] at g); try (exfalso; omega)))))
            exact Turn.ret ⟨rfl, rfl, ⟨_, _, rfl⟩, .inr ⟨rfl, by rw [hno'.out]; rfl, rfl⟩⟩
          · cases lb
            · (repeat' (first | (simp -implicitDefEqProofs (maxSteps := 1000000) (disch := first | assumption | omega | (simp only [ZDI]; omega)) only [*,lenV,G47,Za,Zb,Zc,Zd,Ze,Zf,Zg,Zh,Zi,Zj,Zk,Zl,Zm,Zn,Zo,Ja,Jb,Jc,J3,Jd,Je,J4,J5,Jf,Jg,Jh,Ji,Jj,Jk,J6,Jl,Jm,wr,Jn,J7,J8,Jo,Jp,Jq,Jr,Js,Jt,Ju,Jv,Jw,Jx,Jy,Jz,J0,J1,J2,reduceCtorEq,J9,JA,JB,JC,JD,JE,JF,JG]) | ((with_reducible (first | apply Ok.br | apply Ok.gd | apply Ok.ld)) <;> (intro g; (try simp only [ZGS] at g); try (exfalso; omega)))))
              exact Turn.ret ⟨rfl, rfl, ⟨_, _, rfl⟩, .inr ⟨rfl, by rw [hno'.out]; rfl, rfl⟩⟩
            · (repeat' (first | (simp -implicitDefEqProofs (maxSteps := 1000000) (disch := first | assumption | omega | (simp only [ZDI]; omega)) only [*,lenV,G47,Za,Zb,Zc,Zd,Ze,Zf,Zg,Zh,Zi,Zj,Zk,Zl,Zm,Zn,Zo,Ja,Jb,Jc,J3,Jd,Je,J4,J5,Jf,Jg,Jh,Ji,Jj,Jk,J6,Jl,Jm,wr,Jn,J7,J8,Jo,Jp,Jq,Jr,Js,Jt,Ju,Jv,Jw,Jx,Jy,Jz,J0,J1,J2,reduceCtorEq,J9,JA,JB,JC,JD,JE,JF,JG]) | ((with_reducible (first | apply Ok.br | apply Ok.gd | apply Ok.ld)) <;> (intro g; (try simp only [ZGS] at g); try (exfalso; omega)))))
              exact Turn.next (l.length - (i + 1)) (by omega) ⟨rfl, i + 1, _, _, by omega, by omega, rfl, rfl, rfl, by rw [hno'.out]; rfl⟩
    · have hlt' : ¬ (i : Int) < (l.length : Int) := by omega
      rw [risB_end (by omega)] at hno
      have hno' := Hid.mk hno
      clear hno
      (repeat' (first | (simp -implicitDefEqProofs (maxSteps := 1000000) (disch := first | assumption | omega | (simp only [ZDI]; omega)) only [*,lenV,G47,Za,Zb,Zc,Zd,Ze,Zf,Zg,Zh,Zi,Zj,Zk,Zl,Zm,Zn,Zo,Ja,Jb,Jc,J3,Jd,Je,J4,J5,Jf,Jg,Jh,Ji,Jj,Jk,J6,Jl,Jm,wr,Jn,J7,J8,Jo,Jp,Jq,Jr,Js,Jt,Ju,Jv,Jw,Jx,Jy,Jz,J0,J1,J2,reduceCtorEq,J9,JA,JB,JC,JD,JE,JF,JG]) | ((with_reducible (first | apply Ok.br | apply Ok.gd | apply Ok.ld)) <;> (intro g; (try simp only [ZGS] at g); try (exfalso; omega)))))
      exact Turn.exit ⟨rfl, rfl, ⟨_, _, rfl⟩, .inl ⟨rfl, hno'.out⟩⟩
  · intro y ⟨e', l', H'⟩ hW ⟨k3, ⟨w0, q0, k2⟩, hy⟩
    dsimp only at hW k2 k3 hy
    subst l' H'
    rw [hW.spread]
    clear hW
    rcases hy with ⟨rfl, hm⟩ | ⟨rfl, hm, h4⟩
    · simp only [spread_t,spread_f,spread_n,Nat.zero_add,Nat.reduceAdd]
      have hm' := Hid.mk hm
      clear hm
      (repeat' (first | (simp -implicitDefEqProofs (maxSteps := 1000000) (disch := first | assumption | omega | (simp only [ZDI]; omega)) only [*,lenV,G47,Za,Zb,Zc,Zd,Ze,Zf,Zg,Zh,Zi,Zj,Zk,Zl,Zm,Zn,Zo,Ja,Jb,Jc,J3,Jd,Je,J4,J5,Jf,Jg,Jh,Ji,Jj,Jk,J6,Jl,Jm,wr,Jn,J7,J8,Jo,Jp,Jq,Jr,Js,Jt,Ju,Jv,Jw,Jx,Jy,Jz,J0,J1,J2,reduceCtorEq,J9,JA,JB,JC,JD,JE,JF,JG]) | ((with_reducible (first | apply Ok.br | apply Ok.gd | apply Ok.ld)) <;> (intro g; (try simp only [ZGS] at g); try (exfalso; omega)))))
      exact hQ'.out _ (by rw [hm'.out, Bool.true_and])
    · simp only [spread_t,spread_f,spread_n,Nat.zero_add,Nat.reduceAdd,h4]
      have hm' := Hid.mk hm
      clear hm
      (repeat' (first | (simp -implicitDefEqProofs (maxSteps := 1000000) (disch := first | assumption | omega | (simp only [ZDI]; omega)) only [*,lenV,G47,Za,Zb,Zc,Zd,Ze,Zf,Zg,Zh,Zi,Zj,Zk,Zl,Zm,Zn,Zo,Ja,Jb,Jc,J3,Jd,Je,J4,J5,Jf,Jg,Jh,Ji,Jj,Jk,J6,Jl,Jm,wr,Jn,J7,J8,Jo,Jp,Jq,Jr,Js,Jt,Ju,Jv,Jw,Jx,Jy,Jz,J0,J1,J2,reduceCtorEq,J9,JA,JB,JC,JD,JE,JF,JG]) | ((with_reducible (first | apply Ok.br | apply Ok.gd | apply Ok.ld)) <;> (intro g; (try simp only [ZGS] at g); try (exfalso; omega)))))
      exact hQ'.out _ (by rw [hm'.out, Bool.false_and])
def zIn (x : In) : In := ⟨x.l, x.i, x.bn, x.bd, 0, 0, 0, false, 0, 0, 0, 0, 0, .sl .nil 0 0 0, [], 0, .sl .nil 0 0 0, []⟩
theorem InAt.zero (h : Heap) (x : In) : InAt h (zIn x) := ⟨⟨.nil, 0, 0, rfl, Nat.zero_le _, trivial, .inl rfl⟩, ⟨.nil, 0, 0, rfl, Nat.le_refl _, by decide, .inl rfl⟩⟩
def nonB (x : In) : Bool := decide (x.vn = 0 /\ x.vd = 0 /\ x.sq = 0) && !x.sm && (decide (smC x.o x.c x.q x.f x.t 0 0 0 0 0) && decide (x.dl = [])) && decide (x.pl = [])
theorem nonB_eq {x : In} (h : x.st = 0) : smB x (zIn x) = nonB x := by
  unfold smB nonB
  have e : smN x (zIn x) ↔ x.vn = 0 /\ x.vd = 0 /\ x.sq = 0 := by
    unfold smN zIn
    simp [h]
  have e2 : decide (smN x (zIn x)) = decide (x.vn = 0 /\ x.vd = 0 /\ x.sq = 0) := decide_eq_decide.2 e
  rw [e2]
  have e3 : (x.sm == (zIn x).sm) = !x.sm := by simp [zIn]
  rw [e3]
  rfl
theorem unknown_at {h : Heap} {x : In} (hx : InAt h x) : D X (.fn 45 []) [.agg (inV x)] h = some (.bool (smB x (zIn x)), h) := by
  refine Ok.eq ?_
  have h1 := same_at hx (InAt.zero h x)
  generalize smB x (zIn x) = b at h1 ⊢
  simp only [inV,zIn] at h1 ⊢
  clear hx
  (refine Ok.body body45 pin45 ?_; simp only [c45,Try.f45,Option.getD_some,nslot45,List.append_nil,List.map,List.replicate,List.length_cons,List.length_nil,Nat.reduceAdd,Nat.reduceSub,List.cons_append,List.nil_append])
  (repeat' (first | (simp -implicitDefEqProofs (maxSteps := 1000000) (disch := first | assumption | omega | (simp only [ZDI]; omega)) only [*,G45,Za,Zb,Zc,Zd,Ze,Zf,Zg,Zh,Zi,Zj,Zk,Zl,Zm,Zn,Zo,Ja,Jb,Jc,J3,Jd,Je,J4,J5,Jf,Jg,Jh,Ji,Jj,Jk,J6,Jl,Jm,wr,Jn,J7,J8,Jo,Jp,Jq,Jr,Js,Jt,Ju,Jv,Jw,Jx,Jy,Jz,J0,J1,J2,reduceCtorEq,J9,JA,JB,JC,JD,JE,JF,JG]) | ((with_reducible (first | apply Ok.br | apply Ok.gd | apply Ok.ld)) <;> (intro g; (try simp only [ZGS] at g); try (exfalso; omega)))))
def stP (x : In) : Prop := (0 <= x.st /\ x.st <= 3) /\ (0 <= x.sq /\ x.sq <= 1099511627776)
instance (x : In) : Decidable (stP x) := by unfold stP; infer_instance
def hdB (x : In) : Bool := decide (refP x.l x.i) && decide (balP x.bn x.bd) && decide (balP x.vn x.vd) && !decide (lsP x.bn x.bd x.vn x.vd) && decide (stP x)
def bodB (x : In) : Bool := decide (mayP x.o x.c x.q x.f x.t x.dl) && (risB none x.pl && decide ((x.pl.length : Int) <= 4096))
def mayB (x : In) : Bool := hdB x && cond (decide (x.st = 0)) (nonB x) (bodB x)
set_option maxHeartbeats 4000000 in
theorem mayI_at {h : Heap} {x : In} (hx : InAt h x) : D X (.fn 14 []) [.agg (inV x)] h = some (.bool (mayB x), h) := by
  refine Ok.eq ?_
  have h1 := may_at (o := x.o) (c := x.c) (q := x.q) (f := x.f) (t := x.t) hx.1
  have h2 := rising_at hx.2
  have h3 := unknown_at hx
  obtain ⟨a, cap, z, e1⟩ := hx.1.sl
  obtain ⟨a3, cap3, z3, e3⟩ := hx.2.sl
  have hu : x.st = 0 -> smB x (zIn x) = nonB x := nonB_eq
  simp only [inV,e1] at h1
  simp only [inV,e3] at h2
  simp only [inV,e1,e3] at h3
  unfold mayB bodB hdB
  simp only [inV,e1,e3]
  clear e1 e3 hx
  have p1 := isRef_at x.l x.i h
  have p2 := isBallot_at x.bn x.bd h
  have p3 := isBallot_at x.vn x.vd h
  have p4 := lessBallot_at x.bn x.bd x.vn x.vd h
  generalize decide (refP x.l x.i) = r1 at p1 ⊢
  generalize decide (balP x.bn x.bd) = r2 at p2 ⊢
  generalize decide (balP x.vn x.vd) = r3 at p3 ⊢
  generalize decide (lsP x.bn x.bd x.vn x.vd) = r4 at p4 ⊢
  obtain ⟨rs, ers, b1, b0⟩ := truth (stP x)
  rw [ers]
  clear ers
  generalize decide (mayP x.o x.c x.q x.f x.t x.dl) = mb at h1 ⊢
  generalize (risB none x.pl && decide ((x.pl.length : Int) <= 4096)) = rb at h2 ⊢
  by_cases hst : x.st = 0
  · rw [decide_eq_true hst, <- hu hst]
    rw [hst] at h3
    clear hu
    generalize smB x (zIn x) = nb at h3 ⊢
    (refine Ok.body body14 pin14 ?_; simp only [c14,Try.f14,Option.getD_some,nslot14,List.append_nil,List.map,List.replicate,List.length_cons,List.length_nil,Nat.reduceAdd,Nat.reduceSub,List.cons_append,List.nil_append])
    (repeat' (first | (simp -implicitDefEqProofs (maxSteps := 1000000) (disch := first | assumption | omega | (simp only [ZDI]; omega)) only [*,G14,Za,Zb,Zc,Zd,Ze,Zf,Zg,Zh,Zi,Zj,Zk,Zl,Zm,Zn,Zo,Ja,Jb,Jc,J3,Jd,Je,J4,J5,Jf,Jg,Jh,Ji,Jj,Jk,J6,Jl,Jm,wr,Jn,J7,J8,Jo,Jp,Jq,Jr,Js,Jt,Ju,Jv,Jw,Jx,Jy,Jz,J0,J1,J2,reduceCtorEq,J9,JA,JB,JC,JD,JE,JF,JG]) | ((with_reducible (first | apply Ok.br | apply Ok.gd | apply Ok.ld)) <;> (intro g; (try simp only [ZGS] at g); try (exfalso; omega)))))
    all_goals first
      | (simp [*]; done)
      | (rw [b1.out (by unfold stP; omega)]; simp [*]; done)
      | (rw [b0.out (by unfold stP; omega)]; simp; done)
  · rw [decide_eq_false hst]
    clear hu h3
    generalize nonB x = nb
    (refine Ok.body body14 pin14 ?_; simp only [c14,Try.f14,Option.getD_some,nslot14,List.append_nil,List.map,List.replicate,List.length_cons,List.length_nil,Nat.reduceAdd,Nat.reduceSub,List.cons_append,List.nil_append])
    (repeat' (first | (simp -implicitDefEqProofs (maxSteps := 1000000) (disch := first | assumption | omega | (simp only [ZDI]; omega)) only [*,G14,Za,Zb,Zc,Zd,Ze,Zf,Zg,Zh,Zi,Zj,Zk,Zl,Zm,Zn,Zo,Ja,Jb,Jc,J3,Jd,Je,J4,J5,Jf,Jg,Jh,Ji,Jj,Jk,J6,Jl,Jm,wr,Jn,J7,J8,Jo,Jp,Jq,Jr,Js,Jt,Ju,Jv,Jw,Jx,Jy,Jz,J0,J1,J2,reduceCtorEq,J9,JA,JB,JC,JD,JE,JF,JG]) | ((with_reducible (first | apply Ok.br | apply Ok.gd | apply Ok.ld)) <;> (intro g; (try simp only [ZGS] at g); try (exfalso; omega)))))
    all_goals first
      | (simp [*]; done)
      | (rw [b1.out (by unfold stP; omega)]; simp [*]; done)
      | (rw [b0.out (by unfold stP; omega)]; simp; done)
set_option maxHeartbeats 8000000 in
theorem rMayI_at {h : Heap} {x : In} (hx : InAt h x) : D X (.fn 15 []) [.agg (inV x)] h = some (.bool (mayB x), h) := by
  refine Ok.eq ?_
  refine Ok.aim fun Q hQ => ?_
  have hQ' := Hid.mk hQ
  clear hQ
  have h1 := rMay_at (o := x.o) (c := x.c) (q := x.q) (f := x.f) (t := x.t) hx.1
  have h3 := rSameCmd_at (o := x.o) (c := x.c) (q := x.q) (f := x.f) (t := x.t) (o' := 0) (c' := 0) (q' := 0) (f' := 0) (t' := 0) (m := []) (w := .sl .nil 0 0 0) hx.1 ⟨_, _, _, rfl, by decide, trivial, .inl rfl⟩
  obtain ⟨a, cap, z, e1⟩ := hx.1.sl
  obtain ⟨a3, cap3, z3, e3, hc1, hc2, h2⟩ := hx.2
  have h2' := Hid.mk h2
  simp only [e1] at h1 h3
  unfold mayB bodB hdB nonB at hQ'
  simp only [inV,e1,e3]
  clear e1 e3 hx h2
  have hpl : decide (x.pl = []) = decide ((x.pl.length : Int) = 0) := decide_eq_decide.2 ⟨fun h => by rw [h]; rfl, fun h => List.length_eq_zero_iff.1 (by omega)⟩
  rw [hpl] at hQ'
  clear hpl
  have p1 := mayRef_at x.l x.i h
  have p2 := mayBallot_at x.bn x.bd h
  have p3 := mayBallot_at x.vn x.vd h
  have p4 := rLess_at x.bn x.bd x.vn x.vd h
  generalize decide (refP x.l x.i) = r1 at p1 hQ'
  generalize decide (balP x.bn x.bd) = r2 at p2 hQ'
  generalize decide (balP x.vn x.vd) = r3 at p3 hQ'
  generalize decide (lsP x.bn x.bd x.vn x.vd) = r4 at p4 hQ'
  obtain ⟨rs, ers, b1, b0⟩ := truth (stP x)
  rw [ers] at hQ'
  clear ers
  generalize decide (mayP x.o x.c x.q x.f x.t x.dl) = mb at h1 hQ'
  generalize (decide (smC x.o x.c x.q x.f x.t 0 0 0 0 0) && decide (x.dl = [])) = cb at h3 hQ'
  by_cases hst : x.st = 0
  · rw [decide_eq_true hst] at hQ'
    obtain ⟨v0, ev0, v1, v2⟩ := truth (x.vn = 0 /\ x.vd = 0 /\ x.sq = 0)
    rw [ev0] at hQ'
    clear ev0
    generalize x.sm = sm at hQ' ⊢
    (refine Ok.body body15 pin15 ?_; simp only [c15,Try.f15,Option.getD_some,nslot15,List.append_nil,List.map,List.replicate,List.length_cons,List.length_nil,Nat.reduceAdd,Nat.reduceSub,List.cons_append,List.nil_append])
    (repeat' (first | (simp -implicitDefEqProofs (maxSteps := 1000000) (disch := first | assumption | omega | (simp only [ZDI]; omega)) only [*,lenV,G15,Za,Zb,Zc,Zd,Ze,Zf,Zg,Zh,Zi,Zj,Zk,Zl,Zm,Zn,Zo,Ja,Jb,Jc,J3,Jd,Je,J4,J5,Jf,Jg,Jh,Ji,Jj,Jk,J6,Jl,Jm,wr,Jn,J7,J8,Jo,Jp,Jq,Jr,Js,Jt,Ju,Jv,Jw,Jx,Jy,Jz,J0,J1,J2,reduceCtorEq,J9,JA,JB,JC,JD,JE,JF,JG]) | ((with_reducible (first | apply Ok.br | apply Ok.gd | apply Ok.ld)) <;> (intro g; (try simp only [ZGS] at g); try (exfalso; omega)))))
    all_goals (refine hQ'.out _ ?_)
    all_goals (try simp only [Bool.and_eq_true,Bool.and_eq_false_iff,decide_eq_true_eq,decide_eq_false_iff_not] at *)
    all_goals first
      | (simp [*]; done)
      | (rw [b0.out (by unfold stP; omega)]; simp; done)
      | (rw [v2.out (by omega)]; simp; done)
      | (rw [b1.out (by unfold stP; omega), v1.out (by omega)]; simp [*]; done)
  · rw [decide_eq_false hst] at hQ'
    (refine Ok.body body15 pin15 ?_; simp only [c15,Try.f15,Option.getD_some,nslot15,List.append_nil,List.map,List.replicate,List.length_cons,List.length_nil,Nat.reduceAdd,Nat.reduceSub,List.cons_append,List.nil_append])
    (repeat' (first | (simp -implicitDefEqProofs (maxSteps := 1000000) (disch := first | assumption | omega | (simp only [ZDI]; omega)) only [*,lenV,G15,Za,Zb,Zc,Zd,Ze,Zf,Zg,Zh,Zi,Zj,Zk,Zl,Zm,Zn,Zo,Ja,Jb,Jc,J3,Jd,Je,J4,J5,Jf,Jg,Jh,Ji,Jj,Jk,J6,Jl,Jm,wr,Jn,J7,J8,Jo,Jp,Jq,Jr,Js,Jt,Ju,Jv,Jw,Jx,Jy,Jz,J0,J1,J2,reduceCtorEq,J9,JA,JB,JC,JD,JE,JF,JG]) | ((with_reducible (first | apply Ok.br | apply Ok.gd | apply Ok.ld)) <;> (intro g; (try simp only [ZGS] at g); try (exfalso; omega)))))
    all_goals (try (refine hQ'.out _ ?_))
    all_goals try first
      | (simp [*]; done)
      | (rw [b0.out (by unfold stP; omega)]; simp; done)
    have hrs := b1.out (by unfold stP; omega)
    have hfin : ∀ (b : Bool), risB none x.pl = b -> Q (V.bool (b && (mb && decide ((x.pl.length : Int) <= 4096))), h) := fun b hb => by
      refine hQ'.out _ ?_
      simp only [hrs,hb, *]
      cases b <;> cases mb <;> simp
    have hfin' := Hid.mk hfin
    clear hfin hQ' hrs b1 b0 p1 p2 p3 p4 h3
    generalize x.pl = l at hfin' hc1 h2' ⊢
    refine Ok.loop [BF, BF, BT, BT, BT, BF, BF, BF, BF, BF, BF, BF, BF, BF, BF, BF, BF, BF, BF, BF, BF, BF, BF, BF, BF, BF, BF, BF, BF, BF, BF, BF, BF, BF, BF, BF, BF, BF, BF, BF, BF, BF, BF, BF, BF, BF, BF, BF, BF, BF, BF, BF, BF, BF, BF, BF, BF, BF, BF, BF, BF, BF, BF, BF, BF, BF, BF, BF, BF, BF, BF, BF, BF, BF, BF, BF, BF, BF, BF, BF, BT, BT, BT, BT, BT, BT, BT, BT, BT, BT, BT, BT, BT, BT, BT, BT, BT, BT, BT, BT, BT, BT, BT, BT, BF, BF, BF, BF, BF, BF, BF, BF, BF] (fun n s2 => ∃ (i w0 : Nat) (q0 : List V), n = l.length - i /\ i <= l.length /\ tv s2.e 80 = .v (.int .i64 i) /\ s2.l = [(1, [.int .i64 x.l, .int .i64 x.i, .int .i64 x.bn, .int .i64 x.bd, .int .i64 x.vn, .int .i64 x.vd, .int .i64 x.st, .bool x.sm, .int .i64 x.o, .int .i64 x.c, .int .i64 x.q, .int .i64 x.f, .int .i64 x.t, .sl a x.dl.length cap z, .int .i64 x.sq, .sl a3 l.length cap3 z3]), (w0, q0)] /\ s2.h = h /\ risB none l = risB (prv l i) (l.drop i))
      (fun y s2 => s2.h = h /\ (∃ (w0 : Nat) (q0 : List V), s2.l = [(1, [.int .i64 x.l, .int .i64 x.i, .int .i64 x.bn, .int .i64 x.bd, .int .i64 x.vn, .int .i64 x.vd, .int .i64 x.st, .bool x.sm, .int .i64 x.o, .int .i64 x.c, .int .i64 x.q, .int .i64 x.f, .int .i64 x.t, .sl a x.dl.length cap z, .int .i64 x.sq, .sl a3 l.length cap3 z3]), (w0, q0)]) /\ ((y = .exit 0 /\ risB none l = true) \/ (y = .ret /\ risB none l = false /\ tv s2.e 2 = .v (.bool false)))) (l.length - 0) ⟨0, 0, [], rfl, Nat.zero_le _, rfl, rfl, rfl, rfl⟩ ?_ ?_
    · intro n ⟨e', l', H'⟩ hW ⟨i, w0, q0, hm, hi, h9, k2, k3, hno⟩
      dsimp only at hW h9 k2 k3
      subst l' H'
      rw [hW.spread]
      simp only [spread_t,spread_f,spread_n,Nat.zero_add,Nat.reduceAdd,h9]
      clear hW hfin'
      by_cases hlt : i < l.length
      · have hlt' : (i : Int) < (l.length : Int) := by omega
        have g1 : 0 <= (i : Int) /\ (i : Int) < (l.length : Int) := by omega
        rcases h2'.out with rfl | ⟨b, g, o, rw, full, rfl, hb, hfull, ho⟩
        · simp at hlt
        · obtain ⟨⟨y1, y2⟩, hy⟩ : ∃ y, l[i]? = some y := ⟨_, List.getElem?_eq_getElem hlt⟩
          have hf := hfull i _ hy
          rw [risB_step hy] at hno
          dsimp only at hf hno
          have hr1 := mayRef_at y1 y2 h
          generalize decide (refP y1 y2) = rb at hr1 hno
          by_cases h0 : i = 0
          · have hp : prvB (prv l i) (y1, y2) = true := by unfold prv; rw [if_pos h0]; rfl
            rw [hp] at hno
            have g0 : ¬ (0 : Int) < (i : Int) := by omega
            have hno' := Hid.mk hno
            clear hno hy hfull hp h0
            cases rb
            · (repeat' (first | (simp -implicitDefEqProofs (maxSteps := 1000000) (disch := first | assumption | omega | (simp only [ZDI]; omega)) only [*,lenV,G15,Za,Zb,Zc,Zd,Ze,Zf,Zg,Zh,Zi,Zj,Zk,Zl,Zm,Zn,Zo,Ja,Jb,Jc,J3,Jd,Je,J4,J5,Jf,Jg,Jh,Ji,Jj,Jk,J6,Jl,Jm,wr,Jn,J7,J8,Jo,Jp,Jq,Jr,Js,Jt,Ju,Jv,Jw,Jx,Jy,Jz,J0,J1,J2,reduceCtorEq,J9,JA,JB,JC,JD,JE,JF,JG]) | ((with_reducible (first | apply Ok.br | apply Ok.gd | apply Ok.ld)) <;> (intro g; (try simp only [ZGS] at g); try (exfalso; omega)))))
              exact Turn.ret ⟨rfl, rfl, ⟨_, _, rfl⟩, .inr ⟨rfl, by rw [hno'.out]; rfl, rfl⟩⟩
            · (repeat' (first | (simp -implicitDefEqProofs (maxSteps := 1000000) (disch := first | assumption | omega | (simp only [ZDI]; omega)) only [*,lenV,G15,Za,Zb,Zc,Zd,Ze,Zf,Zg,Zh,Zi,Zj,Zk,Zl,Zm,Zn,Zo,Ja,Jb,Jc,J3,Jd,Je,J4,J5,Jf,Jg,Jh,Ji,Jj,Jk,J6,Jl,Jm,wr,Jn,J7,J8,Jo,Jp,Jq,Jr,Js,Jt,Ju,Jv,Jw,Jx,Jy,Jz,J0,J1,J2,reduceCtorEq,J9,JA,JB,JC,JD,JE,JF,JG]) | ((with_reducible (first | apply Ok.br | apply Ok.gd | apply Ok.ld)) <;> (intro g; (try simp only [ZGS] at g); try (exfalso; omega)))))
              exact Turn.next (l.length - (i + 1)) (by omega) ⟨rfl, i + 1, _, _, by omega, by omega, rfl, rfl, rfl, by rw [hno'.out]; rfl⟩
          · obtain ⟨⟨x1, x2⟩, hx⟩ : ∃ x, l[i - 1]? = some x := ⟨_, List.getElem?_eq_getElem (by omega)⟩
            have hf2 := hfull (i - 1) _ hx
            dsimp only at hf2
            have hp : prvB (prv l i) (y1, y2) = ltR (x1, x2) (y1, y2) := by unfold prv; rw [if_neg h0, hx]; rfl
            rw [hp] at hno
            have hl1 := less06_at (x1, x2) (y1, y2) h
            dsimp only at hl1
            generalize ltR (x1, x2) (y1, y2) = lb at hl1 hno
            have e1 : (i : Int) - 1 = ((i - 1 : Nat) : Int) := by omega
            have g0 : (0 : Int) < (i : Int) := by omega
            have g2 : 0 <= ((i - 1 : Nat) : Int) /\ ((i - 1 : Nat) : Int) < (l.length : Int) := by omega
            have hno' := Hid.mk hno
            clear hno hy hfull hp hx
            cases rb
            · (repeat' (first | (simp -implicitDefEqProofs (maxSteps := 1000000) (disch := first | assumption | omega | (simp only [ZDI]; omega)) only [*,lenV,G15,Za,Zb,Zc,Zd,Ze,Zf,Zg,Zh,Zi,Zj,Zk,Zl,Zm,Zn,Zo,Ja,Jb,Jc,J3,Jd,Je,J4,J5,Jf,Jg,Jh,Ji,Jj,Jk,J6,Jl,Jm,wr,Jn,J7,J8,Jo,Jp,Jq,Jr,Js,Jt,Ju,Jv,Jw,Jx,Jy,Jz,J0,J1,J2,reduceCtorEq,J9,JA,JB,JC,JD,JE,JF,JG]) | ((with_reducible (first | apply Ok.br | apply Ok.gd | apply Ok.ld)) <;> (intro g; (try simp only [ZGS] at g); try (exfalso; omega)))))
              exact Turn.ret ⟨rfl, rfl, ⟨_, _, rfl⟩, .inr ⟨rfl, by rw [hno'.out]; rfl, rfl⟩⟩
            · cases lb
              · (repeat' (first | (simp -implicitDefEqProofs (maxSteps := 1000000) (disch := first | assumption | omega | (simp only [ZDI]; omega)) only [*,lenV,G15,Za,Zb,Zc,Zd,Ze,Zf,Zg,Zh,Zi,Zj,Zk,Zl,Zm,Zn,Zo,Ja,Jb,Jc,J3,Jd,Je,J4,J5,Jf,Jg,Jh,Ji,Jj,Jk,J6,Jl,Jm,wr,Jn,J7,J8,Jo,Jp,Jq,Jr,Js,Jt,Ju,Jv,Jw,Jx,Jy,Jz,J0,J1,J2,reduceCtorEq,J9,JA,JB,JC,JD,JE,JF,JG]) | ((with_reducible (first | apply Ok.br | apply Ok.gd | apply Ok.ld)) <;> (intro g; (try simp only [ZGS] at g); try (exfalso; omega)))))
                exact Turn.ret ⟨rfl, rfl, ⟨_, _, rfl⟩, .inr ⟨rfl, by rw [hno'.out]; rfl, rfl⟩⟩
              · (repeat' (first | (simp -implicitDefEqProofs (maxSteps := 1000000) (disch := first | assumption | omega | (simp only [ZDI]; omega)) only [*,lenV,G15,Za,Zb,Zc,Zd,Ze,Zf,Zg,Zh,Zi,Zj,Zk,Zl,Zm,Zn,Zo,Ja,Jb,Jc,J3,Jd,Je,J4,J5,Jf,Jg,Jh,Ji,Jj,Jk,J6,Jl,Jm,wr,Jn,J7,J8,Jo,Jp,Jq,Jr,Js,Jt,Ju,Jv,Jw,Jx,Jy,Jz,J0,J1,J2,reduceCtorEq,J9,JA,JB,JC,JD,JE,JF,JG]) | ((with_reducible (first | apply Ok.br | apply Ok.gd | apply Ok.ld)) <;> (intro g; (try simp only [ZGS] at g); try (exfalso; omega)))))
                exact Turn.next (l.length - (i + 1)) (by omega) ⟨rfl, i + 1, _, _, by omega, by omega, rfl, rfl, rfl, by rw [hno'.out]; rfl⟩
      · have hlt' : ¬ (i : Int) < (l.length : Int) := by omega
        rw [risB_end (by omega)] at hno
        have hno' := Hid.mk hno
        clear hno
        (repeat' (first | (simp -implicitDefEqProofs (maxSteps := 1000000) (disch := first | assumption | omega | (simp only [ZDI]; omega)) only [*,lenV,G15,Za,Zb,Zc,Zd,Ze,Zf,Zg,Zh,Zi,Zj,Zk,Zl,Zm,Zn,Zo,Ja,Jb,Jc,J3,Jd,Je,J4,J5,Jf,Jg,Jh,Ji,Jj,Jk,J6,Jl,Jm,wr,Jn,J7,J8,Jo,Jp,Jq,Jr,Js,Jt,Ju,Jv,Jw,Jx,Jy,Jz,J0,J1,J2,reduceCtorEq,J9,JA,JB,JC,JD,JE,JF,JG]) | ((with_reducible (first | apply Ok.br | apply Ok.gd | apply Ok.ld)) <;> (intro g; (try simp only [ZGS] at g); try (exfalso; omega)))))
        exact Turn.exit ⟨rfl, rfl, ⟨_, _, rfl⟩, .inl ⟨rfl, hno'.out⟩⟩
    · intro y ⟨e', l', H'⟩ hW ⟨k3, ⟨w0, q0, k2⟩, hy⟩
      dsimp only at hW k2 k3 hy
      subst l' H'
      rw [hW.spread]
      clear hW
      rcases hy with ⟨rfl, hm⟩ | ⟨rfl, hm, h4⟩
      · simp only [spread_t,spread_f,spread_n,Nat.zero_add,Nat.reduceAdd]
        have hm' := Hid.mk hm
        clear hm
        cases mb
        · (repeat' (first | (simp -implicitDefEqProofs (maxSteps := 1000000) (disch := first | assumption | omega | (simp only [ZDI]; omega)) only [*,lenV,G15,Za,Zb,Zc,Zd,Ze,Zf,Zg,Zh,Zi,Zj,Zk,Zl,Zm,Zn,Zo,Ja,Jb,Jc,J3,Jd,Je,J4,J5,Jf,Jg,Jh,Ji,Jj,Jk,J6,Jl,Jm,wr,Jn,J7,J8,Jo,Jp,Jq,Jr,Js,Jt,Ju,Jv,Jw,Jx,Jy,Jz,J0,J1,J2,reduceCtorEq,J9,JA,JB,JC,JD,JE,JF,JG]) | ((with_reducible (first | apply Ok.br | apply Ok.gd | apply Ok.ld)) <;> (intro g; (try simp only [ZGS] at g); try (exfalso; omega)))))
          have := hfin'.out _ hm'.out
          simpa using this
        · (repeat' (first | (simp -implicitDefEqProofs (maxSteps := 1000000) (disch := first | assumption | omega | (simp only [ZDI]; omega)) only [*,lenV,G15,Za,Zb,Zc,Zd,Ze,Zf,Zg,Zh,Zi,Zj,Zk,Zl,Zm,Zn,Zo,Ja,Jb,Jc,J3,Jd,Je,J4,J5,Jf,Jg,Jh,Ji,Jj,Jk,J6,Jl,Jm,wr,Jn,J7,J8,Jo,Jp,Jq,Jr,Js,Jt,Ju,Jv,Jw,Jx,Jy,Jz,J0,J1,J2,reduceCtorEq,J9,JA,JB,JC,JD,JE,JF,JG]) | ((with_reducible (first | apply Ok.br | apply Ok.gd | apply Ok.ld)) <;> (intro g; (try simp only [ZGS] at g); try (exfalso; omega)))))
          have := hfin'.out _ hm'.out
          simpa using this
      · simp only [spread_t,spread_f,spread_n,Nat.zero_add,Nat.reduceAdd,h4]
        have hm' := Hid.mk hm
        clear hm
        (repeat' (first | (simp -implicitDefEqProofs (maxSteps := 1000000) (disch := first | assumption | omega | (simp only [ZDI]; omega)) only [*,lenV,G15,Za,Zb,Zc,Zd,Ze,Zf,Zg,Zh,Zi,Zj,Zk,Zl,Zm,Zn,Zo,Ja,Jb,Jc,J3,Jd,Je,J4,J5,Jf,Jg,Jh,Ji,Jj,Jk,J6,Jl,Jm,wr,Jn,J7,J8,Jo,Jp,Jq,Jr,Js,Jt,Ju,Jv,Jw,Jx,Jy,Jz,J0,J1,J2,reduceCtorEq,J9,JA,JB,JC,JD,JE,JF,JG]) | ((with_reducible (first | apply Ok.br | apply Ok.gd | apply Ok.ld)) <;> (intro g; (try simp only [ZGS] at g); try (exfalso; omega)))))
        have := hfin'.out _ hm'.out
        simpa using this
end Go.Ev
set_option maxRecDepth 100000
namespace Go.Ev
open Go.Proofs
def In.key (x : In) : RP := (x.l, x.i)
def In.core (x : In) : In := { x with dv := .nilp, pv := .nilp }
theorem smB_iff {x y : In} : smB x y = true ↔ x.core = y.core := by
  obtain ⟨l, i, bn, bd, vn, vd, st, sm, o, c, q, f, t, dv, dl, sq, pv, pl⟩ := x
  obtain ⟨l', i', bn', bd', vn', vd', st', sm', o', c', q', f', t', dv', dl', sq', pv', pl'⟩ := y
  unfold smB
  rw [Bool.and_eq_true, Bool.and_eq_true, Bool.and_eq_true, Bool.and_eq_true, decide_eq_true_eq, decide_eq_true_eq, decide_eq_true_eq, decide_eq_true_eq, beq_iff_eq]
  unfold smN smC In.core
  simp only [In.mk.injEq]
  constructor
  · rintro ⟨⟨⟨⟨h1, h2, h3, h4, h5, h6, h7, h8⟩, h9⟩, ⟨g1, g2, g3, g4, g5⟩, g6⟩, g7⟩
    exact ⟨h1, h2, h3, h4, h5, h6, h7, h9, g1, g2, g3, g4, g5, trivial, g6, h8, trivial, g7⟩
  · rintro ⟨h1, h2, h3, h4, h5, h6, h7, h9, g1, g2, g3, g4, g5, _, g6, h8, _, g7⟩
    exact ⟨⟨⟨⟨h1, h2, h3, h4, h5, h6, h7, h8⟩, h9⟩, ⟨g1, g2, g3, g4, g5⟩, g6⟩, g7⟩
def KeepC (h h' : Heap) : Prop := h.length <= h'.length /\ ∀ b g p, hcells h b g = some p -> hcells h' b g = some p
theorem KeepC.refl (h : Heap) : KeepC h h := ⟨Nat.le_refl _, fun _ _ _ e => e⟩
theorem KeepC.trans {a b c : Heap} (h : KeepC a b) (k : KeepC b c) : KeepC a c := ⟨Nat.le_trans h.1 k.1, fun i g p e => k.2 i g p (h.2 i g p e)⟩
theorem KeepC.app (h l : Heap) : KeepC h (h ++ l) := ⟨by simp, fun b g p e => by rw [hcells_app (hcells_lt e)]; exact e⟩
theorem StrsAt.keep {h h' : Heap} {v : V} {l : List ByteArray} (hs : StrsAt h v l) (k : KeepC h h') : StrsAt h' v l := by
  obtain ⟨a, cap, z, h1, h2, h3, h4⟩ := hs
  refine ⟨a, cap, z, h1, h2, h3, h4.imp id ?_⟩
  rintro ⟨b, g, o, rw, full, e1, e2, e3⟩
  exact ⟨b, g, o, rw, full, e1, k.2 _ _ _ e2, e3⟩
theorem RowAt.keep {h h' : Heap} {v : V} {l : List RP} (hs : RowAt h v l) (k : KeepC h h') : RowAt h' v l := by
  obtain ⟨a, cap, z, h1, h2, h3, h4⟩ := hs
  refine ⟨a, cap, z, h1, h2, h3, h4.imp id ?_⟩
  rintro ⟨b, g, o, rw, full, e1, e2, e3⟩
  exact ⟨b, g, o, rw, full, e1, k.2 _ _ _ e2, e3⟩
theorem InAt.keep {h h' : Heap} {x : In} (hs : InAt h x) (k : KeepC h h') : InAt h' x := ⟨hs.1.keep k, hs.2.keep k⟩
theorem KeepC.setMap {h : Heap} {m : Nat} {ex ex' : Bool} {es es' : List ME} {c c' : Nat} (hm : h[m]? = some (.map ex es c)) : KeepC h (h.set m (.map ex' es' c')) := by
  refine ⟨by simp, fun b g p e => ?_⟩
  have hne : m ≠ b := by
    rintro rfl
    unfold hcells at e
    rw [hm] at e; cases e
  rw [hcells_set_ne (Ne.symm hne)]
  exact e
structure TabAt (h : Heap) (b m : Nat) (L : List In) : Prop where
  cell : hcells h b 0 = some (true, [.map m])
  map : ∃ ex es c, h[m]? = some (.map ex es c) /\ es.map unborn = L.map fun x => (elt x.key, V.agg (inV x))
  at_ : ∀ x ∈ L, InAt h x /\ x.dl.length <= 5000 /\ x.pl.length <= 5000
  keys : (L.map In.key).Nodup
theorem TabAt.keysM {h : Heap} {L : List In} {es : List ME} (he : es.map unborn = L.map fun x => (elt x.key, V.agg (inV x))) : keysM es = some (L.map In.key) := by
  refine keysM_of ?_
  have := congrArg (List.map Prod.fst) he
  rw [List.map_map, List.map_map] at this
  rw [List.map_map]
  exact this
theorem TabAt.len {L : List In} {es : List ME} (he : es.map unborn = L.map fun x => (elt x.key, V.agg (inV x))) : es.length = L.length := by
  have := congrArg List.length he
  simpa using this
theorem TabAt.keep {h h' : Heap} {b m : Nat} {L : List In} (ht : TabAt h b m L) (k : KeepC h h') (hm : h'[m]? = h[m]?) : TabAt h' b m L := by
  obtain ⟨h1, ⟨ex, es, c, h2, h3⟩, h4, h5⟩ := ht
  exact ⟨k.2 _ _ _ h1, ⟨ex, es, c, by rw [hm]; exact h2, h3⟩, fun x hx => ⟨(h4 x hx).1.keep k, (h4 x hx).2⟩, h5⟩
theorem ownSl_strs {h : Heap} {v : V} {l : List ByteArray} (hs : StrsAt h v l) (hl : l.length <= 5000) (nx : Nat) : ∃ v' bl, ownSl h nx 1 v = some (v', bl) /\ ∀ h', KeepC h h' -> h.length <= nx -> (∀ k, k < bl.length -> h'[nx + k]? = bl[k]?) -> StrsAt h' v' l := by
  obtain ⟨a, cap, z, rfl, h1, _, h2⟩ := hs
  rcases h2 with rfl | ⟨b, g, o, rw, full, rfl, hc, hf⟩
  · cases a with
    | nil => exact ⟨_, _, rfl, fun h' _ _ _ => ⟨_, _, _, rfl, by decide, trivial, .inl rfl⟩⟩
    | any => exact ⟨_, _, rfl, fun h' _ _ _ => ⟨_, _, _, rfl, by decide, trivial, .inl rfl⟩⟩
    | «at» b g o => exact ⟨_, _, rfl, fun h' _ _ _ => ⟨_, _, _, rfl, by decide, trivial, .inl rfl⟩⟩
  · by_cases h0 : l.length = 0
    · obtain rfl : l = [] := List.length_eq_zero_iff.1 h0
      exact ⟨_, _, rfl, fun h' _ _ _ => ⟨_, _, _, rfl, by decide, trivial, .inl rfl⟩⟩
    · have hlen : o + l.length * 1 <= full.length := by
        have := hf (l.length - 1) _ (List.getElem?_eq_getElem (by omega))
        have := (List.getElem?_eq_some_iff.1 this).1
        omega
      refine ⟨_, _, ownSl_at (by omega) hl hc hlen, fun h' k hn hb => ⟨_, _, _, rfl, h1, trivial, .inr ⟨nx + 1, 0, 0, true, (full.drop o).take (l.length * 1), rfl, ?_, fun i s hi => ?_⟩⟩⟩
      · have := hb 1 (by simp)
        unfold hcells
        rw [this]
        exact grd_t rfl _
      · have hi2 := (List.getElem?_eq_some_iff.1 hi).1
        rw [Nat.zero_add, List.getElem?_take, if_pos (by omega), List.getElem?_drop]
        exact hf i s hi
theorem ownSl_row {h : Heap} {v : V} {l : List RP} (hs : RowAt h v l) (hl : l.length <= 5000) (nx : Nat) : ∃ v' bl, ownSl h nx 2 v = some (v', bl) /\ ∀ h', KeepC h h' -> h.length <= nx -> (∀ k, k < bl.length -> h'[nx + k]? = bl[k]?) -> RowAt h' v' l := by
  obtain ⟨a, cap, z, rfl, h1, h1', h2⟩ := hs
  rcases h2 with rfl | ⟨b, g, o, rw, full, rfl, hc, hf, ho⟩
  · cases a with
    | nil => exact ⟨_, _, rfl, fun h' _ _ _ => ⟨_, _, _, rfl, by decide, by decide, .inl rfl⟩⟩
    | any => exact ⟨_, _, rfl, fun h' _ _ _ => ⟨_, _, _, rfl, by decide, by decide, .inl rfl⟩⟩
    | «at» b g o => exact ⟨_, _, rfl, fun h' _ _ _ => ⟨_, _, _, rfl, by decide, by decide, .inl rfl⟩⟩
  · by_cases h0 : l.length = 0
    · obtain rfl : l = [] := List.length_eq_zero_iff.1 h0
      exact ⟨_, _, rfl, fun h' _ _ _ => ⟨_, _, _, rfl, by decide, by decide, .inl rfl⟩⟩
    · refine ⟨_, _, ownSl_at (by omega) hl hc ho, fun h' k hn hb => ⟨_, _, _, rfl, Nat.le_refl _, by omega, .inr ⟨nx + 1, 0, 0, true, (full.drop o).take (l.length * 2), rfl, ?_, fun i s hi => ?_, ?_⟩⟩⟩
      · have := hb 1 (by simp)
        unfold hcells
        rw [this]
        exact grd_t rfl _
      · have hi2 := (List.getElem?_eq_some_iff.1 hi).1
        rw [Nat.zero_add, List.drop_take, List.take_take, List.drop_drop, Nat.min_eq_left (by omega)]
        exact hf i s hi
      · rw [List.length_take, List.length_drop]; omega
theorem own_in {h : Heap} {x : In} (hx : InAt h x) (h1 : x.dl.length <= 5000) (h2 : x.pl.length <= 5000) (nx : Nat) : ∃ (x' : In) (bl : List Blk), ownG h nx (.agg (inV x)) = some (.agg (inV x'), bl) /\ x'.core = x.core /\
    ∀ h', KeepC h h' -> h.length <= nx -> (∀ k, k < bl.length -> h'[nx + k]? = bl[k]?) -> InAt h' x' := by
  obtain ⟨dv', bd, e1, k1⟩ := ownSl_strs hx.1 h1 nx
  obtain ⟨pv', bp, e2, k2⟩ := ownSl_row hx.2 h2 (nx + bd.length)
  refine ⟨{ x with dv := dv', pv := pv' }, bd ++ bp, ownG_mk rfl rfl rfl e1 e2, rfl, fun h' k hn hb => ⟨k1 h' k hn fun j hj => ?_, k2 h' k (by omega) fun j hj => ?_⟩⟩
  · rw [hb j (by rw [List.length_append]; omega), List.getElem?_append_left hj]
  · rw [Nat.add_assoc, hb (bd.length + j) (by rw [List.length_append]; omega), List.getElem?_append_right (by omega)]
    congr 1; omega
theorem owns_in {h : Heap} : ∀ (L : List In) (es : List ME) (nx : Nat), es.map unborn = (L.map fun x => (elt x.key, V.agg (inV x))) -> (∀ x ∈ L, InAt h x /\ x.dl.length <= 5000 /\ x.pl.length <= 5000) -> h.length <= nx ->
    ∃ (L' : List In) (ec : List ME) (bc : List Blk), ownsG h nx es = some (ec, bc) /\ ec.map unborn = (L'.map fun x => (elt x.key, V.agg (inV x))) /\ L'.map In.core = L.map In.core /\
      ∀ h', KeepC h h' -> (∀ k, k < bc.length -> h'[nx + k]? = bc[k]?) -> ∀ x ∈ L', InAt h' x /\ x.dl.length <= 5000 /\ x.pl.length <= 5000
  | [], es, nx, he, _, _ => by
    have : es = [] := by simpa using he
    subst this
    exact ⟨[], [], [], rfl, rfl, rfl, fun h' _ _ x hx => by cases hx⟩
  | x :: L, es, nx, he, hx, hn => by
    cases es with
    | nil => simp at he
    | cons e es =>
      simp only [List.map_cons,List.cons.injEq] at he
      obtain ⟨hx1, hx2, hx3⟩ := hx x (by simp)
      obtain ⟨x', bl, h1, h2, h3⟩ := own_in hx1 hx2 hx3 nx
      obtain ⟨L', ec, bc, h4, h5, h6, h7⟩ := owns_in L es (nx + bl.length) he.2 (fun y hy => hx y (by simp [hy])) (by omega)
      have he1 : e.1 = elt x.key /\ e.2.1 = .agg (inV x) := by
        have := he.1
        simp only [unborn,Prod.mk.injEq] at this
        exact this
      have hkey : x'.key = x.key := by
        have := congrArg In.key h2
        exact this
      refine ⟨x' :: L', (e.1, .agg (inV x'), 0) :: ec, bl ++ bc, ?_, ?_, by rw [List.map_cons, List.map_cons, h2, h6], fun h' k hb y hy => ?_⟩
      · unfold ownsG
        rw [he1.2, h1]
        show bnd (ownsG h (nx + bl.length) es) _ = _
        rw [h4]; rfl
      · rw [List.map_cons, List.map_cons, h5, hkey]
        congr 1
        show (e.1, V.agg (inV x')) = _
        rw [he1.1]
      · rcases List.mem_cons.1 hy with rfl | hy
        · have hl1 : y.dl = x.dl := by have := congrArg In.dl h2; exact this
          have hl2 : y.pl = x.pl := by have := congrArg In.pl h2; exact this
          refine ⟨h3 h' k hn fun j hj => ?_, by rw [hl1]; exact hx2, by rw [hl2]; exact hx3⟩
          rw [hb j (by rw [List.length_append]; omega), List.getElem?_append_left hj]
        · refine h7 h' k (fun j hj => ?_) y hy
          rw [Nat.add_assoc, hb (bl.length + j) (by rw [List.length_append]; omega), List.getElem?_append_right (by omega)]
          congr 1; omega
theorem TabAt.mapAt {h : Heap} {b m : Nat} {L : List In} (ht : TabAt h b m L) : ∃ es, mapAtV h b 0 0 = some (m, es) /\ es.map unborn = (L.map fun x => (elt x.key, V.agg (inV x))) := by
  obtain ⟨h1, ⟨ex, es, c, h2, h3⟩, _, _⟩ := ht
  refine ⟨es, ?_, h3⟩
  unfold mapAtV
  rw [h1]
  simp only [bnd,List.getElem?_cons_zero,h2]
theorem clone_at {h : Heap} {b m : Nat} {L : List In} (ht : TabAt h b m L) : ∃ (l : List Blk) (L' : List In), D X (.fn 35 []) [.ptr b 0 0] h = some (.ptr (h.length + 1) 0 0, h ++ l) /\ TabAt (h ++ l) (h.length + 1) h.length L' /\ L'.map In.core = L.map In.core := by
  obtain ⟨es, h1, h2⟩ := ht.mapAt
  obtain ⟨L', ec, bc, h3, h4, h5, h6⟩ := owns_in (h := h) L es (h.length + 2) h2 ht.at_ (by omega)
  have hr : cloneG [.ptr b 0 0] h = some (.ptr (h.length + 1) 0 0, h ++ .map false ec ec.length :: .cells 0 true [.map h.length] :: bc) := by
    simp only [cloneG,h1,bnd,TabAt.keysM (h := h) h2,h3]
  refine ⟨.map false ec ec.length :: .cells 0 true [.map h.length] :: bc, L', D_sum (g := cloneG) pin35 hr, ⟨?_, ⟨false, ec, ec.length, ?_, h4⟩, h6 _ (KeepC.app _ _) (fun k hk => ?_), ?_⟩, h5⟩
  · rw [hcells_ge (by omega), Nat.add_sub_cancel_left]; rfl
  · rw [List.getElem?_append_right (Nat.le_refl _), Nat.sub_self]; rfl
  · rw [List.getElem?_append_right (by omega), show h.length + 2 + k - h.length = k + 1 + 1 by omega]; rfl
  · have : L'.map In.key = L.map In.key := by
      have := congrArg (List.map In.key) h5
      rw [List.map_map, List.map_map] at this
      exact this
    rw [this]; exact ht.keys
theorem clone_nil (h : Heap) : D X (.fn 35 []) [.nilp] h = some (.nilp, h) := D_sum (g := cloneG) pin35 rfl
theorem refs_nil (h : Heap) : D X (.fn 54 []) [.nilp] h = some (.sl .nil 0 0 0, h) := D_sum (g := refsG) pin54 rfl
theorem addsR_nodup_len {l : List RP} (h : l.Nodup) : (addsR [] l).length = l.length := by
  have h1 : (addsR [] l).Nodup := (addsR_strict l [] List.Pairwise.nil).imp fun {a b} hab e => by rw [e, ltR_swo.irrefl] at hab; cases hab
  have m : ∀ x, x ∈ addsR [] l ↔ x ∈ l := fun x => by rw [addsR_mem]; simp
  have a := nodup_le h1 fun x hx => (m x).1 hx
  have b := nodup_le h fun x hx => (m x).2 hx
  omega
theorem refs_at {h : Heap} {b m : Nat} {L : List In} (ht : TabAt h b m L) (hl : L.length <= 5000) : ∃ (v : V) (l : List Blk), D X (.fn 54 []) [.ptr b 0 0] h = some (v, h ++ l) /\ RowAt (h ++ l) v (addsR [] (L.map In.key)) := by
  obtain ⟨es, h1, h2⟩ := ht.mapAt
  have hk := TabAt.keysM (h := h) h2
  have hlen := addsR_nodup_len ht.keys
  by_cases h0 : L.map In.key = []
  · refine ⟨.sl .nil 0 0 0, [], D_sum (g := refsG) pin54 ?_, ?_⟩
    · simp only [refsG,h1,bnd,hk,h0,List.append_nil]
      rfl
    · rw [h0]
      exact ⟨_, _, _, rfl, Nat.le_refl _, by decide, .inl rfl⟩
  · refine ⟨.sl (.at h.length 0 0) (L.map In.key).length (L.map In.key).length 2, [.cells 0 true (flL (addsR [] (L.map In.key)))], D_sum (g := refsG) pin54 ?_, ?_⟩
    · simp only [refsG,h1,bnd,hk]
      have hl2 : (L.map In.key).length <= 5000 := by simpa using hl
      rw [grd_t hl2]
    · have := row_head (g := h ++ [.cells 0 true (flL (addsR [] (L.map In.key)))]) (b := h.length) (q := 0) (cap := (L.map In.key).length) (z := 2) (p := addsR [] (L.map In.key)) (rest := []) (rw := true) (by rw [List.append_nil]; exact hcells_new) (by omega) (by simp; omega)
      rw [hlen] at this
      exact this
end Go.Ev
set_option maxRecDepth 100000
namespace Go.Ev
open Go.Ev renaming exPure -> Ja, ofValue -> Jb, cellsV -> Jc, load -> Jd, store -> Je, binOp -> Jf, intOp -> Jg, rdV -> Jh, vsame -> Ji, vsames -> Jj, makeSliceV -> Jk, resV -> Jl, isCell -> Jm, nilCheckV -> Jn, allV -> Jo, builtinV -> Jp, lenV -> Jq, indexAddrV -> Jr, unOp -> Js, minmaxV -> Jt, minmax -> Ju, sliceV -> Jv, asInt -> Jw, appendV -> Jx, copyV -> Jy, clearV -> Jz, convV -> J0, sliceCells -> J1, shift -> J2
open Bool renaming true -> BT, false -> BF
open Nat renaming reduceEqDiff -> J3, reduceLT -> J4, reduceAdd -> J5, reduceBEq -> J6, reduceSub -> J7, reduceMul -> J8, reduceLeDiff -> JG
open Int renaming reduceLT -> J9, reduceLE -> JA, reduceAdd -> JB, reduceSub -> JC, reduceNeg -> JD, reduceToNat -> JE, reduceEq -> JF
open Go.Proofs
theorem cloneS_at {h : Heap} {d d' : V} {bl : List Blk} (hr : ownSl h h.length 1 d = some (d', bl)) : D X (.fn 83 []) [d] h = some (d', h ++ bl) := by
  refine Ok.eq ?_
  rcases ownSl_cases hr with ⟨n, c, y, rfl, rfl, rfl⟩ | ⟨a, c, y, rfl, ha, rfl, rfl⟩ | ⟨b, g, o, n, c, y, rw, full, rfl, h0, h1, hc, hf, rfl, rfl⟩
  · (refine Ok.body body83 pin83 ?_; simp only [c83,Try.f83,Option.getD_some,nslot83,List.append_nil,List.map,List.replicate,List.length_cons,List.length_nil,Nat.reduceAdd,Nat.reduceSub,List.cons_append,List.nil_append])
    (repeat' (first | (simp -implicitDefEqProofs (maxSteps := 1000000) (disch := first | assumption | omega | (simp only [ZDI]; omega)) only [*,List.append_nil,G83,Za,Zb,Zc,Zd,Ze,Zf,Zg,Zh,Zi,Zj,Zk,Zl,Zm,Zn,Zo,Ja,Jb,Jc,J3,Jd,Je,J4,J5,Jf,Jg,Jh,Ji,Jj,Jk,J6,Jl,Jm,wr,Jn,J7,J8,Jo,Jp,Jq,Jr,Js,Jt,Ju,Jv,Jw,Jx,Jy,Jz,J0,J1,J2,reduceCtorEq,J9,JA,JB,JC,JD,JE,JF,JG]) | ((with_reducible (first | apply Ok.br | apply Ok.gd | apply Ok.ld)) <;> (intro g; (try simp only [ZGS] at g); try (exfalso; omega)))))
  · cases a with
    | nil => exact absurd rfl ha
    | any =>
      (refine Ok.body body83 pin83 ?_; simp only [c83,Try.f83,Option.getD_some,nslot83,List.append_nil,List.map,List.replicate,List.length_cons,List.length_nil,Nat.reduceAdd,Nat.reduceSub,List.cons_append,List.nil_append])
      (repeat' (first | (simp -implicitDefEqProofs (maxSteps := 1000000) (disch := first | assumption | omega | (simp only [ZDI]; omega)) only [*,appendV,sliceCells,G83,Za,Zb,Zc,Zd,Ze,Zf,Zg,Zh,Zi,Zj,Zk,Zl,Zm,Zn,Zo,Ja,Jb,Jc,J3,Jd,Je,J4,J5,Jf,Jg,Jh,Ji,Jj,Jk,J6,Jl,Jm,wr,Jn,J7,J8,Jo,Jp,Jq,Jr,Js,Jt,Ju,Jv,Jw,Jx,Jy,Jz,J0,J1,J2,reduceCtorEq,J9,JA,JB,JC,JD,JE,JF,JG]) | ((with_reducible (first | apply Ok.br | apply Ok.gd | apply Ok.ld)) <;> (intro g; (try simp only [ZGS] at g); try (exfalso; omega)))))
    | «at» b g o =>
      (refine Ok.body body83 pin83 ?_; simp only [c83,Try.f83,Option.getD_some,nslot83,List.append_nil,List.map,List.replicate,List.length_cons,List.length_nil,Nat.reduceAdd,Nat.reduceSub,List.cons_append,List.nil_append])
      (repeat' (first | (simp -implicitDefEqProofs (maxSteps := 1000000) (disch := first | assumption | omega | (simp only [ZDI]; omega)) only [*,appendV,sliceCells,G83,Za,Zb,Zc,Zd,Ze,Zf,Zg,Zh,Zi,Zj,Zk,Zl,Zm,Zn,Zo,Ja,Jb,Jc,J3,Jd,Je,J4,J5,Jf,Jg,Jh,Ji,Jj,Jk,J6,Jl,Jm,wr,Jn,J7,J8,Jo,Jp,Jq,Jr,Js,Jt,Ju,Jv,Jw,Jx,Jy,Jz,J0,J1,J2,reduceCtorEq,J9,JA,JB,JC,JD,JE,JF,JG]) | ((with_reducible (first | apply Ok.br | apply Ok.gd | apply Ok.ld)) <;> (intro g; (try simp only [ZGS] at g); try (exfalso; omega)))))
  · have hb := hcells_lt hc
    have hn0 : ¬ n = 0 := by omega
    have hg : n * 16 <= 35184372088832 /\ n <= 35184372088832 := by omega
    have hg1 : ¬ n <= 0 := by omega
    (refine Ok.body body83 pin83 ?_; simp only [c83,Try.f83,Option.getD_some,nslot83,List.append_nil,List.map,List.replicate,List.length_cons,List.length_nil,Nat.reduceAdd,Nat.reduceSub,List.cons_append,List.nil_append])
    (repeat' (first | (simp -implicitDefEqProofs (maxSteps := 1000000) (disch := first | assumption | omega | (simp only [ZDI]; omega)) only [*,appendV,sliceCells,newBlk,List.append_assoc,Nat.zero_add,Nat.mul_one,G83,Za,Zb,Zc,Zd,Ze,Zf,Zg,Zh,Zi,Zj,Zk,Zl,Zm,Zn,Zo,Ja,Jb,Jc,J3,Jd,Je,J4,J5,Jf,Jg,Jh,Ji,Jj,Jk,J6,Jl,Jm,wr,Jn,J7,J8,Jo,Jp,Jq,Jr,Js,Jt,Ju,Jv,Jw,Jx,Jy,Jz,J0,J1,J2,reduceCtorEq,J9,JA,JB,JC,JD,JE,JF,JG]) | ((with_reducible (first | apply Ok.br | apply Ok.gd | apply Ok.ld)) <;> (intro g; (try simp only [ZGS] at g); try (exfalso; omega)))))
theorem cloneR_at {h : Heap} {d d' : V} {bl : List Blk} (hr : ownSl h h.length 2 d = some (d', bl)) : D X (.fn 84 []) [d] h = some (d', h ++ bl) := by
  refine Ok.eq ?_
  rcases ownSl_cases hr with ⟨n, c, y, rfl, rfl, rfl⟩ | ⟨a, c, y, rfl, ha, rfl, rfl⟩ | ⟨b, g, o, n, c, y, rw, full, rfl, h0, h1, hc, hf, rfl, rfl⟩
  · (refine Ok.body body84 pin84 ?_; simp only [c84,Try.f84,Option.getD_some,nslot84,List.append_nil,List.map,List.replicate,List.length_cons,List.length_nil,Nat.reduceAdd,Nat.reduceSub,List.cons_append,List.nil_append])
    (repeat' (first | (simp -implicitDefEqProofs (maxSteps := 1000000) (disch := first | assumption | omega | (simp only [ZDI]; omega)) only [*,List.append_nil,G84,Za,Zb,Zc,Zd,Ze,Zf,Zg,Zh,Zi,Zj,Zk,Zl,Zm,Zn,Zo,Ja,Jb,Jc,J3,Jd,Je,J4,J5,Jf,Jg,Jh,Ji,Jj,Jk,J6,Jl,Jm,wr,Jn,J7,J8,Jo,Jp,Jq,Jr,Js,Jt,Ju,Jv,Jw,Jx,Jy,Jz,J0,J1,J2,reduceCtorEq,J9,JA,JB,JC,JD,JE,JF,JG]) | ((with_reducible (first | apply Ok.br | apply Ok.gd | apply Ok.ld)) <;> (intro g; (try simp only [ZGS] at g); try (exfalso; omega)))))
  · cases a with
    | nil => exact absurd rfl ha
    | any =>
      (refine Ok.body body84 pin84 ?_; simp only [c84,Try.f84,Option.getD_some,nslot84,List.append_nil,List.map,List.replicate,List.length_cons,List.length_nil,Nat.reduceAdd,Nat.reduceSub,List.cons_append,List.nil_append])
      (repeat' (first | (simp -implicitDefEqProofs (maxSteps := 1000000) (disch := first | assumption | omega | (simp only [ZDI]; omega)) only [*,appendV,sliceCells,G84,Za,Zb,Zc,Zd,Ze,Zf,Zg,Zh,Zi,Zj,Zk,Zl,Zm,Zn,Zo,Ja,Jb,Jc,J3,Jd,Je,J4,J5,Jf,Jg,Jh,Ji,Jj,Jk,J6,Jl,Jm,wr,Jn,J7,J8,Jo,Jp,Jq,Jr,Js,Jt,Ju,Jv,Jw,Jx,Jy,Jz,J0,J1,J2,reduceCtorEq,J9,JA,JB,JC,JD,JE,JF,JG]) | ((with_reducible (first | apply Ok.br | apply Ok.gd | apply Ok.ld)) <;> (intro g; (try simp only [ZGS] at g); try (exfalso; omega)))))
    | «at» b g o =>
      (refine Ok.body body84 pin84 ?_; simp only [c84,Try.f84,Option.getD_some,nslot84,List.append_nil,List.map,List.replicate,List.length_cons,List.length_nil,Nat.reduceAdd,Nat.reduceSub,List.cons_append,List.nil_append])
      (repeat' (first | (simp -implicitDefEqProofs (maxSteps := 1000000) (disch := first | assumption | omega | (simp only [ZDI]; omega)) only [*,appendV,sliceCells,G84,Za,Zb,Zc,Zd,Ze,Zf,Zg,Zh,Zi,Zj,Zk,Zl,Zm,Zn,Zo,Ja,Jb,Jc,J3,Jd,Je,J4,J5,Jf,Jg,Jh,Ji,Jj,Jk,J6,Jl,Jm,wr,Jn,J7,J8,Jo,Jp,Jq,Jr,Js,Jt,Ju,Jv,Jw,Jx,Jy,Jz,J0,J1,J2,reduceCtorEq,J9,JA,JB,JC,JD,JE,JF,JG]) | ((with_reducible (first | apply Ok.br | apply Ok.gd | apply Ok.ld)) <;> (intro g; (try simp only [ZGS] at g); try (exfalso; omega)))))
  · have hb := hcells_lt hc
    have hn0 : ¬ n = 0 := by omega
    have hg : n * 16 <= 35184372088832 /\ n <= 35184372088832 := by omega
    have hg1 : ¬ n <= 0 := by omega
    (refine Ok.body body84 pin84 ?_; simp only [c84,Try.f84,Option.getD_some,nslot84,List.append_nil,List.map,List.replicate,List.length_cons,List.length_nil,Nat.reduceAdd,Nat.reduceSub,List.cons_append,List.nil_append])
    (repeat' (first | (simp -implicitDefEqProofs (maxSteps := 1000000) (disch := first | assumption | omega | (simp only [ZDI]; omega)) only [*,appendV,sliceCells,newBlk,List.append_assoc,Nat.zero_add,Nat.mul_one,G84,Za,Zb,Zc,Zd,Ze,Zf,Zg,Zh,Zi,Zj,Zk,Zl,Zm,Zn,Zo,Ja,Jb,Jc,J3,Jd,Je,J4,J5,Jf,Jg,Jh,Ji,Jj,Jk,J6,Jl,Jm,wr,Jn,J7,J8,Jo,Jp,Jq,Jr,Js,Jt,Ju,Jv,Jw,Jx,Jy,Jz,J0,J1,J2,reduceCtorEq,J9,JA,JB,JC,JD,JE,JF,JG]) | ((with_reducible (first | apply Ok.br | apply Ok.gd | apply Ok.ld)) <;> (intro g; (try simp only [ZGS] at g); try (exfalso; omega)))))
theorem own_at {h : Heap} {c0 c1 c2 c3 c4 c5 c6 c7 c8 c9 c10 c11 c12 c13 c14 c15 v' : V} {bl : List Blk} (hr : ownG h h.length (.agg [c0, c1, c2, c3, c4, c5, c6, c7, c8, c9, c10, c11, c12, c13, c14, c15]) = some (v', bl)) : D X (.fn 56 []) [.agg [c0, c1, c2, c3, c4, c5, c6, c7, c8, c9, c10, c11, c12, c13, c14, c15]] h = some (v', h ++ bl) := by
  refine Ok.eq ?_
  obtain ⟨cs, d, p, d', p', bd, bp, he, _, h1, h2, h3, h4, rfl, rfl⟩ := ownG_cases hr
  cases he
  cases h1
  cases h2
  have g1 := cloneS_at h3
  have hl : (h ++ bd).length = h.length + bd.length := List.length_append
  have h5 : ownSl (h ++ bd) (h ++ bd).length 2 c15 = some (p', bp) := by
    rw [hl]
    exact ownSl_ext h4 fun b g p hp => by rw [hcells_app (hcells_lt hp)]; exact hp
  have g2 := cloneR_at h5
  obtain ⟨sa, sn, sc, sz, hd'⟩ : ∃ a n c z, d' = .sl a n c z := by
    rcases ownSl_cases h3 with ⟨n, c, y, _, rfl, _⟩ | ⟨a, c, y, _, _, rfl, _⟩ | ⟨b, g, o, n, c, y, rw, full, _, _, _, _, _, rfl, _⟩ <;> exact ⟨_, _, _, _, rfl⟩
  obtain ⟨ra, rn, rc, rz, hp'⟩ : ∃ a n c z, p' = .sl a n c z := by
    rcases ownSl_cases h4 with ⟨n, c, y, _, rfl, _⟩ | ⟨a, c, y, _, _, rfl, _⟩ | ⟨b, g, o, n, c, y, rw, full, _, _, _, _, _, rfl, _⟩ <;> exact ⟨_, _, _, _, rfl⟩
  subst hd' hp'
  clear h3 h4 h5 hr hl
  (refine Ok.body body56 pin56 ?_; simp only [c56,Try.f56,Option.getD_some,nslot56,List.append_nil,List.map,List.replicate,List.length_cons,List.length_nil,Nat.reduceAdd,Nat.reduceSub,List.cons_append,List.nil_append])
  (repeat' (first | (simp -implicitDefEqProofs (maxSteps := 1000000) (disch := first | assumption | omega | (simp only [ZDI]; omega)) only [*,List.append_assoc,G56,Za,Zb,Zc,Zd,Ze,Zf,Zg,Zh,Zi,Zj,Zk,Zl,Zm,Zn,Zo,Ja,Jb,Jc,J3,Jd,Je,J4,J5,Jf,Jg,Jh,Ji,Jj,Jk,J6,Jl,Jm,wr,Jn,J7,J8,Jo,Jp,Jq,Jr,Js,Jt,Ju,Jv,Jw,Jx,Jy,Jz,J0,J1,J2,reduceCtorEq,J9,JA,JB,JC,JD,JE,JF,JG]) | ((with_reducible (first | apply Ok.br | apply Ok.gd | apply Ok.ld)) <;> (intro g; (try simp only [ZGS] at g); try (exfalso; omega)))))
theorem newT_at (h : Heap) : D X (.fn 20 []) [] h = some (.ptr (h.length + 1) 0 0, h ++ [.map true [] 0, .cells 0 true [.map h.length]]) := by
  refine Ok.eq ?_
  (refine Ok.body body20 pin20 ?_; simp only [c20,Try.f20,Option.getD_some,nslot20,List.append_nil,List.map,List.replicate,List.length_cons,List.length_nil,Nat.reduceAdd,Nat.reduceSub,List.cons_append,List.nil_append])
  (repeat' (first | (simp -implicitDefEqProofs (maxSteps := 1000000) (disch := first | assumption | omega | (simp only [ZDI]; omega)) only [*,exOp_makeMap,makeMapV,List.append_assoc,G20,Za,Zb,Zc,Zd,Ze,Zf,Zg,Zh,Zi,Zj,Zk,Zl,Zm,Zn,Zo,Ja,Jb,Jc,J3,Jd,Je,J4,J5,Jf,Jg,Jh,Ji,Jj,Jk,J6,Jl,Jm,wr,Jn,J7,J8,Jo,Jp,Jq,Jr,Js,Jt,Ju,Jv,Jw,Jx,Jy,Jz,J0,J1,J2,reduceCtorEq,J9,JA,JB,JC,JD,JE,JF,JG]) | ((with_reducible (first | apply Ok.br | apply Ok.gd | apply Ok.ld)) <;> (intro g; (try simp only [ZGS] at g); try (exfalso; omega)))))
theorem veq_ref (x y : RP) : veq X.ty 6 23 (elt x) (elt y) = some (decide (x = y)) := by
  obtain ⟨a, b⟩ := x
  obtain ⟨c, d⟩ := y
  have h : veq X.ty 6 23 (elt (a, b)) (elt (c, d)) = bnd (some (decide (a = c))) fun r => cnd r (bnd (some (decide (b = d))) fun r => cnd r (some true) (some false)) (some false) := by
    simp only [veq_eq,elt,ty23,veqM_struct,veqF_cons,veqF_nil,rd,ty3,TI.kind,bnd_s,cnd_f,List.getElem?_cons_zero,List.getElem?_cons_succ,partK_eq,veqM_int,grd_t]
  rw [h]
  by_cases h1 : a = c <;> by_cases h2 : b = d <;> simp [h1, h2, bnd, cnd]
theorem keyTD_ref : keyTD X.ty 3 23 = true := by kernel_rfl
theorem keyOk_ref (x : RP) {es : List ME} {ks : List RP} (h : keysM es = some ks) : keyOk X.ty 23 (elt x) es = true := by
  unfold keyOk
  rw [keyTD_ref, veq_ref]
  simp only [decide_true,Bool.and_true,Bool.and_eq_true,List.all_eq_true,decide_eq_true_eq]
  refine ⟨rfl, fun e he => ?_⟩
  obtain ⟨y, hy⟩ := keysM_get h e he
  rw [keyP_elt hy, veq_ref, vsame_elt]
end Go.Ev
set_option maxRecDepth 100000
namespace Go.Ev
open Go.Proofs
def putL (L : List In) (x : In) : List In := if x.key ∈ L.map In.key then L.map (fun y => if y.key = x.key then x else y) else L ++ [x]
def mE (x : In) : V × V := (elt x.key, .agg (inV x))
theorem findM_tab {x : RP} : ∀ {es : List ME} {L : List In}, es.map unborn = L.map mE -> match L.find? (fun y => decide (x = y.key)) with
    | some y => ∃ e, findM (elt x) es = some e /\ e.2.1 = .agg (inV y)
    | none => findM (elt x) es = none
  | [], L, h => by
    have : L = [] := by simpa using h.symm
    subst this
    rfl
  | e :: es, L, h => by
    cases L with
    | nil => simp at h
    | cons y L =>
      simp only [List.map_cons,List.cons.injEq] at h
      have h1 : e.1 = elt y.key /\ e.2.1 = .agg (inV y) := by
        have := h.1
        simp only [unborn,mE,Prod.mk.injEq] at this
        exact this
      unfold findM
      rw [List.find?_cons, List.find?_cons, h1.1, vsame_elt]
      cases hd : decide (x = y.key) with
      | true => exact ⟨e, rfl, h1.2⟩
      | false => exact findM_tab h.2
theorem putM_tab {x : In} {es : List ME} {L : List In} {c : Nat} (h : es.map unborn = L.map mE) : ((putM (elt x.key) (.agg (inV x)) es c).1).map unborn = (putL L x).map mE := by
  have hf := findM_tab (x := x.key) h
  unfold putM putL
  cases hx : L.find? (fun y => decide (x.key = y.key)) with
  | none =>
    rw [hx] at hf
    dsimp only at hf
    rw [hf, if_neg]
    · show (es ++ [_]).map unborn = _
      rw [List.map_append, List.map_append, h]; rfl
    · intro hm
      obtain ⟨y, hy, he⟩ := List.mem_map.1 hm
      have := List.find?_eq_none.1 hx y hy
      simp [he] at this
  | some y =>
    rw [hx] at hf
    obtain ⟨e, he, hr⟩ := hf
    clear hr
    rw [he, if_pos]
    · show (es.map _).map unborn = _
      rw [List.map_map, List.map_map]
      clear he hx e
      induction L generalizing es with
      | nil =>
        have : es = [] := by simpa using h
        subst this; rfl
      | cons y L ih =>
        cases es with
        | nil => simp at h
        | cons e es =>
          simp only [List.map_cons,List.cons.injEq] at h ⊢
          have h1 : e.1 = elt y.key /\ e.2.1 = .agg (inV y) := by
            have := h.1
            simp only [unborn,mE,Prod.mk.injEq] at this
            exact this
          refine ⟨?_, ih h.2⟩
          show unborn (_root_.cond (vsame (elt x.key) e.1) (e.1, .agg (inV x), e.2.2) e) = mE (if y.key = x.key then x else y)
          rw [h1.1, vsame_elt]
          by_cases hk : y.key = x.key
          · rw [if_pos hk, decide_eq_true hk.symm]
            show (elt y.key, V.agg (inV x)) = (elt x.key, V.agg (inV x))
            rw [hk]
          · rw [if_neg hk, decide_eq_false (fun e => hk e.symm)]
            show (e.1, e.2.1) = _
            rw [h1.1, h1.2]; try rfl
    · exact List.mem_map.2 ⟨y, List.mem_of_find?_eq_some hx, by have := List.find?_some hx; simp at this; exact this.symm⟩
def z0 : In := ⟨0, 0, 0, 0, 0, 0, 0, false, 0, 0, 0, 0, 0, .sl .nil 0 0 0, [], 0, .sl .nil 0 0 0, []⟩
theorem InAt.z0 (h : Heap) : InAt h z0 := ⟨⟨.nil, 0, 0, rfl, Nat.zero_le _, trivial, .inl rfl⟩, ⟨.nil, 0, 0, rfl, Nat.le_refl _, by decide, .inl rfl⟩⟩
def getL (L : List In) (k : RP) : In := (L.find? fun y => decide (k = y.key)).getD z0
def isL (L : List In) (k : RP) : Bool := (L.find? fun y => decide (k = y.key)).isSome
theorem lookup_tab {h : Heap} {m : Nat} {ex : Bool} {es : List ME} {c : Nat} {L : List In} (hm : h[m]? = some (.map ex es c)) (he : es.map unborn = L.map mE) (k : RP) (ok : Bool) (e : List TV) (l : Locs) :
    lookupV X.ty 82 (.v (.map m)) (.v (.agg [.int .i64 k.1, .int .i64 k.2])) ok ⟨e, l, h⟩ = some (.v (outV ok (.agg (inV (getL L k))) (isL L k))) := by
  have hf := findM_tab (x := k) he
  have hk := TabAt.keysM (h := h) he
  have hko := keyOk_ref k hk
  unfold lookupV
  rw [ty82]
  simp only [hm]
  unfold lookupIn
  unfold elt at hko hf
  unfold getL isL
  have hz : zeroV (X.ty 31) = some (.agg (inV z0)) := by rw [ty31]; rfl
  rw [hz]
  simp only [bnd,hko]
  cases hx : L.find? (fun y => decide (k = y.key)) with
  | none =>
    rw [hx] at hf
    dsimp only at hf
    rw [hf]
    rfl
  | some y =>
    rw [hx] at hf
    obtain ⟨e, he, h2⟩ := hf
    rw [he]
    show some (TV.v (outV ok e.2.1 true)) = _
    rw [h2]
    rfl
end Go.Ev
