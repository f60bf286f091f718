/-
Texts of this claim, one behind the other.
-/
import Derived.Test.YtidlajmifppcnaaAe
import Derived.KernelRfl
set_option linter.unusedSimpArgs false
set_option linter.unusedVariables false
set_option maxRecDepth 100000
set_option maxRecDepth 100000
namespace Go.Ev.Q
open Go.Ev renaming exPure -> Ja, ofValue -> Jb, cellsV -> Jc, load -> Jd, store -> Je, binOp -> Jf, intOp -> Jg, rdV -> Jh, vsame -> Ji, vsames -> Jj, makeSliceV -> Jk, resV -> Jl, isCell -> Jm, nilCheckV -> Jn, allV -> Jo, builtinV -> Jp, lenV -> Jq, indexAddrV -> Jr, unOp -> Js, minmaxV -> Jt, minmax -> Ju, sliceV -> Jv, asInt -> Jw, appendV -> Jx, copyV -> Jy, clearV -> Jz, convV -> J0, sliceCells -> J1, shift -> J2
open Bool renaming true -> BT, false -> BF
open Nat renaming reduceEqDiff -> J3, reduceLT -> J4, reduceAdd -> J5, reduceBEq -> J6, reduceSub -> J7, reduceMul -> J8, reduceLeDiff -> JG
open Int renaming reduceLT -> J9, reduceLE -> JA, reduceAdd -> JB, reduceSub -> JC, reduceNeg -> JD, reduceToNat -> JE, reduceEq -> JF
open Go.Proofs
theorem clone_nil (h : Heap) : D X (.fn 35 []) [.nilp] h = some (.nilp, h) := by
  refine Ok.eq ?_
  (refine Ok.body body35 pin35 ?_; simp only [c35, Try.f35, Option.getD_some, nslot35, List.append_nil, List.map, List.replicate, List.length_cons, List.length_nil, Nat.reduceAdd, Nat.reduceSub, List.cons_append, List.nil_append])
  (repeat' (first | (simp -implicitDefEqProofs (maxSteps := 1000000) (disch := first | assumption | omega | (simp only [ZDI]; omega)) only [*, G35, Za, Zb, Zc, Zd, Ze, Zf, Zg, Zh, Zi, Zj, Zk, Zl, Zm, Zn, Zo, Ja, Jb, Jc, J3, Jd, Je, J4, J5, Jf, Jg, Jh, Ji, Jj, Jk, J6, Jl, Jm, wr, Jn, J7, J8, Jo, Jp, Jq, Jr, Js, Jt, Ju, Jv, Jw, Jx, Jy, Jz, J0, J1, J2, reduceCtorEq, J9, JA, JB, JC, JD, JE, JF, JG]) | ((with_reducible (first | apply Ok.br | apply Ok.gd | apply Ok.ld)) <;> (intro g; (try simp only [ZGS] at g); try (exfalso; omega)))))
set_option maxHeartbeats 4000000 in
theorem clonePin : @PinOk (goodOf X0) Try.prog 35 (.s cloneG) := by
  intro K w args h v h' hrun hm
  have hrun' : cloneG args h = some (v, h') := hrun
  clear hrun
  rcases cloneG_some hrun' with ⟨rfl, rfl, rfl⟩ | ⟨b, g, o, m, es, ec, bc, ks, rfl, hq, hks, hec, rfl, rfl⟩
  · exact fit0.specD _ _ _ _ _ (clone_nil _) K w hm
  · clear hrun'
    obtain ⟨rw0, cs, ex, c, hbc, hco, hmap⟩ := mapAtV_some hq
    dsimp only at hco hmap
    clear hq
    have hco' : o < cs.length := (List.getElem?_eq_some_iff.1 hco).1
    have hml := (List.getElem?_eq_some_iff.1 hmap).1
    have hbl := hcells_lt hbc
    have hb := body35
    simp only [c35, Try.f35, Option.getD_some] at hb
    refine mapFun_run (pre4 := [_, _, _, _]) (tail6 := [_, _, _, _, _, _]) (tm := 82) (km := 23) (em := 31) (nsl := 2) fit0 hb rfl rfl (by kernel_rfl) rfl rfl rfl rfl (by decide) rfl hm hmap ?_
    simp only [List.map, List.replicate, List.length_cons, List.length_nil, Nat.reduceAdd, Nat.reduceSub, List.cons_append, List.nil_append]
    have hmb : ¬ m = b := by
      rintro rfl
      unfold hcells at hbc
      rw [hmap] at hbc
      cases hbc
    have hm2 := Hid.mk hm
    have hm1 : ∀ x, (h ++ x)[m]? = some (.map ex es c) := fun x => by rw [List.getElem?_append_left hml]; exact hmap
    have hb1 : ∀ x, hcells (h ++ x) b g = some (rw0, cs) := fun x => by rw [hcells_app hbl]; exact hbc
    have hec2 := Hid.mk hec
    have hks2 := Hid.mk hks
    have hbc2 := Hid.mk hbc
    have hmap2 := Hid.mk hmap
    clear hb hm hec hbc hmap hbl hks
    have hnew := new_at h
    (repeat' (first | (simp -implicitDefEqProofs (maxSteps := 1000000) (disch := first | assumption | omega | (simp only [ZDI]; omega)) only [*, lenV, G35, Za, Zb, Zc, Zd, Ze, Zf, Zg, Zh, Zi, Zj, Zk, Zl, Zm, Zn, Zo, Ja, Jb, Jc, J3, Jd, Je, J4, J5, Jf, Jg, Jh, Ji, Jj, Jk, J6, Jl, Jm, wr, Jn, J7, J8, Jo, Jp, Jq, Jr, Js, Jt, Ju, Jv, Jw, Jx, Jy, Jz, J0, J1, J2, reduceCtorEq, J9, JA, JB, JC, JD, JE, JF, JG]) | ((with_reducible (first | apply Ok.br | apply Ok.gd | apply Ok.ld)) <;> (intro g; (try simp only [ZGS] at g); try (exfalso; omega)))))
    intro r es' c' s5 hs5 hp hex hkn hbn
    clear hnew hm1 hb1
    obtain ⟨ks', hks', hkp⟩ := keysM_perm hp hks2.out
    clear hkp
    have hks3 := Hid.mk hks'
    clear hks'
    have hex' := Hid.mk hex
    have hp' := Hid.mk hp
    have hkn' := Hid.mk hkn
    clear hex hp hkn hbn
    obtain ⟨h1, hh1⟩ : ∃ h1, h1 = h.set m (.map true es' c') := ⟨_, rfl⟩
    have hl1 : h1.length = h.length := by rw [hh1]; simp
    have hm1 : ∀ x, (h1 ++ x)[m]? = some (.map true es' c') := fun x => by rw [List.getElem?_append_left (by omega), hh1, List.getElem?_set_self hml]
    rw [<- hh1] at hs5
    obtain ⟨e5, l5, H5⟩ := s5
    simp only [St.mk.injEq] at hs5
    obtain ⟨he5, rfl, rfl⟩ := hs5
    have hh1' := Hid.mk hh1
    obtain ⟨N, hN⟩ : ∃ N, h.length = N := ⟨_, rfl⟩
    have hlN : h1.length = N := by omega
    have hN' := Hid.mk hN
    have hcell : ∀ b g p, hcells h b g = some p -> ∀ x, hcells (h1 ++ x) b g = some p := fun b g p hb x => by
      have hbl := hcells_lt hb
      rw [hcells_app (by omega), hh1]
      unfold hcells at hb ⊢
      have hne : m ≠ b := by
        rintro rfl
        rw [hmap2.out] at hb; cases hb
      rw [List.getElem?_set_ne hne]
      exact hb
    have hcell' := Hid.mk hcell
    clear hh1 hl1 hcell
    simp only [hN] at he5 ⊢
    refine ⟨fun dn s => ∃ (kd : List RP) (md mm : List ME) (bd : List Blk) (v0 v1 clk : Nat) (c0 c1 : List V), keysM dn = some kd /\ dn.Nodup /\ (∀ x ∈ dn, x ∈ es') /\ ownsG h (N + 2) dn = some (md, bd) /\ mm.map unborn = md.map unborn /\ OutW [BF, BF, BF, BF, BT, BT, BF, BF, BF, BF, BF, BF, BF, BF, BT, BT, BT, BT, BT, BT, BT, BT, BT, BT, BT, BT, BF] e5 s.e /\
        s.l = [(v0, c0), (v1, c1)] /\ s.h = h1 ++ .map true mm clk :: .cells 0 true [.map N] :: bd,
      fun s => ∃ (dn md mm : List ME) (bd : List Blk) (v0 v1 clk : Nat) (c0 c1 : List V), dn.Perm es' /\ ownsG h (N + 2) dn = some (md, bd) /\ mm.map unborn = md.map unborn /\ OutW [BF, BF, BF, BF, BT, BT, BF, BF, BF, BF, BF, BF, BF, BF, BT, BT, BT, BT, BT, BT, BT, BT, BT, BT, BT, BT, BF] e5 s.e /\
        s.l = [(v0, c0), (v1, c1)] /\ s.h = h1 ++ .map true mm clk :: .cells 0 true [.map N] :: bd, ?a1, ?a2, ?a3, ?a4, ?a5⟩
    case a1 => exact ⟨[], [], [], [], 0, 0, 0, [], [], rfl, List.nodup_nil, (fun x hx => nomatch hx), rfl, rfl, by rw [he5]; rfl, rfl, rfl⟩
    case a2 =>
      intro dn ⟨e, l, H⟩ ⟨kd, md, mm, bd, v0, v1, clk, c0, c1, _, _, _, _, _, hW, _, hH⟩
      dsimp only at hW hH
      subst H
      have hW2 := hW.spread
      rw [he5] at hW2
      rw [hW2]
      simp only [spread_t, spread_f, spread_n, Nat.zero_add, Nat.reduceAdd]
      exact ⟨rfl, hm1 _⟩
    case a3 =>
      intro dn ⟨e, l, H⟩ ⟨kd, md, mm, bd, v0, v1, clk, c0, c1, hkd, hnd, hsub, hod, hmm, hW, hl, hH⟩ hperm
      dsimp only at hW hH hl
      subst H l
      have hW2 := hW.spread
      rw [he5] at hW2
      rw [hW2]
      simp only [spread_t, spread_f, spread_n, Nat.zero_add, Nat.reduceAdd]
      have g1 := Hid.mk hod
      have g2 := Hid.mk hmm
      have g3 := Hid.mk hperm
      clear hod hmm hperm hsub hnd hkd hW hW2
      (repeat' (first | (simp -implicitDefEqProofs (maxSteps := 1000000) (disch := first | assumption | omega | (simp only [ZDI]; omega)) only [*, G35, Za, Zb, Zc, Zd, Ze, Zf, Zg, Zh, Zi, Zj, Zk, Zl, Zm, Zn, Zo, Ja, Jb, Jc, J3, Jd, Je, J4, J5, Jf, Jg, Jh, Ji, Jj, Jk, J6, Jl, Jm, wr, Jn, J7, J8, Jo, Jp, Jq, Jr, Js, Jt, Ju, Jv, Jw, Jx, Jy, Jz, J0, J1, J2, reduceCtorEq, J9, JA, JB, JC, JD, JE, JF, JG]) | ((with_reducible (first | apply Ok.br | apply Ok.gd | apply Ok.ld)) <;> (intro g; (try simp only [ZGS] at g); try (exfalso; omega)))))
      exact ⟨dn, md, mm, bd, v0, v1, clk, c0, c1, g3.out, g1.out, g2.out, rfl, rfl, rfl⟩
    case a4 =>
      intro dn ⟨e, l, H⟩ ⟨k0, vv, j0⟩ ⟨kd, md, mm, bd, v0, v1, clk, c0, c1, hkd, hnd, hsub, hod, hmm, hW, hl, hH⟩ he hne
      dsimp only at hW hH hl
      subst H l
      have hW2 := hW.spread
      rw [he5] at hW2
      rw [hW2]
      simp only [spread_t, spread_f, spread_n, Nat.zero_add, Nat.reduceAdd]
      obtain ⟨⟨x1, x2⟩, hkx⟩ := keysM_get hks3.out _ he
      have hsn := keysM_snoc hkx hkd
      obtain rfl := keyP_some hkx
      have hxk : (x1, x2) ∉ kd := fun hx => by
        obtain ⟨e2, he2, hk2⟩ := keysM_mem hkd hx
        have := nodup_map_inj hkn'.out e2 (hsub e2 he2) _ he hk2
        exact hne (this ▸ he2)
      have hmk : keysM mm = some kd := keysM_keys (unborn_keys hmm) (keysM_keys (ownsG_keys hod) hkd)
      have hput : putM (V.agg [.int .i64 x1, .int .i64 x2]) vv mm clk = (mm ++ [(V.agg [.int .i64 x1, .int .i64 x2], vv, clk)], clk + 1) := putM_new (x := (x1, x2)) hmk hxk
      have hput2 : ∀ v : V, putM (V.agg [.int .i64 x1, .int .i64 x2]) v mm clk = (mm ++ [(V.agg [.int .i64 x1, .int .i64 x2], v, clk)], clk + 1) := fun v => putM_new (x := (x1, x2)) hmk hxk
      have hkok : keyOk X.ty 23 (V.agg [.int .i64 x1, .int .i64 x2]) mm = true := keyOk_ref (x1, x2) hmk
      obtain ⟨nx', r', hr'⟩ := ownsG_get hec2.out (V.agg [.int .i64 x1, .int .i64 x2], vv) (hp'.out.mem_iff.1 (List.mem_map.2 ⟨_, he, rfl⟩))
      obtain ⟨v', ho, _⟩ := ownG_nx (v' := r'.1) (bl := r'.2) hr' (N + 2 + bd.length)
      obtain ⟨b1, hb1⟩ : ∃ b1, r'.2 = b1 := ⟨_, rfl⟩
      rw [hb1] at ho
      clear hput hr' hb1
      have hnd2 : (dn ++ [((V.agg [.int .i64 x1, .int .i64 x2], vv, j0) : ME)]).Nodup := List.nodup_append.2 ⟨hnd, by simp, fun a ha b hb => by rw [List.mem_singleton.1 hb]; rintro rfl; exact hne ha⟩
      have hsub2 : ∀ x ∈ dn ++ [((V.agg [.int .i64 x1, .int .i64 x2], vv, j0) : ME)], x ∈ es' := fun x hx => by
        rcases List.mem_append.1 hx with hx | hx
        · exact hsub x hx
        · rw [List.mem_singleton.1 hx]; exact he
      have hod2 : ownsG h (N + 2) (dn ++ [((V.agg [.int .i64 x1, .int .i64 x2], vv, j0) : ME)]) = some (md ++ [(V.agg [.int .i64 x1, .int .i64 x2], v', 0)], bd ++ b1) := ownsG_snoc hod ho
      have hmm2 : (mm ++ [((V.agg [.int .i64 x1, .int .i64 x2], v', clk) : ME)]).map unborn = (md ++ [((V.agg [.int .i64 x1, .int .i64 x2], v', 0) : ME)]).map unborn := by
        rw [List.map_append, List.map_append, hmm]; rfl
      have hHl : (h1 ++ Blk.map true mm clk :: .cells 0 true [.map N] :: bd).length = N + 2 + bd.length := by simp only [List.length_append, List.length_cons, hlN]; omega
      have ho2 : ownG (h1 ++ Blk.map true mm clk :: .cells 0 true [.map N] :: bd) (h1 ++ Blk.map true mm clk :: .cells 0 true [.map N] :: bd).length vv = some (v', b1) := by
        rw [hHl]
        exact ownG_ext ho fun b g p hb => hcell'.out b g p hb _
      obtain ⟨cc, _, _, _, _, _, _, rfl, h16, h17⟩ := ownG_cases ho2
      clear h17
      match cc, h16 with
      | [c0, c1, c2, c3, c4, c5, c6, c7, c8, c9, c10, c11, c12, c13, c14, c15], _ =>
      have hown := own_at ho2
      have hmN : ∀ y, (h1 ++ Blk.map true mm clk :: y)[N]? = some (.map true mm clk) := fun y => by rw [List.getElem?_append_right (by omega), hlN, Nat.sub_self]; rfl
      have hcN : ∀ x y, hcells (h1 ++ x :: Blk.cells 0 true [.map N] :: y) (N + 1) 0 = some (true, [.map N]) := fun x y => by
        rw [hcells_ge (by omega), hlN, Nat.add_sub_cancel_left]; rfl
      have hset : ∀ (x : Blk) (y : List Blk) (x' : Blk), (h1 ++ x :: y).set N x' = h1 ++ x' :: y := fun x y x' => by
        rw [heap_set_ge (by omega), hlN, Nat.sub_self]; rfl
      have g1 := Hid.mk hnd2
      have g2 := Hid.mk hsub2
      have g3 := Hid.mk hsn
      have g4 := Hid.mk hod2
      have g5 := Hid.mk hmm2
      clear hnd2 hsub2 hsn hod2 hmm2 hod hmm hkd hnd hsub hW hW2 he hne ho ho2 hxk hkx hmk hHl
      (repeat' (first | (simp -implicitDefEqProofs (maxSteps := 1000000) (disch := first | assumption | omega | (simp only [ZDI]; omega)) only [*, updateV, List.append_assoc, exOp_mapUpdate, G35, Za, Zb, Zc, Zd, Ze, Zf, Zg, Zh, Zi, Zj, Zk, Zl, Zm, Zn, Zo, Ja, Jb, Jc, J3, Jd, Je, J4, J5, Jf, Jg, Jh, Ji, Jj, Jk, J6, Jl, Jm, wr, Jn, J7, J8, Jo, Jp, Jq, Jr, Js, Jt, Ju, Jv, Jw, Jx, Jy, Jz, J0, J1, J2, reduceCtorEq, J9, JA, JB, JC, JD, JE, JF, JG]) | ((with_reducible (first | apply Ok.br | apply Ok.gd | apply Ok.ld)) <;> (intro g; (try simp only [ZGS] at g); try (exfalso; omega)))))
      exact ⟨kd ++ [(x1, x2)], md ++ [(V.agg [.int .i64 x1, .int .i64 x2], v', 0)], mm ++ [(V.agg [.int .i64 x1, .int .i64 x2], v', clk)], bd ++ b1, v0 + 1, v1 + 1, clk + 1, _, _, g3.out, g1.out, g2.out, g4.out, g5.out, rfl, rfl, rfl⟩
    case a5 =>
      intro ⟨e, l, H⟩ ⟨dn, md, mm, bd, v0, v1, clk, c0, c1, hperm, hod, hmm, hW, hl, hH⟩
      dsimp only at hW hH hl
      subst H l
      have hW2 := hW.spread
      rw [he5] at hW2
      rw [hW2]
      simp only [spread_t, spread_f, spread_n, Nat.zero_add, Nat.reduceAdd]
      clear hW hW2 he5
      letI := goodOf X0
      have htold := fun (e : List TV) (l : Locs) hr => clone_told (X := X) (rs := [.tmp 2]) (e := e) (l := l) (clk := clk) hm2.out hmap2.out hp'.out hex'.out hperm hkn'.out hec2.out (by rw [hN]; exact hod) hmm hr
      simp only [hN, <- hh1'.out] at htold
      have htold' := Hid.mk htold
      clear htold hperm hod hmm
      (repeat' (first | (simp -implicitDefEqProofs (maxSteps := 1000000) (disch := first | assumption | omega | (simp only [ZDI]; omega)) only [*, G35, Za, Zb, Zc, Zd, Ze, Zf, Zg, Zh, Zi, Zj, Zk, Zl, Zm, Zn, Zo, Ja, Jb, Jc, J3, Jd, Je, J4, J5, Jf, Jg, Jh, Ji, Jj, Jk, J6, Jl, Jm, wr, Jn, J7, J8, Jo, Jp, Jq, Jr, Js, Jt, Ju, Jv, Jw, Jx, Jy, Jz, J0, J1, J2, reduceCtorEq, J9, JA, JB, JC, JD, JE, JF, JG]) | ((with_reducible (first | apply Ok.br | apply Ok.gd | apply Ok.ld)) <;> (intro g; (try simp only [ZGS] at g); try (exfalso; omega)))))
      exact htold'.out _ _ rfl
end Go.Ev.Q
namespace Go.Ev
open Go.Proofs
def pin1 : FuncId -> Option Pin := fun f => if f = 54 then some (.s refsG) else if f = 35 then some (.s cloneG) else none
noncomputable def X1 : Env := X0.pins pin1
theorem fit1 : Fit Try.prog X1 := by
  refine fit0.pinsFit fun f p h => ?_
  unfold pin1 at h
  split at h
  · rename_i hf; subst hf; cases h; exact Q.refsPin
  · split at h
    · rename_i hf; subst hf; cases h; exact Q.clonePin
    · cases h
theorem livesRun : ((callN X1 60 (.fn 13 []) [] []).map fun r => match r.1 with | .bool b => some b | _ => none) = some (some true) := by decide +kernel
theorem livesBody : (bodyOf Try.prog 13).isSome = true := by decide +kernel
noncomputable def X : Env := X0.pins fun f => if f = 54 then some (.s refsG) else if f = 35 then some (.s cloneG) else if f = 13 then some (.b true) else none
theorem fit : Fit Try.prog X := by
  refine fit0.pinsFit fun f p h => ?_
  split at h
  · rename_i hf; subst hf; cases h; exact Q.refsPin
  · split at h
    · rename_i hf; subst hf; cases h; exact Q.clonePin
    · split at h
      · rename_i hf
        subst hf
        cases h
        have := @pinOk_bool (goodOf X1) _ fit1.funcsOk _ _ livesBody fun w => fit1.closed livesRun w
        rw [show goodOf X1 = goodOf X0 from goodOf_pins X0 pin1] at this
        exact this
      · cases h
end Go.Ev
namespace Go.Ev
open Go.Proofs
noncomputable def c2 : Code := (Try.f2.body).getD .skip
noncomputable def c3 : Code := (Try.f3.body).getD .skip
theorem slot3 : X.slot 3 = fun t => posT [2, 3] t 0 := rfl
theorem plan3_3 : X.plan 3 3 = [(0, [0], []), (2, [0], []), (1, [], [(2, [0])]), (3, [], []), (4, [], []), (5, [], []), (6, [0], []), (7, [1], []), (9, [0], []), (10, [1], []), (8, [], [(9, [0]), (10, [1])]), (11, [], []), (12, [], []), (13, [], []), (14, [], []), (15, [0], []), (16, [0], []), (17, [], []), (18, [], []), (19, [], []), (20, [0], []), (21, [0], []), (22, [1], []), (23, [1], []), (25, [0], []), (26, [0], []), (27, [1], []), (28, [1], []), (24, [], [(26, [0]), (28, [1])]), (29, [], []), (30, [], []), (31, [], []), (32, [], []), (33, [], []), (34, [], []), (35, [], [])] := by kernel_rfl
noncomputable def c4 : Code := (Try.f4.body).getD .skip
theorem body4 : X.body 4 = some (c4, 94, [.tmp 2]) := by kernel_rfl
theorem slot4 : X.slot 4 = fun t => posT [6, 7, 10, 12, 90] t 0 := rfl
theorem nslot4 : X.nslots 4 = 5 := rfl
theorem pin4 : X.pin 4 = none := rfl
noncomputable def c5 : Code := (Try.f5.body).getD .skip
theorem slot5 : X.slot 5 = fun t => posT [4, 5] t 0 := rfl
noncomputable def c6 : Code := (Try.f6.body).getD .skip
theorem slot6 : X.slot 6 = fun t => posT [10] t 0 := rfl
noncomputable def c7 : Code := (Try.f7.body).getD .skip
noncomputable def c8 : Code := (Try.f8.body).getD .skip
noncomputable def c9 : Code := (Try.f9.body).getD .skip
noncomputable def c10 : Code := (Try.f10.body).getD .skip
noncomputable def c11 : Code := (Try.f11.body).getD .skip
noncomputable def c12 : Code := (Try.f12.body).getD .skip
theorem body12 : X.body 12 = some (c12, 35, [.tmp 2]) := by kernel_rfl
theorem slot12 : X.slot 12 = fun t => posT [1] t 0 := rfl
theorem nslot12 : X.nslots 12 = 1 := rfl
theorem pin12 : X.pin 12 = none := rfl
noncomputable def c13 : Code := (Try.f13.body).getD .skip
noncomputable def c14 : Code := (Try.f14.body).getD .skip
theorem body14 : X.body 14 = some (c14, 60, [.tmp 2]) := by kernel_rfl
theorem slot14 : X.slot 14 = fun t => posT [1] t 0 := rfl
theorem nslot14 : X.nslots 14 = 1 := rfl
theorem pin14 : X.pin 14 = none := rfl
noncomputable def c15 : Code := (Try.f15.body).getD .skip
noncomputable def c16 : Code := (Try.f16.body).getD .skip
theorem body16 : X.body 16 = some (c16, 59, [.tmp 4]) := by kernel_rfl
theorem slot16 : X.slot 16 = fun t => posT [2, 3] t 0 := rfl
theorem nslot16 : X.nslots 16 = 2 := rfl
theorem pin16 : X.pin 16 = none := rfl
noncomputable def c18 : Code := (Try.f18.body).getD .skip
theorem body18 : X.body 18 = some (c18, 20, [.tmp 4]) := by kernel_rfl
theorem slot18 : X.slot 18 = fun t => posT [2, 3] t 0 := rfl
theorem nslot18 : X.nslots 18 = 2 := rfl
theorem pin18 : X.pin 18 = none := rfl
noncomputable def c20 : Code := (Try.f20.body).getD .skip
theorem body20 : X.body 20 = some (c20, 4, [.tmp 0]) := by kernel_rfl
theorem slot20 : X.slot 20 = fun t => posT [] t 0 := rfl
theorem nslot20 : X.nslots 20 = 0 := rfl
theorem pin20 : X.pin 20 = none := rfl
noncomputable def c21 : Code := (Try.f21.body).getD .skip
theorem body21 : X.body 21 = some (c21, 117, [.tmp 2]) := by kernel_rfl
theorem slot21 : X.slot 21 = fun t => posT [1] t 0 := rfl
theorem nslot21 : X.nslots 21 = 1 := rfl
theorem pin21 : X.pin 21 = none := rfl
noncomputable def c22 : Code := (Try.f22.body).getD .skip
theorem body22 : X.body 22 = some (c22, 26, [.tmp 4]) := by kernel_rfl
theorem slot22 : X.slot 22 = fun t => posT [7] t 0 := rfl
theorem nslot22 : X.nslots 22 = 1 := rfl
theorem pin22 : X.pin 22 = none := rfl
noncomputable def c23 : Code := (Try.f23.body).getD .skip
theorem body23 : X.body 23 = some (c23, 41, [.tmp 6, .tmp 7]) := by kernel_rfl
theorem slot23 : X.slot 23 = fun t => posT [4, 5, 8, 9, 10, 32] t 0 := rfl
theorem nslot23 : X.nslots 23 = 6 := rfl
theorem pin23 : X.pin 23 = none := rfl
theorem plan23_8 : X.plan 23 8 = [(0, [2], []), (1, [], []), (2, [3], []), (3, [], []), (4, [], [])] := by kernel_rfl
noncomputable def c24 : Code := (Try.f24.body).getD .skip
theorem body24 : X.body 24 = some (c24, 40, [.tmp 4]) := by kernel_rfl
theorem slot24 : X.slot 24 = fun t => posT [3, 5] t 0 := rfl
theorem nslot24 : X.nslots 24 = 2 := rfl
theorem pin24 : X.pin 24 = none := rfl
theorem plan24_5 : X.plan 24 5 = [(0, [], []), (1, [], []), (2, [], []), (3, [], []), (4, [0], []), (5, [0], []), (10, [], []), (6, [], []), (7, [], []), (8, [], []), (9, [], []), (11, [1], []), (12, [], [])] := by kernel_rfl
theorem plan24_8 : X.plan 24 8 = [(0, [], []), (1, [], []), (2, [], []), (3, [], []), (4, [0], []), (5, [0], []), (6, [0], []), (7, [], [(3, []), (5, [0])]), (8, [], [])] := by kernel_rfl
noncomputable def c25 : Code := (Try.f25.body).getD .skip
theorem body25 : X.body 25 = some (c25, 86, [.tmp 4]) := by kernel_rfl
theorem slot25 : X.slot 25 = fun t => posT [2, 3] t 0 := rfl
theorem nslot25 : X.nslots 25 = 2 := rfl
theorem pin25 : X.pin 25 = none := rfl
theorem plan25_5 : X.plan 25 5 = [(0, [0], []), (1, [0], []), (2, [0], []), (3, [0], []), (4, [], []), (5, [], [])] := by kernel_rfl
noncomputable def c26 : Code := (Try.f26.body).getD .skip
theorem body26 : X.body 26 = some (c26, 17, [.tmp 4]) := by kernel_rfl
theorem slot26 : X.slot 26 = fun t => posT [3, 6] t 0 := rfl
theorem nslot26 : X.nslots 26 = 2 := rfl
theorem pin26 : X.pin 26 = none := rfl
noncomputable def c30 : Code := (Try.f30.body).getD .skip
theorem body30 : X.body 30 = some (c30, 10, [.tmp 2]) := by kernel_rfl
theorem slot30 : X.slot 30 = fun t => posT [] t 0 := rfl
theorem nslot30 : X.nslots 30 = 0 := rfl
theorem pin30 : X.pin 30 = none := rfl
noncomputable def c31 : Code := (Try.f31.body).getD .skip
theorem body31 : X.body 31 = some (c31, 4, [.tmp 2]) := by kernel_rfl
theorem slot31 : X.slot 31 = fun t => posT [] t 0 := rfl
theorem nslot31 : X.nslots 31 = 0 := rfl
theorem pin31 : X.pin 31 = none := rfl
noncomputable def c35 : Code := (Try.f35.body).getD .skip
theorem body35 : X.body 35 = some (c35, 27, [.tmp 2]) := by kernel_rfl
theorem slot35 : X.slot 35 = fun t => posT [4, 5] t 0 := rfl
theorem nslot35 : X.nslots 35 = 2 := rfl
theorem pin35 : X.pin 35 = some (.s cloneG) := rfl
theorem plan35_7 : X.plan 35 7 = [(0, [], []), (1, [], []), (2, [], []), (3, [], []), (4, [0], []), (5, [1], []), (6, [], [(3, []), (4, [0])]), (7, [], [])] := by kernel_rfl
noncomputable def c43 : Code := (Try.f43.body).getD .skip
theorem body43 : X.body 43 = some (c43, 21, [.tmp 2]) := by kernel_rfl
theorem slot43 : X.slot 43 = fun t => posT [1] t 0 := rfl
theorem nslot43 : X.nslots 43 = 1 := rfl
theorem pin43 : X.pin 43 = none := rfl
noncomputable def c44 : Code := (Try.f44.body).getD .skip
theorem body44 : X.body 44 = some (c44, 21, [.tmp 2]) := by kernel_rfl
theorem slot44 : X.slot 44 = fun t => posT [1] t 0 := rfl
theorem nslot44 : X.nslots 44 = 1 := rfl
theorem pin44 : X.pin 44 = none := rfl
noncomputable def c45 : Code := (Try.f45.body).getD .skip
theorem body45 : X.body 45 = some (c45, 10, [.tmp 2]) := by kernel_rfl
theorem slot45 : X.slot 45 = fun t => posT [1] t 0 := rfl
theorem nslot45 : X.nslots 45 = 1 := rfl
theorem pin45 : X.pin 45 = none := rfl
noncomputable def c46 : Code := (Try.f46.body).getD .skip
theorem body46 : X.body 46 = some (c46, 85, [.tmp 2]) := by kernel_rfl
theorem slot46 : X.slot 46 = fun t => posT [1] t 0 := rfl
theorem nslot46 : X.nslots 46 = 1 := rfl
theorem pin46 : X.pin 46 = none := rfl
noncomputable def c47 : Code := (Try.f47.body).getD .skip
theorem body47 : X.body 47 = some (c47, 33, [.tmp 2]) := by kernel_rfl
theorem slot47 : X.slot 47 = fun t => posT [4] t 0 := rfl
theorem nslot47 : X.nslots 47 = 1 := rfl
theorem pin47 : X.pin 47 = none := rfl
theorem plan47_4 : X.plan 47 4 = [(0, [0], []), (1, [], []), (2, [], []), (3, [], []), (4, [], []), (5, [], []), (6, [], []), (7, [], []), (8, [], []), (9, [], []), (10, [], []), (11, [], []), (12, [0], []), (13, [], []), (14, [], []), (15, [], []), (16, [], [])] := by kernel_rfl
noncomputable def c51 : Code := (Try.f51.body).getD .skip
theorem body51 : X.body 51 = some (c51, 45, [.tmp 4]) := by kernel_rfl
theorem slot51 : X.slot 51 = fun t => posT [2, 3] t 0 := rfl
theorem nslot51 : X.nslots 51 = 2 := rfl
theorem pin51 : X.pin 51 = none := rfl
noncomputable def c52 : Code := (Try.f52.body).getD .skip
theorem body52 : X.body 52 = some (c52, 26, [.tmp 4]) := by kernel_rfl
theorem slot52 : X.slot 52 = fun t => posT [] t 0 := rfl
theorem nslot52 : X.nslots 52 = 0 := rfl
theorem pin52 : X.pin 52 = none := rfl
theorem plan52_6 : X.plan 52 6 = [(0, [], []), (1, [], []), (2, [], []), (3, [], []), (4, [], []), (5, [], []), (6, [], []), (7, [], []), (8, [], [])] := by kernel_rfl
noncomputable def c53 : Code := (Try.f53.body).getD .skip
theorem body53 : X.body 53 = some (c53, 19, [.tmp 2]) := by kernel_rfl
theorem slot53 : X.slot 53 = fun t => posT [] t 0 := rfl
theorem nslot53 : X.nslots 53 = 0 := rfl
theorem pin53 : X.pin 53 = none := rfl
noncomputable def c54 : Code := (Try.f54.body).getD .skip
theorem body54 : X.body 54 = some (c54, 29, [.tmp 2]) := by kernel_rfl
theorem slot54 : X.slot 54 = fun t => posT [4, 24] t 0 := rfl
theorem nslot54 : X.nslots 54 = 2 := rfl
theorem pin54 : X.pin 54 = some (.s refsG) := rfl
noncomputable def c55 : Code := (Try.f55.body).getD .skip
theorem body55 : X.body 55 = some (c55, 52, [.tmp 4]) := by kernel_rfl
theorem slot55 : X.slot 55 = fun t => posT [2, 3] t 0 := rfl
theorem nslot55 : X.nslots 55 = 2 := rfl
theorem pin55 : X.pin 55 = none := rfl
noncomputable def c56 : Code := (Try.f56.body).getD .skip
theorem body56 : X.body 56 = some (c56, 14, [.cell 2 31]) := by kernel_rfl
theorem slot56 : X.slot 56 = fun t => posT [1, 2] t 0 := rfl
theorem nslot56 : X.nslots 56 = 2 := rfl
theorem pin56 : X.pin 56 = none := rfl
noncomputable def c59 : Code := (Try.f59.body).getD .skip
theorem body59 : X.body 59 = some (c59, 25, []) := by kernel_rfl
theorem slot59 : X.slot 59 = fun t => posT [5] t 0 := rfl
theorem nslot59 : X.nslots 59 = 1 := rfl
theorem pin59 : X.pin 59 = none := rfl
theorem plan59_4 : X.plan 59 4 = [(0, [], []), (1, [], []), (2, [], []), (3, [], []), (4, [], []), (5, [0], []), (6, [], []), (7, [], []), (8, [], [])] := by kernel_rfl
noncomputable def c73 : Code := (Try.f73.body).getD .skip
theorem body73 : X.body 73 = some (c73, 27, [.tmp 2]) := by kernel_rfl
theorem slot73 : X.slot 73 = fun t => posT [1] t 0 := rfl
theorem nslot73 : X.nslots 73 = 1 := rfl
theorem pin73 : X.pin 73 = none := rfl
noncomputable def c74 : Code := (Try.f74.body).getD .skip
theorem body74 : X.body 74 = some (c74, 9, [.tmp 2]) := by kernel_rfl
theorem slot74 : X.slot 74 = fun t => posT [] t 0 := rfl
theorem nslot74 : X.nslots 74 = 0 := rfl
theorem pin74 : X.pin 74 = none := rfl
noncomputable def c75 : Code := (Try.f75.body).getD .skip
theorem body75 : X.body 75 = some (c75, 9, [.tmp 4]) := by kernel_rfl
theorem slot75 : X.slot 75 = fun t => posT [] t 0 := rfl
theorem nslot75 : X.nslots 75 = 0 := rfl
theorem pin75 : X.pin 75 = none := rfl
noncomputable def c76 : Code := (Try.f76.body).getD .skip
theorem body76 : X.body 76 = some (c76, 6, [.tmp 2]) := by kernel_rfl
theorem slot76 : X.slot 76 = fun t => posT [] t 0 := rfl
theorem nslot76 : X.nslots 76 = 0 := rfl
theorem pin76 : X.pin 76 = none := rfl
noncomputable def c77 : Code := (Try.f77.body).getD .skip
theorem body77 : X.body 77 = some (c77, 18, [.tmp 2]) := by kernel_rfl
theorem slot77 : X.slot 77 = fun t => posT [] t 0 := rfl
theorem nslot77 : X.nslots 77 = 0 := rfl
theorem pin77 : X.pin 77 = none := rfl
noncomputable def c78 : Code := (Try.f78.body).getD .skip
theorem body78 : X.body 78 = some (c78, 20, [.tmp 4]) := by kernel_rfl
theorem slot78 : X.slot 78 = fun t => posT [2, 3] t 0 := rfl
theorem nslot78 : X.nslots 78 = 2 := rfl
theorem pin78 : X.pin 78 = none := rfl
noncomputable def c79 : Code := (Try.f79.body).getD .skip
theorem body79 : X.body 79 = some (c79, 26, [.tmp 4]) := by kernel_rfl
theorem slot79 : X.slot 79 = fun t => posT [] t 0 := rfl
theorem nslot79 : X.nslots 79 = 0 := rfl
theorem pin79 : X.pin 79 = none := rfl
theorem plan79_6 : X.plan 79 6 = [(0, [], []), (1, [], []), (2, [], []), (3, [], []), (4, [], []), (5, [], []), (6, [], []), (7, [], []), (8, [], [])] := by kernel_rfl
noncomputable def c80 : Code := (Try.f80.body).getD .skip
theorem body80 : X.body 80 = some (c80, 10, [.tmp 2]) := by kernel_rfl
theorem slot80 : X.slot 80 = fun t => posT [] t 0 := rfl
theorem nslot80 : X.nslots 80 = 0 := rfl
theorem pin80 : X.pin 80 = none := rfl
noncomputable def c81 : Code := (Try.f81.body).getD .skip
theorem body81 : X.body 81 = some (c81, 20, [.tmp 4]) := by kernel_rfl
theorem slot81 : X.slot 81 = fun t => posT [2, 3] t 0 := rfl
theorem nslot81 : X.nslots 81 = 2 := rfl
theorem pin81 : X.pin 81 = none := rfl
noncomputable def c82 : Code := (Try.f82.body).getD .skip
theorem body82 : X.body 82 = some (c82, 9, [.tmp 2]) := by kernel_rfl
theorem slot82 : X.slot 82 = fun t => posT [] t 0 := rfl
theorem nslot82 : X.nslots 82 = 0 := rfl
theorem pin82 : X.pin 82 = none := rfl
noncomputable def c83 : Code := (Try.f83.body).getD .skip
theorem body83 : X.body 83 = some (c83, 8, [.tmp 2]) := by kernel_rfl
theorem slot83 : X.slot 83 = fun t => posT [] t 0 := rfl
theorem nslot83 : X.nslots 83 = 0 := rfl
theorem pin83 : X.pin 83 = none := rfl
noncomputable def c84 : Code := (Try.f84.body).getD .skip
theorem body84 : X.body 84 = some (c84, 8, [.tmp 2]) := by kernel_rfl
theorem slot84 : X.slot 84 = fun t => posT [] t 0 := rfl
theorem nslot84 : X.nslots 84 = 0 := rfl
theorem pin84 : X.pin 84 = none := rfl
noncomputable def c95 : Code := (Try.f95.body).getD .skip
theorem body95 : X.body 95 = some (c95, 19, [.tmp 4]) := by kernel_rfl
theorem slot95 : X.slot 95 = fun t => posT [] t 0 := rfl
theorem nslot95 : X.nslots 95 = 0 := rfl
theorem pin95 : X.pin 95 = none := rfl
noncomputable def c96 : Code := (Try.f96.body).getD .skip
theorem body96 : X.body 96 = some (c96, 36, [.tmp 2]) := by kernel_rfl
theorem slot96 : X.slot 96 = fun t => posT [] t 0 := rfl
theorem nslot96 : X.nslots 96 = 0 := rfl
theorem pin96 : X.pin 96 = none := rfl
noncomputable def c97 : Code := (Try.f97.body).getD .skip
theorem body97 : X.body 97 = some (c97, 14, []) := by kernel_rfl
theorem slot97 : X.slot 97 = fun t => posT [] t 0 := rfl
theorem nslot97 : X.nslots 97 = 0 := rfl
theorem pin97 : X.pin 97 = none := rfl
noncomputable def c98 : Code := (Try.f98.body).getD .skip
theorem body98 : X.body 98 = some (c98, 12, [.tmp 4]) := by kernel_rfl
theorem slot98 : X.slot 98 = fun t => posT [2, 3] t 0 := rfl
theorem nslot98 : X.nslots 98 = 2 := rfl
theorem pin98 : X.pin 98 = none := rfl
theorem plan98_1 : X.plan 98 1 = [(0, [0], []), (1, [1], []), (3, [1], []), (4, [0], []), (2, [], [(3, [1]), (4, [0])]), (5, [], []), (6, [], []), (7, [], [])] := by kernel_rfl
noncomputable def c99 : Code := (Try.f99.body).getD .skip
theorem body99 : X.body 99 = some (c99, 9, [.tmp 4]) := by kernel_rfl
theorem slot99 : X.slot 99 = fun t => posT [] t 0 := rfl
theorem nslot99 : X.nslots 99 = 0 := rfl
theorem pin99 : X.pin 99 = none := rfl
noncomputable def c100 : Code := (Try.f100.body).getD .skip
theorem body100 : X.body 100 = some (c100, 61, [.tmp 2]) := by kernel_rfl
theorem slot100 : X.slot 100 = fun t => posT [] t 0 := rfl
theorem nslot100 : X.nslots 100 = 0 := rfl
theorem pin100 : X.pin 100 = none := rfl
theorem plan100_6 : X.plan 100 6 = [(0, [], []), (1, [], []), (2, [], []), (3, [], []), (4, [], []), (5, [], []), (6, [], []), (7, [], []), (8, [], []), (9, [], [])] := by kernel_rfl
theorem plan100_11 : X.plan 100 11 = [(0, [], []), (1, [], []), (2, [], []), (3, [], []), (4, [], []), (5, [], []), (6, [], []), (7, [], []), (8, [], []), (9, [], [])] := by kernel_rfl
noncomputable def c101 : Code := (Try.f101.body).getD .skip
theorem body101 : X.body 101 = some (c101, 8, [.tmp 2]) := by kernel_rfl
theorem slot101 : X.slot 101 = fun t => posT [1] t 0 := rfl
theorem nslot101 : X.nslots 101 = 1 := rfl
theorem pin101 : X.pin 101 = none := rfl
noncomputable def c102 : Code := (Try.f102.body).getD .skip
theorem body102 : X.body 102 = some (c102, 16, [.cell 4 113]) := by kernel_rfl
theorem slot102 : X.slot 102 = fun t => posT [2, 3, 4] t 0 := rfl
theorem nslot102 : X.nslots 102 = 3 := rfl
theorem pin102 : X.pin 102 = none := rfl
noncomputable def c103 : Code := (Try.f103.body).getD .skip
theorem body103 : X.body 103 = some (c103, 25, [.tmp 2]) := by kernel_rfl
theorem slot103 : X.slot 103 = fun t => posT [] t 0 := rfl
theorem nslot103 : X.nslots 103 = 0 := rfl
theorem pin103 : X.pin 103 = none := rfl
noncomputable def c104 : Code := (Try.f104.body).getD .skip
theorem body104 : X.body 104 = some (c104, 27, [.tmp 4]) := by kernel_rfl
theorem slot104 : X.slot 104 = fun t => posT [] t 0 := rfl
theorem nslot104 : X.nslots 104 = 0 := rfl
theorem pin104 : X.pin 104 = none := rfl
noncomputable def c105 : Code := (Try.f105.body).getD .skip
theorem body105 : X.body 105 = some (c105, 148, []) := by kernel_rfl
theorem slot105 : X.slot 105 = fun t => posT [] t 0 := rfl
theorem nslot105 : X.nslots 105 = 0 := rfl
theorem pin105 : X.pin 105 = none := rfl
theorem plan105_17 : X.plan 105 17 = [(0, [], []), (1, [], []), (2, [], []), (3, [], []), (4, [], []), (5, [], []), (6, [], []), (7, [], []), (8, [], []), (9, [], []), (10, [], []), (11, [], []), (12, [], []), (13, [], []), (14, [], []), (15, [], []), (16, [], [])] := by kernel_rfl
noncomputable def c106 : Code := (Try.f106.body).getD .skip
theorem body106 : X.body 106 = some (c106, 8, [.tmp 2]) := by kernel_rfl
theorem slot106 : X.slot 106 = fun t => posT [] t 0 := rfl
theorem nslot106 : X.nslots 106 = 0 := rfl
theorem pin106 : X.pin 106 = none := rfl
noncomputable def c107 : Code := (Try.f107.body).getD .skip
theorem body107 : X.body 107 = some (c107, 53, []) := by kernel_rfl
theorem slot107 : X.slot 107 = fun t => posT [] t 0 := rfl
theorem nslot107 : X.nslots 107 = 0 := rfl
theorem pin107 : X.pin 107 = none := rfl
theorem plan107_4 : X.plan 107 4 = [(0, [], []), (1, [], []), (2, [], []), (3, [], []), (4, [], []), (5, [], []), (6, [], []), (7, [], []), (8, [], []), (9, [], []), (10, [], []), (11, [], []), (12, [], []), (13, [], []), (14, [], []), (15, [], []), (16, [], [])] := by kernel_rfl
theorem plan107_6 : X.plan 107 6 = [(0, [], []), (1, [], []), (2, [], []), (3, [], []), (4, [], []), (5, [], []), (6, [], []), (7, [], []), (8, [], []), (9, [], []), (10, [], []), (11, [], []), (12, [], []), (13, [], []), (14, [], []), (15, [], []), (16, [], []), (17, [], [])] := by kernel_rfl
noncomputable def c108 : Code := (Try.f108.body).getD .skip
theorem body108 : X.body 108 = some (c108, 60, []) := by kernel_rfl
theorem slot108 : X.slot 108 = fun t => posT [] t 0 := rfl
theorem nslot108 : X.nslots 108 = 0 := rfl
theorem pin108 : X.pin 108 = none := rfl
theorem plan108_10 : X.plan 108 10 = [(0, [], []), (1, [], []), (2, [], []), (3, [], []), (4, [], []), (5, [], []), (6, [], []), (7, [], []), (8, [], []), (9, [], []), (10, [], []), (11, [], []), (12, [], []), (13, [], []), (14, [], []), (15, [], []), (16, [], []), (17, [], []), (18, [], []), (19, [], [])] := by kernel_rfl
noncomputable def c109 : Code := (Try.f109.body).getD .skip
theorem body109 : X.body 109 = some (c109, 67, []) := by kernel_rfl
theorem slot109 : X.slot 109 = fun t => posT [] t 0 := rfl
theorem nslot109 : X.nslots 109 = 0 := rfl
theorem pin109 : X.pin 109 = none := rfl
theorem plan109_10 : X.plan 109 10 = [(0, [], []), (1, [], []), (2, [], []), (3, [], []), (4, [], []), (5, [], []), (6, [], []), (7, [], []), (8, [], []), (9, [], []), (10, [], []), (11, [], []), (12, [], []), (13, [], []), (14, [], []), (15, [], []), (16, [], []), (17, [], []), (18, [], []), (19, [], [])] := by kernel_rfl
noncomputable def c110 : Code := (Try.f110.body).getD .skip
theorem body110 : X.body 110 = some (c110, 63, [.tmp 8, .tmp 9]) := by kernel_rfl
theorem slot110 : X.slot 110 = fun t => posT [] t 0 := rfl
theorem nslot110 : X.nslots 110 = 0 := rfl
theorem pin110 : X.pin 110 = none := rfl
noncomputable def c111 : Code := (Try.f111.body).getD .skip
theorem body111 : X.body 111 = some (c111, 34, []) := by kernel_rfl
theorem slot111 : X.slot 111 = fun t => posT [] t 0 := rfl
theorem nslot111 : X.nslots 111 = 0 := rfl
theorem pin111 : X.pin 111 = none := rfl
theorem plan111_3 : X.plan 111 3 = [(0, [], []), (1, [], []), (2, [], []), (3, [], []), (4, [], []), (5, [], []), (6, [], []), (7, [], []), (8, [], []), (9, [], []), (10, [], []), (11, [], []), (12, [], []), (13, [], []), (14, [], []), (15, [], [])] := by kernel_rfl
noncomputable def c112 : Code := (Try.f112.body).getD .skip
theorem body112 : X.body 112 = some (c112, 141, [.tmp 8]) := by kernel_rfl
theorem slot112 : X.slot 112 = fun t => posT [] t 0 := rfl
theorem nslot112 : X.nslots 112 = 0 := rfl
theorem pin112 : X.pin 112 = none := rfl
theorem plan112_5 : X.plan 112 5 = [(0, [], []), (1, [], []), (2, [], []), (3, [], []), (4, [], []), (5, [], []), (6, [], []), (7, [], []), (8, [], []), (9, [], []), (10, [], []), (11, [], []), (12, [], []), (13, [], []), (14, [], []), (15, [], []), (16, [], []), (17, [], [])] := by kernel_rfl
theorem plan112_11 : X.plan 112 11 = [(0, [], []), (1, [], []), (2, [], []), (3, [], []), (4, [], []), (5, [], []), (6, [], []), (7, [], []), (8, [], []), (9, [], []), (10, [], []), (11, [], []), (12, [], []), (13, [], []), (14, [], []), (15, [], []), (16, [], []), (17, [], [])] := by kernel_rfl
theorem plan112_16 : X.plan 112 16 = [(0, [], []), (1, [], []), (2, [], []), (3, [], []), (4, [], []), (5, [], []), (6, [], []), (7, [], []), (8, [], []), (9, [], []), (10, [], []), (11, [], []), (12, [], [])] := by kernel_rfl
theorem plan112_17 : X.plan 112 17 = [(0, [], []), (1, [], []), (2, [], []), (3, [], []), (4, [], []), (5, [], []), (6, [], []), (7, [], []), (8, [], []), (9, [], []), (10, [], []), (11, [], []), (12, [], []), (13, [], []), (14, [], []), (15, [], []), (16, [], []), (17, [], [])] := by kernel_rfl
theorem plan112_22 : X.plan 112 22 = [(0, [], []), (1, [], []), (2, [], []), (3, [], []), (4, [], []), (5, [], []), (6, [], []), (7, [], []), (8, [], []), (9, [], []), (10, [], []), (11, [], []), (12, [], [])] := by kernel_rfl
theorem plan112_23 : X.plan 112 23 = [(0, [], []), (1, [], []), (2, [], []), (3, [], []), (4, [], []), (5, [], []), (6, [], []), (7, [], []), (8, [], []), (9, [], []), (10, [], []), (11, [], []), (12, [], []), (13, [], []), (14, [], []), (15, [], []), (16, [], []), (17, [], [])] := by kernel_rfl
noncomputable def c113 : Code := (Try.f113.body).getD .skip
theorem body113 : X.body 113 = some (c113, 90, [.tmp 10]) := by kernel_rfl
theorem slot113 : X.slot 113 = fun t => posT [] t 0 := rfl
theorem nslot113 : X.nslots 113 = 0 := rfl
theorem pin113 : X.pin 113 = none := rfl
theorem plan113_1 : X.plan 113 1 = [(0, [], []), (1, [], []), (2, [], []), (3, [], []), (4, [], []), (5, [], []), (6, [], []), (7, [], []), (8, [], []), (9, [], []), (10, [], []), (11, [], []), (12, [], []), (13, [], []), (14, [], []), (15, [], [])] := by kernel_rfl
theorem plan113_3 : X.plan 113 3 = [(0, [], []), (1, [], []), (2, [], []), (3, [], []), (4, [], []), (5, [], []), (6, [], []), (7, [], []), (8, [], []), (9, [], []), (10, [], []), (11, [], []), (12, [], []), (13, [], []), (14, [], []), (15, [], []), (16, [], [])] := by kernel_rfl
theorem plan113_5 : X.plan 113 5 = [(0, [], []), (1, [], []), (2, [], []), (3, [], []), (4, [], []), (5, [], []), (6, [], []), (7, [], []), (8, [], []), (9, [], []), (10, [], []), (11, [], []), (12, [], []), (13, [], []), (14, [], []), (15, [], [])] := by kernel_rfl
theorem plan113_8 : X.plan 113 8 = [(0, [], []), (1, [], []), (2, [], []), (3, [], []), (4, [], []), (5, [], []), (6, [], []), (7, [], []), (8, [], []), (9, [], []), (10, [], []), (11, [], []), (12, [], []), (13, [], []), (14, [], []), (15, [], [])] := by kernel_rfl
noncomputable def c114 : Code := (Try.f114.body).getD .skip
theorem body114 : X.body 114 = some (c114, 178, [.tmp 10, .tmp 11]) := by kernel_rfl
theorem slot114 : X.slot 114 = fun t => posT [] t 0 := rfl
theorem nslot114 : X.nslots 114 = 0 := rfl
theorem pin114 : X.pin 114 = none := rfl
theorem plan114_1 : X.plan 114 1 = [(0, [], []), (1, [], []), (2, [], []), (3, [], []), (4, [], []), (5, [], []), (6, [], []), (7, [], []), (8, [], []), (9, [], []), (10, [], []), (11, [], []), (12, [], []), (13, [], []), (14, [], []), (15, [], [])] := by kernel_rfl
theorem plan114_3 : X.plan 114 3 = [(0, [], []), (1, [], []), (2, [], []), (3, [], []), (4, [], []), (5, [], []), (6, [], []), (7, [], []), (8, [], []), (9, [], []), (10, [], []), (11, [], []), (12, [], []), (13, [], []), (14, [], []), (15, [], [])] := by kernel_rfl
theorem plan114_5 : X.plan 114 5 = [(0, [], []), (1, [], []), (2, [], []), (3, [], []), (4, [], []), (5, [], []), (6, [], []), (7, [], []), (8, [], []), (9, [], []), (10, [], []), (11, [], []), (12, [], []), (13, [], []), (14, [], []), (15, [], []), (16, [], [])] := by kernel_rfl
theorem plan114_8 : X.plan 114 8 = [(0, [], []), (1, [], []), (2, [], []), (3, [], []), (4, [], []), (5, [], []), (6, [], []), (7, [], []), (8, [], []), (9, [], []), (10, [], []), (11, [], []), (12, [], []), (13, [], []), (14, [], []), (15, [], [])] := by kernel_rfl
theorem plan114_10 : X.plan 114 10 = [(0, [], []), (1, [], []), (2, [], []), (3, [], []), (4, [], []), (5, [], []), (6, [], []), (7, [], []), (8, [], []), (9, [], []), (10, [], []), (11, [], []), (12, [], []), (13, [], []), (14, [], []), (15, [], [])] := by kernel_rfl
theorem plan114_13 : X.plan 114 13 = [(0, [], []), (1, [], []), (2, [], []), (3, [], []), (4, [], []), (5, [], []), (6, [], []), (7, [], []), (8, [], []), (9, [], []), (10, [], []), (11, [], []), (12, [], []), (13, [], []), (14, [], []), (15, [], [])] := by kernel_rfl
theorem plan114_15 : X.plan 114 15 = [(0, [], []), (1, [], []), (2, [], []), (3, [], []), (4, [], []), (5, [], []), (6, [], []), (7, [], []), (8, [], []), (9, [], []), (10, [], []), (11, [], []), (12, [], []), (13, [], []), (14, [], []), (15, [], []), (16, [], [])] := by kernel_rfl
theorem plan114_18 : X.plan 114 18 = [(0, [], []), (1, [], []), (2, [], []), (3, [], []), (4, [], []), (5, [], []), (6, [], []), (7, [], []), (8, [], []), (9, [], []), (10, [], []), (11, [], []), (12, [], []), (13, [], []), (14, [], []), (15, [], [])] := by kernel_rfl
theorem plan114_21 : X.plan 114 21 = [(0, [], []), (1, [], []), (2, [], []), (3, [], []), (4, [], []), (5, [], []), (6, [], []), (7, [], []), (8, [], []), (9, [], []), (10, [], []), (11, [], []), (12, [], []), (13, [], []), (14, [], []), (15, [], [])] := by kernel_rfl
noncomputable def c116 : Code := (Try.f116.body).getD .skip
theorem body116 : X.body 116 = some (c116, 82, []) := by kernel_rfl
theorem slot116 : X.slot 116 = fun t => posT [] t 0 := rfl
theorem nslot116 : X.nslots 116 = 0 := rfl
theorem pin116 : X.pin 116 = none := rfl
theorem plan116_3 : X.plan 116 3 = [(0, [], []), (1, [], []), (2, [], []), (3, [], []), (4, [], []), (5, [], []), (6, [], []), (7, [], []), (8, [], []), (9, [], []), (10, [], []), (11, [], []), (12, [], []), (13, [], []), (14, [], []), (15, [], []), (16, [], []), (17, [], []), (18, [], []), (19, [], []), (20, [], []), (21, [], [])] := by kernel_rfl
theorem plan116_5 : X.plan 116 5 = [(0, [], []), (1, [], []), (2, [], []), (3, [], []), (4, [], []), (5, [], []), (6, [], []), (7, [], []), (8, [], []), (9, [], []), (10, [], []), (11, [], []), (12, [], []), (13, [], []), (14, [], []), (15, [], [])] := by kernel_rfl
theorem plan116_6 : X.plan 116 6 = [(0, [], []), (1, [], []), (2, [], []), (3, [], []), (4, [], []), (5, [], []), (6, [], []), (7, [], []), (8, [], []), (9, [], []), (10, [], []), (11, [], []), (12, [], []), (13, [], []), (14, [], []), (15, [], []), (16, [], []), (17, [], []), (18, [], []), (19, [], []), (20, [], []), (21, [], []), (22, [], []), (23, [], [])] := by kernel_rfl
noncomputable def c117 : Code := (Try.f117.body).getD .skip
theorem body117 : X.body 117 = some (c117, 7, [.tmp 2]) := by kernel_rfl
theorem slot117 : X.slot 117 = fun t => posT [] t 0 := rfl
theorem nslot117 : X.nslots 117 = 0 := rfl
theorem pin117 : X.pin 117 = none := rfl
noncomputable def c118 : Code := (Try.f118.body).getD .skip
theorem body118 : X.body 118 = some (c118, 33, [.tmp 2]) := by kernel_rfl
theorem slot118 : X.slot 118 = fun t => posT [] t 0 := rfl
theorem nslot118 : X.nslots 118 = 0 := rfl
theorem pin118 : X.pin 118 = none := rfl
theorem plan118_1 : X.plan 118 1 = [(0, [], []), (1, [], []), (2, [], []), (3, [], []), (4, [], []), (5, [], []), (6, [], []), (7, [], []), (8, [], []), (9, [], [])] := by kernel_rfl
theorem plan118_2 : X.plan 118 2 = [(0, [], []), (1, [], []), (2, [], []), (3, [], []), (4, [], []), (5, [], []), (6, [], []), (7, [], []), (8, [], []), (9, [], [])] := by kernel_rfl
theorem plan118_3 : X.plan 118 3 = [(0, [], []), (1, [], []), (2, [], []), (3, [], []), (4, [], []), (5, [], []), (6, [], []), (7, [], []), (8, [], []), (9, [], [])] := by kernel_rfl
noncomputable def c119 : Code := (Try.f119.body).getD .skip
theorem body119 : X.body 119 = some (c119, 18, [.tmp 8]) := by kernel_rfl
theorem slot119 : X.slot 119 = fun t => posT [] t 0 := rfl
theorem nslot119 : X.nslots 119 = 0 := rfl
theorem pin119 : X.pin 119 = none := rfl
noncomputable def c120 : Code := (Try.f120.body).getD .skip
theorem body120 : X.body 120 = some (c120, 41, [.tmp 12]) := by kernel_rfl
theorem slot120 : X.slot 120 = fun t => posT [] t 0 := rfl
theorem nslot120 : X.nslots 120 = 0 := rfl
theorem pin120 : X.pin 120 = none := rfl
noncomputable def c121 : Code := (Try.f121.body).getD .skip
theorem body121 : X.body 121 = some (c121, 32, [.tmp 10, .tmp 11]) := by kernel_rfl
theorem slot121 : X.slot 121 = fun t => posT [] t 0 := rfl
theorem nslot121 : X.nslots 121 = 0 := rfl
theorem pin121 : X.pin 121 = none := rfl
theorem plan121_1 : X.plan 121 1 = [(0, [], []), (1, [], []), (2, [], []), (3, [], []), (4, [], []), (5, [], []), (6, [], []), (7, [], []), (8, [], []), (9, [], []), (10, [], [])] := by kernel_rfl
end Go.Ev
namespace Go.Ev
theorem ty3 : X.ty 3 = ⟨(.int .i64), 1, 8, [(.int .i64 0)], true⟩ := by kernel_rfl
theorem ty4 : X.ty 4 = ⟨.bool, 1, 1, [(.bool false)], true⟩ := by kernel_rfl
theorem ty5 : X.ty 5 = ⟨(.int .u8), 1, 1, [(.int .u8 0)], true⟩ := by kernel_rfl
theorem ty9 : X.ty 9 = ⟨.str, 1, 16, [(.str ⟨#[]⟩)], true⟩ := by kernel_rfl
theorem ty22 : X.ty 22 = ⟨(.struct [(0, 3), (1, 3)]), 2, 16, [(.int .i64 0), (.int .i64 0)], true⟩ := by kernel_rfl
theorem ty23 : X.ty 23 = ⟨(.struct [(0, 3), (1, 3)]), 2, 16, [(.int .i64 0), (.int .i64 0)], true⟩ := by kernel_rfl
theorem ty24 : X.ty 24 = ⟨(.struct [(0, 3), (1, 3)]), 2, 16, [(.int .i64 0), (.int .i64 0)], true⟩ := by kernel_rfl
theorem ty25 : X.ty 25 = ⟨(.struct [(0, 3), (1, 3)]), 2, 16, [(.int .i64 0), (.int .i64 0)], true⟩ := by kernel_rfl
theorem ty26 : X.ty 26 = ⟨(.slice 9), 1, 24, [(.sl .nil 0 0 0)], true⟩ := by kernel_rfl
theorem ty27 : X.ty 27 = ⟨(.struct [(0, 3), (1, 3), (2, 3), (3, 3), (4, 3), (5, 26)]), 6, 64, [(.int .i64 0), (.int .i64 0), (.int .i64 0), (.int .i64 0), (.int .i64 0), (.sl .nil 0 0 0)], true⟩ := by kernel_rfl
theorem ty28 : X.ty 28 = ⟨(.struct [(0, 3), (1, 3), (2, 3), (3, 3), (4, 3), (5, 26)]), 6, 64, [(.int .i64 0), (.int .i64 0), (.int .i64 0), (.int .i64 0), (.int .i64 0), (.sl .nil 0 0 0)], true⟩ := by kernel_rfl
theorem ty29 : X.ty 29 = ⟨(.slice 23), 1, 24, [(.sl .nil 0 0 0)], true⟩ := by kernel_rfl
theorem ty30 : X.ty 30 = ⟨(.struct [(0, 23), (2, 25), (4, 25), (6, 3), (7, 4), (8, 28), (14, 3), (15, 29)]), 16, 160, [(.int .i64 0), (.int .i64 0), (.int .i64 0), (.int .i64 0), (.int .i64 0), (.int .i64 0), (.int .i64 0), (.bool false), (.int .i64 0), (.int .i64 0), (.int .i64 0), (.int .i64 0), (.int .i64 0), (.sl .nil 0 0 0), (.int .i64 0), (.sl .nil 0 0 0)], true⟩ := by kernel_rfl
theorem ty31 : X.ty 31 = ⟨(.struct [(0, 23), (2, 25), (4, 25), (6, 3), (7, 4), (8, 28), (14, 3), (15, 29)]), 16, 160, [(.int .i64 0), (.int .i64 0), (.int .i64 0), (.int .i64 0), (.int .i64 0), (.int .i64 0), (.int .i64 0), (.bool false), (.int .i64 0), (.int .i64 0), (.int .i64 0), (.int .i64 0), (.int .i64 0), (.sl .nil 0 0 0), (.int .i64 0), (.sl .nil 0 0 0)], true⟩ := by kernel_rfl
theorem ty36 : X.ty 36 = ⟨(.slice 28), 1, 24, [(.sl .nil 0 0 0)], true⟩ := by kernel_rfl
theorem ty37 : X.ty 37 = ⟨(.ptr 84), 1, 8, [.nilp], true⟩ := by kernel_rfl
theorem ty39 : X.ty 39 = ⟨(.slice 31), 1, 24, [(.sl .nil 0 0 0)], true⟩ := by kernel_rfl
theorem ty44 : X.ty 44 = ⟨(.int .i64), 1, 8, [(.int .i64 0)], true⟩ := by kernel_rfl
theorem ty68 : X.ty 68 = ⟨(.int .u64), 1, 8, [(.int .u64 0)], true⟩ := by kernel_rfl
theorem ty82 : X.ty 82 = ⟨(.map 23 31), 1, 8, [.nilm], true⟩ := by kernel_rfl
theorem ty83 : X.ty 83 = ⟨(.struct [(0, 82)]), 1, 8, [.nilm], true⟩ := by kernel_rfl
theorem ty84 : X.ty 84 = ⟨(.struct [(0, 82)]), 1, 8, [.nilm], true⟩ := by kernel_rfl
theorem ty85 : X.ty 85 = ⟨.func, 1, 8, [.nilFn], true⟩ := by kernel_rfl
theorem ty99 : X.ty 99 = ⟨(.int .u64), 1, 8, [(.int .u64 0)], true⟩ := by kernel_rfl
theorem ty102 : X.ty 102 = ⟨(.ptr 3), 1, 8, [.nilp], true⟩ := by kernel_rfl
theorem ty112 : X.ty 112 = ⟨(.struct [(0, 3), (1, 3)]), 2, 16, [(.int .i64 0), (.int .i64 0)], true⟩ := by kernel_rfl
theorem ty113 : X.ty 113 = ⟨(.struct [(0, 3), (1, 3)]), 2, 16, [(.int .i64 0), (.int .i64 0)], true⟩ := by kernel_rfl
theorem ty128 : X.ty 128 = ⟨(.slice 29), 1, 24, [(.sl .nil 0 0 0)], true⟩ := by kernel_rfl
theorem ty131 : X.ty 131 = ⟨.func, 1, 8, [.nilFn], true⟩ := by kernel_rfl
theorem ty139 : X.ty 139 = ⟨(.int .i64), 1, 8, [(.int .i64 0)], true⟩ := by kernel_rfl
theorem ty147 : X.ty 147 = ⟨(.int .u32), 1, 4, [(.int .u32 0)], true⟩ := by kernel_rfl
theorem ty148 : X.ty 148 = ⟨(.int .u64), 1, 8, [(.int .u64 0)], true⟩ := by kernel_rfl
end Go.Ev
set_option maxRecDepth 100000
namespace Go.Ev
open Go.Proofs
def In64 (n : Int) : Prop := -9223372036854775808 <= n /\ n <= 9223372036854775807
theorem in64_of {i : Int} (h : (Lit.int .i64 i).wf = true) : In64 i := by
  simp only [Lit.wf, IntKind.min, IntKind.max, IntKind.signed, IntKind.bits] at h
  simp at h
  unfold In64
  omega
theorem fits_int {h : Heap} {d : Nat} {cs : List V} (hf : Fits X.ty h (d + 1) 3 cs) : ∃ i, cs = [.int .i64 i] /\ In64 i := by
  unfold Fits at hf
  rw [ty3] at hf
  obtain ⟨i, rfl, h1⟩ := hf
  exact ⟨i, rfl, in64_of h1⟩
def Strs (h : Heap) (v : V) (l : List ByteArray) : Prop :=
  (∀ s ∈ l, s.size <= 9223372036854775807) /\ l.length <= 9223372036854775807 /\ ((v = .sl .nil 0 0 0 /\ l = []) \/ (v = .sl .any 0 0 1 /\ l = []) \/ ∃ b cap full, v = .sl (.at b 0 0) l.length cap 0 /\ l.length <= cap /\ cap <= 9223372036854775807 /\ h[b]? = some (.cells 0 false full) /\ full.length = cap /\ ∀ (i : Nat) (s : ByteArray), l[i]? = some s -> full[i]? = some (V.str s))
theorem fits_strs {h : Heap} {d : Nat} {cs : List V} (hf : Fits X.ty h (d + 2) 26 cs) : ∃ v l, cs = [v] /\ Strs h v l := by
  unfold Fits at hf
  rw [ty26] at hf
  have hmax : maxLen = 9223372036854775807 := by decide
  rw [hmax] at hf
  rcases hf with rfl | rfl | ⟨b, len, cap, full, rfl, h1, h2, h3, h4, h5, h6⟩
  · exact ⟨_, [], rfl, by simp, by decide, .inl ⟨rfl, rfl⟩⟩
  · exact ⟨_, [], rfl, by simp, by decide, .inr (.inl ⟨rfl, rfl⟩)⟩
  · have hsz : (X.ty 9).size = 1 := by rw [ty9]
    rw [hsz] at h5 h6
    have hs : ∀ i, i < cap -> ∃ s : ByteArray, full[i]? = some (V.str s) /\ s.size <= 9223372036854775807 := by
      intro i hi
      have h7 := h6 i hi
      unfold Fits at h7
      rw [ty9] at h7
      rw [hmax] at h7
      obtain ⟨s, h8, h9⟩ := h7
      refine ⟨s, ?_, h9⟩
      have := congrArg (fun l => l[0]?) h8
      simpa using this
    let g : Nat -> ByteArray := fun i => match full[i]? with | some (.str s) => s | _ => .empty
    have hg : ∀ i, i < cap -> full[i]? = some (V.str (g i)) /\ (g i).size <= 9223372036854775807 := by
      intro i hi
      obtain ⟨s, h7, h8⟩ := hs i hi
      simp only [g, h7]
      exact ⟨trivial, h8⟩
    refine ⟨_, (List.range len).map g, rfl, ?_, by rw [List.length_map, List.length_range]; omega, .inr (.inr ⟨b, cap, full, by simp, by simpa using h2, h3, h4, by simpa using h5, ?_⟩)⟩
    · intro s hm
      obtain ⟨i, hi, rfl⟩ := List.mem_map.1 hm
      have := List.mem_range.1 hi
      exact (hg i (by omega)).2
    · intro i s hi
      rw [List.getElem?_map] at hi
      cases hr : (List.range len)[i]? with
      | none => rw [hr] at hi; cases hi
      | some j =>
        rw [hr] at hi
        have hj : i < len := by have := (List.getElem?_eq_some_iff.1 hr).1; simpa using this
        have : j = i := by rw [List.getElem?_range hj] at hr; exact (Option.some.inj hr).symm
        subst this
        simp only [Option.map_some, Option.some.injEq] at hi
        subst hi
        exact (hg j (by omega)).1
theorem Strs.sl {h : Heap} {v : V} {l : List ByteArray} (hs : Strs h v l) : ∃ a len cap z, v = .sl a len cap z := by
  obtain ⟨_, _, ⟨rfl, _⟩ | ⟨rfl, _⟩ | ⟨b, cap, full, rfl, _⟩⟩ := hs
  · exact ⟨_, _, _, _, rfl⟩
  · exact ⟨_, _, _, _, rfl⟩
  · exact ⟨_, _, _, _, rfl⟩
theorem fits_cmd {h : Heap} {d : Nat} {cs : List V} (hf : Fits X.ty h (d + 3) 28 cs) :
    ∃ o c q f t v l, cs = [.int .i64 o, .int .i64 c, .int .i64 q, .int .i64 f, .int .i64 t, v] /\ In64 o /\ In64 c /\ In64 q /\ In64 f /\ In64 t /\ Strs h v l := by
  unfold Fits at hf
  rw [ty28] at hf
  obtain ⟨hl, hf⟩ := hf
  match cs, hl with
  | [c0, c1, c2, c3, c4, c5], _ =>
    obtain ⟨o, h0, i0⟩ := fits_int (hf (0, 3) (by simp))
    obtain ⟨c, h1, i1⟩ := fits_int (hf (1, 3) (by simp))
    obtain ⟨q, h2, i2⟩ := fits_int (hf (2, 3) (by simp))
    obtain ⟨f, h3, i3⟩ := fits_int (hf (3, 3) (by simp))
    obtain ⟨t, h4, i4⟩ := fits_int (hf (4, 3) (by simp))
    obtain ⟨v, l, h5, i5⟩ := fits_strs (hf (5, 26) (by simp))
    simp [ty3] at h0 h1 h2 h3 h4
    simp [ty26] at h5
    subst h0 h1 h2 h3 h4 h5
    exact ⟨o, c, q, f, t, _, l, rfl, i0, i1, i2, i3, i4, i5⟩
end Go.Ev
namespace Go.Ev
theorem G77 : (type_of% @ty3) /\ (type_of% @ty5) /\ (type_of% @ty9) /\ (type_of% @slot77) := ⟨@ty3, @ty5, @ty9, @slot77⟩
theorem G53 : (type_of% @ty3) /\ (type_of% @ty5) /\ (type_of% @ty9) /\ (type_of% @slot53) := ⟨@ty3, @ty5, @ty9, @slot53⟩
theorem G76 : (type_of% @ty4) /\ (type_of% @ty9) /\ (type_of% @slot76) := ⟨@ty4, @ty9, @slot76⟩
theorem G95 : (type_of% @ty3) /\ (type_of% @ty9) /\ (type_of% @ty26) /\ (type_of% @slot95) := ⟨@ty3, @ty9, @ty26, @slot95⟩
theorem G75 : (type_of% @ty3) /\ (type_of% @ty9) /\ (type_of% @ty26) /\ (type_of% @ty85) /\ (type_of% @slot75) := ⟨@ty3, @ty9, @ty26, @ty85, @slot75⟩
theorem G74 : (type_of% @ty3) /\ (type_of% @slot74) := ⟨@ty3, @slot74⟩
theorem G73 : (type_of% @ty3) /\ (type_of% @ty9) /\ (type_of% @ty26) /\ (type_of% @ty27) /\ (type_of% @ty28) /\ (type_of% @slot73) := ⟨@ty3, @ty9, @ty26, @ty27, @ty28, @slot73⟩
theorem G46 : (type_of% @ty3) /\ (type_of% @ty4) /\ (type_of% @ty9) /\ (type_of% @ty26) /\ (type_of% @ty27) /\ (type_of% @ty28) /\ (type_of% @ty85) /\ (type_of% @slot46) := ⟨@ty3, @ty4, @ty9, @ty26, @ty27, @ty28, @ty85, @slot46⟩
theorem G21 : (type_of% @ty3) /\ (type_of% @ty4) /\ (type_of% @ty9) /\ (type_of% @ty26) /\ (type_of% @ty27) /\ (type_of% @ty28) /\ (type_of% @slot21) := ⟨@ty3, @ty4, @ty9, @ty26, @ty27, @ty28, @slot21⟩
theorem G52 : (type_of% @ty3) /\ (type_of% @ty22) /\ (type_of% @ty23) /\ (type_of% @ty29) /\ (type_of% @slot52) /\ (type_of% @plan52_6) := ⟨@ty3, @ty22, @ty23, @ty29, @slot52, @plan52_6⟩
theorem G79 : (type_of% @ty3) /\ (type_of% @ty9) /\ (type_of% @ty26) /\ (type_of% @slot79) /\ (type_of% @plan79_6) := ⟨@ty3, @ty9, @ty26, @slot79, @plan79_6⟩
theorem G26 : (type_of% @ty3) /\ (type_of% @ty22) /\ (type_of% @ty23) /\ (type_of% @ty29) /\ (type_of% @slot26) := ⟨@ty3, @ty22, @ty23, @ty29, @slot26⟩
theorem G78 : (type_of% @ty3) /\ (type_of% @ty22) /\ (type_of% @ty23) /\ (type_of% @slot78) := ⟨@ty3, @ty22, @ty23, @slot78⟩
theorem G43 : (type_of% @ty3) /\ (type_of% @ty22) /\ (type_of% @ty23) /\ (type_of% @slot43) := ⟨@ty3, @ty22, @ty23, @slot43⟩
theorem G44 : (type_of% @ty3) /\ (type_of% @ty24) /\ (type_of% @ty25) /\ (type_of% @slot44) := ⟨@ty3, @ty24, @ty25, @slot44⟩
theorem G18 : (type_of% @ty3) /\ (type_of% @ty24) /\ (type_of% @ty25) /\ (type_of% @slot18) := ⟨@ty3, @ty24, @ty25, @slot18⟩
theorem G51 : (type_of% @ty3) /\ (type_of% @ty9) /\ (type_of% @ty26) /\ (type_of% @ty27) /\ (type_of% @ty28) /\ (type_of% @slot51) := ⟨@ty3, @ty9, @ty26, @ty27, @ty28, @slot51⟩
theorem G16 : (type_of% @ty3) /\ (type_of% @ty4) /\ (type_of% @ty9) /\ (type_of% @ty22) /\ (type_of% @ty23) /\ (type_of% @ty24) /\ (type_of% @ty25) /\ (type_of% @ty26) /\ (type_of% @ty27) /\ (type_of% @ty28) /\ (type_of% @ty29) /\ (type_of% @ty30) /\ (type_of% @ty31) /\ (type_of% @slot16) := ⟨@ty3, @ty4, @ty9, @ty22, @ty23, @ty24, @ty25, @ty26, @ty27, @ty28, @ty29, @ty30, @ty31, @slot16⟩
theorem G47 : (type_of% @ty3) /\ (type_of% @ty4) /\ (type_of% @ty22) /\ (type_of% @ty23) /\ (type_of% @ty29) /\ (type_of% @slot47) /\ (type_of% @plan47_4) := ⟨@ty3, @ty4, @ty22, @ty23, @ty29, @slot47, @plan47_4⟩
theorem G45 : (type_of% @ty3) /\ (type_of% @ty4) /\ (type_of% @ty9) /\ (type_of% @ty22) /\ (type_of% @ty23) /\ (type_of% @ty24) /\ (type_of% @ty25) /\ (type_of% @ty26) /\ (type_of% @ty27) /\ (type_of% @ty28) /\ (type_of% @ty29) /\ (type_of% @ty30) /\ (type_of% @ty31) /\ (type_of% @slot45) := ⟨@ty3, @ty4, @ty9, @ty22, @ty23, @ty24, @ty25, @ty26, @ty27, @ty28, @ty29, @ty30, @ty31, @slot45⟩
theorem G14 : (type_of% @ty3) /\ (type_of% @ty4) /\ (type_of% @ty9) /\ (type_of% @ty22) /\ (type_of% @ty23) /\ (type_of% @ty24) /\ (type_of% @ty25) /\ (type_of% @ty26) /\ (type_of% @ty27) /\ (type_of% @ty28) /\ (type_of% @ty29) /\ (type_of% @ty30) /\ (type_of% @ty31) /\ (type_of% @slot14) := ⟨@ty3, @ty4, @ty9, @ty22, @ty23, @ty24, @ty25, @ty26, @ty27, @ty28, @ty29, @ty30, @ty31, @slot14⟩
theorem G83 : (type_of% @ty9) /\ (type_of% @ty26) /\ (type_of% @slot83) := ⟨@ty9, @ty26, @slot83⟩
theorem G84 : (type_of% @ty3) /\ (type_of% @ty22) /\ (type_of% @ty23) /\ (type_of% @ty29) /\ (type_of% @slot84) := ⟨@ty3, @ty22, @ty23, @ty29, @slot84⟩
theorem G56 : (type_of% @ty3) /\ (type_of% @ty4) /\ (type_of% @ty9) /\ (type_of% @ty22) /\ (type_of% @ty23) /\ (type_of% @ty24) /\ (type_of% @ty25) /\ (type_of% @ty26) /\ (type_of% @ty27) /\ (type_of% @ty28) /\ (type_of% @ty29) /\ (type_of% @ty30) /\ (type_of% @ty31) /\ (type_of% @slot56) := ⟨@ty3, @ty4, @ty9, @ty22, @ty23, @ty24, @ty25, @ty26, @ty27, @ty28, @ty29, @ty30, @ty31, @slot56⟩
theorem G20 : (type_of% @ty3) /\ (type_of% @ty4) /\ (type_of% @ty9) /\ (type_of% @ty22) /\ (type_of% @ty23) /\ (type_of% @ty24) /\ (type_of% @ty25) /\ (type_of% @ty26) /\ (type_of% @ty27) /\ (type_of% @ty28) /\ (type_of% @ty29) /\ (type_of% @ty30) /\ (type_of% @ty31) /\ (type_of% @ty82) /\ (type_of% @ty83) /\ (type_of% @ty84) /\ (type_of% @slot20) := ⟨@ty3, @ty4, @ty9, @ty22, @ty23, @ty24, @ty25, @ty26, @ty27, @ty28, @ty29, @ty30, @ty31, @ty82, @ty83, @ty84, @slot20⟩
theorem G30 : (type_of% @ty3) /\ (type_of% @ty4) /\ (type_of% @ty9) /\ (type_of% @ty22) /\ (type_of% @ty23) /\ (type_of% @ty24) /\ (type_of% @ty25) /\ (type_of% @ty26) /\ (type_of% @ty27) /\ (type_of% @ty28) /\ (type_of% @ty29) /\ (type_of% @ty30) /\ (type_of% @ty31) /\ (type_of% @ty37) /\ (type_of% @ty82) /\ (type_of% @ty83) /\ (type_of% @ty84) /\ (type_of% @slot30) := ⟨@ty3, @ty4, @ty9, @ty22, @ty23, @ty24, @ty25, @ty26, @ty27, @ty28, @ty29, @ty30, @ty31, @ty37, @ty82, @ty83, @ty84, @slot30⟩
theorem G24 : (type_of% @ty3) /\ (type_of% @ty4) /\ (type_of% @ty9) /\ (type_of% @ty22) /\ (type_of% @ty23) /\ (type_of% @ty24) /\ (type_of% @ty25) /\ (type_of% @ty26) /\ (type_of% @ty27) /\ (type_of% @ty28) /\ (type_of% @ty29) /\ (type_of% @ty30) /\ (type_of% @ty31) /\ (type_of% @ty37) /\ (type_of% @ty82) /\ (type_of% @ty83) /\ (type_of% @ty84) /\ (type_of% @slot24) /\ (type_of% @plan24_5) /\ (type_of% @plan24_8) := ⟨@ty3, @ty4, @ty9, @ty22, @ty23, @ty24, @ty25, @ty26, @ty27, @ty28, @ty29, @ty30, @ty31, @ty37, @ty82, @ty83, @ty84, @slot24, @plan24_5, @plan24_8⟩
theorem G59 : (type_of% @ty3) /\ (type_of% @ty4) /\ (type_of% @ty9) /\ (type_of% @ty22) /\ (type_of% @ty23) /\ (type_of% @ty24) /\ (type_of% @ty25) /\ (type_of% @ty26) /\ (type_of% @ty27) /\ (type_of% @ty28) /\ (type_of% @ty29) /\ (type_of% @ty30) /\ (type_of% @ty31) /\ (type_of% @ty37) /\ (type_of% @ty82) /\ (type_of% @ty83) /\ (type_of% @ty84) /\ (type_of% @slot59) /\ (type_of% @plan59_4) := ⟨@ty3, @ty4, @ty9, @ty22, @ty23, @ty24, @ty25, @ty26, @ty27, @ty28, @ty29, @ty30, @ty31, @ty37, @ty82, @ty83, @ty84, @slot59, @plan59_4⟩
theorem G101 : (type_of% @ty3) /\ (type_of% @ty112) /\ (type_of% @ty113) /\ (type_of% @slot101) := ⟨@ty3, @ty112, @ty113, @slot101⟩
theorem G82 : (type_of% @ty3) /\ (type_of% @slot82) := ⟨@ty3, @slot82⟩
theorem G102 : (type_of% @ty3) /\ (type_of% @ty112) /\ (type_of% @ty113) /\ (type_of% @slot102) := ⟨@ty3, @ty112, @ty113, @slot102⟩
theorem G81 : (type_of% @ty3) /\ (type_of% @ty4) /\ (type_of% @ty112) /\ (type_of% @ty113) /\ (type_of% @slot81) := ⟨@ty3, @ty4, @ty112, @ty113, @slot81⟩
theorem G55 : (type_of% @ty3) /\ (type_of% @ty4) /\ (type_of% @ty9) /\ (type_of% @ty26) /\ (type_of% @ty27) /\ (type_of% @ty28) /\ (type_of% @ty112) /\ (type_of% @ty113) /\ (type_of% @slot55) := ⟨@ty3, @ty4, @ty9, @ty26, @ty27, @ty28, @ty112, @ty113, @slot55⟩
theorem G25 : (type_of% @ty3) /\ (type_of% @ty4) /\ (type_of% @ty9) /\ (type_of% @ty26) /\ (type_of% @ty27) /\ (type_of% @ty28) /\ (type_of% @slot25) /\ (type_of% @plan25_5) := ⟨@ty3, @ty4, @ty9, @ty26, @ty27, @ty28, @slot25, @plan25_5⟩
theorem G12 : (type_of% @ty3) /\ (type_of% @ty4) /\ (type_of% @ty9) /\ (type_of% @ty22) /\ (type_of% @ty23) /\ (type_of% @ty24) /\ (type_of% @ty25) /\ (type_of% @ty26) /\ (type_of% @ty27) /\ (type_of% @ty28) /\ (type_of% @ty29) /\ (type_of% @ty30) /\ (type_of% @ty31) /\ (type_of% @slot12) := ⟨@ty3, @ty4, @ty9, @ty22, @ty23, @ty24, @ty25, @ty26, @ty27, @ty28, @ty29, @ty30, @ty31, @slot12⟩
theorem G3 : (type_of% @ty3) /\ (type_of% @ty4) /\ (type_of% @ty9) /\ (type_of% @ty22) /\ (type_of% @ty23) /\ (type_of% @ty24) /\ (type_of% @ty25) /\ (type_of% @ty26) /\ (type_of% @ty27) /\ (type_of% @ty28) /\ (type_of% @ty29) /\ (type_of% @ty30) /\ (type_of% @ty31) /\ (type_of% @slot3) /\ (type_of% @plan3_3) := ⟨@ty3, @ty4, @ty9, @ty22, @ty23, @ty24, @ty25, @ty26, @ty27, @ty28, @ty29, @ty30, @ty31, @slot3, @plan3_3⟩
theorem G22 : (type_of% @ty3) /\ (type_of% @ty4) /\ (type_of% @ty9) /\ (type_of% @ty22) /\ (type_of% @ty23) /\ (type_of% @ty24) /\ (type_of% @ty25) /\ (type_of% @ty26) /\ (type_of% @ty27) /\ (type_of% @ty28) /\ (type_of% @ty29) /\ (type_of% @ty30) /\ (type_of% @ty31) /\ (type_of% @ty37) /\ (type_of% @ty82) /\ (type_of% @ty83) /\ (type_of% @ty84) /\ (type_of% @slot22) := ⟨@ty3, @ty4, @ty9, @ty22, @ty23, @ty24, @ty25, @ty26, @ty27, @ty28, @ty29, @ty30, @ty31, @ty37, @ty82, @ty83, @ty84, @slot22⟩
theorem G6 : (type_of% @ty3) /\ (type_of% @ty4) /\ (type_of% @ty9) /\ (type_of% @ty22) /\ (type_of% @ty23) /\ (type_of% @ty24) /\ (type_of% @ty25) /\ (type_of% @ty26) /\ (type_of% @ty27) /\ (type_of% @ty28) /\ (type_of% @ty29) /\ (type_of% @ty30) /\ (type_of% @ty31) /\ (type_of% @ty37) /\ (type_of% @ty39) /\ (type_of% @ty82) /\ (type_of% @ty83) /\ (type_of% @ty84) /\ (type_of% @slot6) := ⟨@ty3, @ty4, @ty9, @ty22, @ty23, @ty24, @ty25, @ty26, @ty27, @ty28, @ty29, @ty30, @ty31, @ty37, @ty39, @ty82, @ty83, @ty84, @slot6⟩
theorem G23 : (type_of% @ty3) /\ (type_of% @ty4) /\ (type_of% @ty9) /\ (type_of% @ty22) /\ (type_of% @ty23) /\ (type_of% @ty24) /\ (type_of% @ty25) /\ (type_of% @ty26) /\ (type_of% @ty27) /\ (type_of% @ty28) /\ (type_of% @ty29) /\ (type_of% @ty30) /\ (type_of% @ty31) /\ (type_of% @ty37) /\ (type_of% @ty82) /\ (type_of% @ty83) /\ (type_of% @ty84) /\ (type_of% @slot23) /\ (type_of% @plan23_8) := ⟨@ty3, @ty4, @ty9, @ty22, @ty23, @ty24, @ty25, @ty26, @ty27, @ty28, @ty29, @ty30, @ty31, @ty37, @ty82, @ty83, @ty84, @slot23, @plan23_8⟩
theorem G31 : (type_of% @ty3) /\ (type_of% @ty4) /\ (type_of% @ty9) /\ (type_of% @ty22) /\ (type_of% @ty23) /\ (type_of% @ty24) /\ (type_of% @ty25) /\ (type_of% @ty26) /\ (type_of% @ty27) /\ (type_of% @ty28) /\ (type_of% @ty29) /\ (type_of% @ty30) /\ (type_of% @ty31) /\ (type_of% @ty37) /\ (type_of% @ty82) /\ (type_of% @ty83) /\ (type_of% @ty84) /\ (type_of% @slot31) := ⟨@ty3, @ty4, @ty9, @ty22, @ty23, @ty24, @ty25, @ty26, @ty27, @ty28, @ty29, @ty30, @ty31, @ty37, @ty82, @ty83, @ty84, @slot31⟩
theorem G5 : (type_of% @ty3) /\ (type_of% @ty4) /\ (type_of% @ty9) /\ (type_of% @ty22) /\ (type_of% @ty23) /\ (type_of% @ty24) /\ (type_of% @ty25) /\ (type_of% @ty26) /\ (type_of% @ty27) /\ (type_of% @ty28) /\ (type_of% @ty29) /\ (type_of% @ty30) /\ (type_of% @ty31) /\ (type_of% @ty37) /\ (type_of% @ty39) /\ (type_of% @ty82) /\ (type_of% @ty83) /\ (type_of% @ty84) /\ (type_of% @slot5) := ⟨@ty3, @ty4, @ty9, @ty22, @ty23, @ty24, @ty25, @ty26, @ty27, @ty28, @ty29, @ty30, @ty31, @ty37, @ty39, @ty82, @ty83, @ty84, @slot5⟩
theorem G4 : (type_of% @ty3) /\ (type_of% @ty4) /\ (type_of% @ty9) /\ (type_of% @ty22) /\ (type_of% @ty23) /\ (type_of% @ty24) /\ (type_of% @ty25) /\ (type_of% @ty26) /\ (type_of% @ty27) /\ (type_of% @ty28) /\ (type_of% @ty29) /\ (type_of% @ty30) /\ (type_of% @ty31) /\ (type_of% @ty36) /\ (type_of% @ty37) /\ (type_of% @ty39) /\ (type_of% @ty44) /\ (type_of% @ty82) /\ (type_of% @ty83) /\ (type_of% @ty84) /\ (type_of% @slot4) := ⟨@ty3, @ty4, @ty9, @ty22, @ty23, @ty24, @ty25, @ty26, @ty27, @ty28, @ty29, @ty30, @ty31, @ty36, @ty37, @ty39, @ty44, @ty82, @ty83, @ty84, @slot4⟩
end Go.Ev
set_option maxRecDepth 100000
namespace Go.Ev
open Go.Ev renaming exPure -> Ja, ofValue -> Jb, cellsV -> Jc, load -> Jd, store -> Je, binOp -> Jf, intOp -> Jg, rdV -> Jh, vsame -> Ji, vsames -> Jj, makeSliceV -> Jk, resV -> Jl, isCell -> Jm, nilCheckV -> Jn, allV -> Jo, builtinV -> Jp, lenV -> Jq, indexAddrV -> Jr, unOp -> Js, minmaxV -> Jt, minmax -> Ju, sliceV -> Jv, asInt -> Jw, appendV -> Jx, copyV -> Jy, clearV -> Jz, convV -> J0, sliceCells -> J1, shift -> J2
open Bool renaming true -> BT, false -> BF
open Nat renaming reduceEqDiff -> J3, reduceLT -> J4, reduceAdd -> J5, reduceBEq -> J6, reduceSub -> J7, reduceMul -> J8, reduceLeDiff -> JG
open Int renaming reduceLT -> J9, reduceLE -> JA, reduceAdd -> JB, reduceSub -> JC, reduceNeg -> JD, reduceToNat -> JE, reduceEq -> JF
open Go.Proofs
def textB (s : ByteArray) : Bool := decide ((s.size : Int) <= 4096) && (decide (s.size = 0) || match s.data.toList[s.size - 1]? with | some c => !decide ((c.toNat : Int) = 0) | none => false)
theorem textB_0 {s : ByteArray} (h : s.size = 0) : textB s = true := by
  unfold textB
  rw [h]
  rfl
theorem textB_1 {s : ByteArray} (h : s.size ≠ 0) {c : UInt8} (hc : s.data.toList[s.size - 1]? = some c) : textB s = (decide ((s.size : Int) <= 4096) && !decide ((c.toNat : Int) = 0)) := by
  unfold textB
  rw [hc, decide_eq_false h, Bool.false_or]
theorem strEq_nil (s : ByteArray) : strEq s ⟨#[]⟩ = decide (s.size = 0) := by
  unfold strEq
  apply decide_eq_decide.2
  have e : s.size = s.data.toList.length := rfl
  rw [e]
  exact ⟨fun h => by rw [h]; rfl, fun h => List.length_eq_zero_iff.1 h⟩
theorem byte_last {s : ByteArray} (h : s.size ≠ 0) : ∃ c, s.data.toList[s.size - 1]? = some c := by
  have : s.size - 1 < s.data.toList.length := by rw [Array.length_toList]; have : s.size = s.data.size := rfl; omega
  exact ⟨_, List.getElem?_eq_getElem this⟩
theorem isText_at (s : ByteArray) (h : Heap) : D X (.fn 77 []) [.str s] h = some (.bool (textB s), h) := by
  refine Ok.eq ?_
  by_cases h0 : s.size = 0
  · have ht := textB_0 h0
    (refine Ok.body body77 pin77 ?_; simp only [c77, Try.f77, Option.getD_some, nslot77, List.append_nil, List.map, List.replicate, List.length_cons, List.length_nil, Nat.reduceAdd, Nat.reduceSub, List.cons_append, List.nil_append])
    (repeat' (first | (simp -implicitDefEqProofs (maxSteps := 1000000) (disch := first | assumption | omega | (simp only [ZDI]; omega)) only [*, strEq_nil, G77, Za, Zb, Zc, Zd, Ze, Zf, Zg, Zh, Zi, Zj, Zk, Zl, Zm, Zn, Zo, Ja, Jb, Jc, J3, Jd, Je, J4, J5, Jf, Jg, Jh, Ji, Jj, Jk, J6, Jl, Jm, wr, Jn, J7, J8, Jo, Jp, Jq, Jr, Js, Jt, Ju, Jv, Jw, Jx, Jy, Jz, J0, J1, J2, reduceCtorEq, J9, JA, JB, JC, JD, JE, JF, JG]) | ((with_reducible (first | apply Ok.br | apply Ok.gd | apply Ok.ld)) <;> (intro g; (try simp only [ZGS] at g); try (exfalso; omega)))))
    all_goals omega
  · obtain ⟨c, hc⟩ := byte_last h0
    have ht := textB_1 h0 hc
    have h1 : ¬ (s.size : Int) = 0 := by omega
    have e1 : ((s.size : Int) - 1).toNat = s.size - 1 := by omega
    (refine Ok.body body77 pin77 ?_; simp only [c77, Try.f77, Option.getD_some, nslot77, List.append_nil, List.map, List.replicate, List.length_cons, List.length_nil, Nat.reduceAdd, Nat.reduceSub, List.cons_append, List.nil_append])
    (repeat' (first | (simp -implicitDefEqProofs (maxSteps := 1000000) (disch := first | assumption | omega | (simp only [ZDI]; omega)) only [*, strEq_nil, indexV, G77, Za, Zb, Zc, Zd, Ze, Zf, Zg, Zh, Zi, Zj, Zk, Zl, Zm, Zn, Zo, Ja, Jb, Jc, J3, Jd, Je, J4, J5, Jf, Jg, Jh, Ji, Jj, Jk, J6, Jl, Jm, wr, Jn, J7, J8, Jo, Jp, Jq, Jr, Js, Jt, Ju, Jv, Jw, Jx, Jy, Jz, J0, J1, J2, reduceCtorEq, J9, JA, JB, JC, JD, JE, JF, JG]) | ((with_reducible (first | apply Ok.br | apply Ok.gd | apply Ok.ld)) <;> (intro g; (try simp only [ZGS] at g); try (exfalso; omega)))))
theorem rIsText_at (s : ByteArray) (h : Heap) : D X (.fn 53 []) [.str s] h = some (.bool (textB s), h) := by
  refine Ok.eq ?_
  by_cases h0 : s.size = 0
  · have ht := textB_0 h0
    (refine Ok.body body53 pin53 ?_; simp only [c53, Try.f53, Option.getD_some, nslot53, List.append_nil, List.map, List.replicate, List.length_cons, List.length_nil, Nat.reduceAdd, Nat.reduceSub, List.cons_append, List.nil_append])
    (repeat' (first | (simp -implicitDefEqProofs (maxSteps := 1000000) (disch := first | assumption | omega | (simp only [ZDI]; omega)) only [*, Int.natCast_zero, G53, Za, Zb, Zc, Zd, Ze, Zf, Zg, Zh, Zi, Zj, Zk, Zl, Zm, Zn, Zo, Ja, Jb, Jc, J3, Jd, Je, J4, J5, Jf, Jg, Jh, Ji, Jj, Jk, J6, Jl, Jm, wr, Jn, J7, J8, Jo, Jp, Jq, Jr, Js, Jt, Ju, Jv, Jw, Jx, Jy, Jz, J0, J1, J2, reduceCtorEq, J9, JA, JB, JC, JD, JE, JF, JG]) | ((with_reducible (first | apply Ok.br | apply Ok.gd | apply Ok.ld)) <;> (intro g; (try simp only [ZGS] at g); try (exfalso; omega)))))
    all_goals omega
  · obtain ⟨c, hc⟩ := byte_last h0
    have ht := textB_1 h0 hc
    have h1 : ¬ (s.size : Int) = 0 := by omega
    have e1 : ((s.size : Int) - 1).toNat = s.size - 1 := by omega
    (refine Ok.body body53 pin53 ?_; simp only [c53, Try.f53, Option.getD_some, nslot53, List.append_nil, List.map, List.replicate, List.length_cons, List.length_nil, Nat.reduceAdd, Nat.reduceSub, List.cons_append, List.nil_append])
    (repeat' (first | (simp -implicitDefEqProofs (maxSteps := 1000000) (disch := first | assumption | omega | (simp only [ZDI]; omega)) only [*, indexV, G53, Za, Zb, Zc, Zd, Ze, Zf, Zg, Zh, Zi, Zj, Zk, Zl, Zm, Zn, Zo, Ja, Jb, Jc, J3, Jd, Je, J4, J5, Jf, Jg, Jh, Ji, Jj, Jk, J6, Jl, Jm, wr, Jn, J7, J8, Jo, Jp, Jq, Jr, Js, Jt, Ju, Jv, Jw, Jx, Jy, Jz, J0, J1, J2, reduceCtorEq, J9, JA, JB, JC, JD, JE, JF, JG]) | ((with_reducible (first | apply Ok.br | apply Ok.gd | apply Ok.ld)) <;> (intro g; (try simp only [ZGS] at g); try (exfalso; omega)))))
theorem notText_at (s : ByteArray) (h : Heap) : D X (.fn 76 []) [.str s] h = some (.bool (!textB s), h) := by
  refine Ok.eq ?_
  (refine Ok.body body76 pin76 ?_; simp only [c76, Try.f76, Option.getD_some, nslot76, List.append_nil, List.map, List.replicate, List.length_cons, List.length_nil, Nat.reduceAdd, Nat.reduceSub, List.cons_append, List.nil_append])
  (repeat' (first | (simp -implicitDefEqProofs (maxSteps := 1000000) (disch := first | assumption | omega | (simp only [ZDI]; omega)) only [*, isText_at, G76, Za, Zb, Zc, Zd, Ze, Zf, Zg, Zh, Zi, Zj, Zk, Zl, Zm, Zn, Zo, Ja, Jb, Jc, J3, Jd, Je, J4, J5, Jf, Jg, Jh, Ji, Jj, Jk, J6, Jl, Jm, wr, Jn, J7, J8, Jo, Jp, Jq, Jr, Js, Jt, Ju, Jv, Jw, Jx, Jy, Jz, J0, J1, J2, reduceCtorEq, J9, JA, JB, JC, JD, JE, JF, JG]) | ((with_reducible (first | apply Ok.br | apply Ok.gd | apply Ok.ld)) <;> (intro g; (try simp only [ZGS] at g); try (exfalso; omega)))))
def StrsAt (h : Heap) (v : V) (l : List ByteArray) : Prop :=
  ∃ a cap z, v = .sl a l.length cap z /\ l.length <= 9223372036854775807 /\ True /\ (l = [] \/ ∃ b g o rw full, a = .at b g o /\ hcells h b g = some (rw, full) /\ ∀ (i : Nat) (s : ByteArray), l[i]? = some s -> full[o + i]? = some (.str s))
theorem Strs.at {h : Heap} {v : V} {l : List ByteArray} (hs : Strs h v l) : StrsAt h v l := by
  obtain ⟨h1, h2, ⟨rfl, rfl⟩ | ⟨rfl, rfl⟩ | ⟨b, cap, full, rfl, h3, h4, h5, h6, h7⟩⟩ := hs
  · exact ⟨_, _, _, rfl, h2, trivial, .inl rfl⟩
  · exact ⟨_, _, _, rfl, h2, trivial, .inl rfl⟩
  · refine ⟨_, _, _, rfl, h2, trivial, .inr ⟨b, 0, 0, false, full, rfl, by unfold hcells; rw [h5]; exact grd_t rfl _, fun i s hi => by rw [Nat.zero_add]; exact h7 i s hi⟩⟩
theorem indexFunc_at {h : Heap} {a : SA} {cap z : Nat} {l : List ByteArray} (hl : l.length <= 9223372036854775807)
    (ha : l = [] \/ ∃ b g o rw full, a = .at b g o /\ hcells h b g = some (rw, full) /\ ∀ (i : Nat) (s : ByteArray), l[i]? = some s -> full[o + i]? = some (.str s))
    {f : FuncId} {cp : List V} (p : ByteArray -> Bool) (hp : ∀ s, D X (.fn f cp) [.str s] h = some (.bool (p s), h)) :
    Ok (D X (.fn 95 []) [.sl a l.length cap z, .fn f cp] h) fun r => ∃ n : Int, r = (.int .i64 n, h) /\ (0 <= n ↔ l.any p = true) := by
  refine Ok.aim fun Q hQ => ?_
  have hQ' := Hid.mk hQ
  clear hQ
  (refine Ok.body body95 pin95 ?_; simp only [c95, Try.f95, Option.getD_some, nslot95, List.append_nil, List.map, List.replicate, List.length_cons, List.length_nil, Nat.reduceAdd, Nat.reduceSub, List.cons_append, List.nil_append])
  simp -implicitDefEqProofs (maxSteps := 1000000) (disch := first | assumption | omega | (simp only [ZDI]; omega)) only [*, G95, Za, Zb, Zc, Zd, Ze, Zf, Zg, Zh, Zi, Zj, Zk, Zl, Zm, Zn, Zo, Ja, Jb, Jc, J3, Jd, Je, J4, J5, Jf, Jg, Jh, Ji, Jj, Jk, J6, Jl, Jm, wr, Jn, J7, J8, Jo, Jp, Jq, Jr, Js, Jt, Ju, Jv, Jw, Jx, Jy, Jz, J0, J1, J2, reduceCtorEq, J9, JA, JB, JC, JD, JE, JF, JG]
  refine Ok.loop [BF, BF, BF, BF, BT, BT, BF, BF, BT, BT, BT, BT, BT, BT, BT, BT, BT, BT, BT] (fun n s => ∃ i : Nat, n = l.length - i /\ i <= l.length /\ tv s.e 8 = .v (.int .i64 i) /\ s.l = [] /\ s.h = h /\ ∀ (j : Nat) (s : ByteArray), j < i -> l[j]? = some s -> p s = false)
    (fun x s => s.l = [] /\ s.h = h /\ ((x = .exit 0 /\ l.any p = false) \/ (x = .ret /\ l.any p = true /\ ∃ i : Nat, tv s.e 4 = .v (.int .i64 i)))) (l.length - 0) ⟨0, rfl, by omega, rfl, rfl, rfl, fun j s hj => by omega⟩ ?_ ?_
  · intro n ⟨e', l', h'⟩ hW ⟨i, hn, hi, h8, h1, h2, hno⟩
    dsimp only at hW h8 h1 h2
    subst l' h'
    rw [hW.spread]
    simp only [spread_t, spread_f, spread_n, Nat.zero_add, Nat.reduceAdd, h8]
    by_cases hlt : i < l.length
    · rcases ha with rfl | ⟨b, g, o, rw, full, rfl, hb, hfull⟩
      · simp at hlt
      · obtain ⟨s, hs⟩ : ∃ s, l[i]? = some s := ⟨_, List.getElem?_eq_getElem hlt⟩
        have hf := hfull i s hs
        have hfn := hp s
        cases hps : p s with
        | true =>
          rw [hps] at hfn
          simp -implicitDefEqProofs (maxSteps := 1000000) (disch := first | assumption | omega | (simp only [ZDI]; omega)) only [*, Int.ofNat_lt, Int.natCast_nonneg, G95, Za, Zb, Zc, Zd, Ze, Zf, Zg, Zh, Zi, Zj, Zk, Zl, Zm, Zn, Zo, Ja, Jb, Jc, J3, Jd, Je, J4, J5, Jf, Jg, Jh, Ji, Jj, Jk, J6, Jl, Jm, wr, Jn, J7, J8, Jo, Jp, Jq, Jr, Js, Jt, Ju, Jv, Jw, Jx, Jy, Jz, J0, J1, J2, reduceCtorEq, J9, JA, JB, JC, JD, JE, JF, JG]
          exact Turn.ret ⟨rfl, rfl, rfl, .inr ⟨rfl, List.any_eq_true.2 ⟨s, List.mem_of_getElem? hs, hps⟩, i, rfl⟩⟩
        | false =>
          rw [hps] at hfn
          simp -implicitDefEqProofs (maxSteps := 1000000) (disch := first | assumption | omega | (simp only [ZDI]; omega)) only [*, Int.ofNat_lt, Int.natCast_nonneg, G95, Za, Zb, Zc, Zd, Ze, Zf, Zg, Zh, Zi, Zj, Zk, Zl, Zm, Zn, Zo, Ja, Jb, Jc, J3, Jd, Je, J4, J5, Jf, Jg, Jh, Ji, Jj, Jk, J6, Jl, Jm, wr, Jn, J7, J8, Jo, Jp, Jq, Jr, Js, Jt, Ju, Jv, Jw, Jx, Jy, Jz, J0, J1, J2, reduceCtorEq, J9, JA, JB, JC, JD, JE, JF, JG]
          refine Turn.next (l.length - (i + 1)) (by omega) ⟨rfl, i + 1, rfl, by omega, rfl, rfl, rfl, fun j s' hj hs' => ?_⟩
          by_cases hji : j = i
          · subst hji
            rw [hs] at hs'
            cases hs'
            exact hps
          · exact hno j s' (by omega) hs'
    · simp -implicitDefEqProofs (maxSteps := 1000000) (disch := first | assumption | omega | (simp only [ZDI]; omega)) only [*, Int.ofNat_lt, G95, Za, Zb, Zc, Zd, Ze, Zf, Zg, Zh, Zi, Zj, Zk, Zl, Zm, Zn, Zo, Ja, Jb, Jc, J3, Jd, Je, J4, J5, Jf, Jg, Jh, Ji, Jj, Jk, J6, Jl, Jm, wr, Jn, J7, J8, Jo, Jp, Jq, Jr, Js, Jt, Ju, Jv, Jw, Jx, Jy, Jz, J0, J1, J2, reduceCtorEq, J9, JA, JB, JC, JD, JE, JF, JG]
      refine Turn.exit ⟨rfl, rfl, rfl, .inl ⟨rfl, ?_⟩⟩
      rw [List.any_eq_false]
      intro s hs
      obtain ⟨j, hj⟩ := List.getElem?_of_mem hs
      have := (List.getElem?_eq_some_iff.1 hj).1
      rw [hno j s (by omega) hj]
      simp
  · intro x ⟨e', l', h'⟩ hW ⟨h1, h2, hE⟩
    dsimp only at hW h1 h2 hE
    subst l' h'
    rw [hW.spread]
    rcases hE with ⟨rfl, hany⟩ | ⟨rfl, hany, i, h4⟩
    · simp only [spread_t, spread_f, spread_n, Nat.zero_add, Nat.reduceAdd]
      simp -implicitDefEqProofs (maxSteps := 1000000) (disch := first | assumption | omega | (simp only [ZDI]; omega)) only [*, Int.ofNat_lt, G95, Za, Zb, Zc, Zd, Ze, Zf, Zg, Zh, Zi, Zj, Zk, Zl, Zm, Zn, Zo, Ja, Jb, Jc, J3, Jd, Je, J4, J5, Jf, Jg, Jh, Ji, Jj, Jk, J6, Jl, Jm, wr, Jn, J7, J8, Jo, Jp, Jq, Jr, Js, Jt, Ju, Jv, Jw, Jx, Jy, Jz, J0, J1, J2, reduceCtorEq, J9, JA, JB, JC, JD, JE, JF, JG]
      exact hQ'.out _ ⟨-1, rfl, by rw [hany]; simp⟩
    · simp only [spread_t, spread_f, spread_n, Nat.zero_add, Nat.reduceAdd, h4]
      simp -implicitDefEqProofs (maxSteps := 1000000) (disch := first | assumption | omega | (simp only [ZDI]; omega)) only [*, Int.ofNat_lt, G95, Za, Zb, Zc, Zd, Ze, Zf, Zg, Zh, Zi, Zj, Zk, Zl, Zm, Zn, Zo, Ja, Jb, Jc, J3, Jd, Je, J4, J5, Jf, Jg, Jh, Ji, Jj, Jk, J6, Jl, Jm, wr, Jn, J7, J8, Jo, Jp, Jq, Jr, Js, Jt, Ju, Jv, Jw, Jx, Jy, Jz, J0, J1, J2, reduceCtorEq, J9, JA, JB, JC, JD, JE, JF, JG]
      exact hQ'.out _ ⟨i, rfl, by simp [hany]⟩
theorem containsFunc_at {h : Heap} {v : V} {l : List ByteArray} (hv : StrsAt h v l) {f : FuncId} {cp : List V} (p : ByteArray -> Bool) (hp : ∀ s, D X (.fn f cp) [.str s] h = some (.bool (p s), h)) :
    D X (.fn 75 []) [v, .fn f cp] h = some (.bool (l.any p), h) := by
  refine Ok.eq ?_
  obtain ⟨a, cap, z, rfl, hl, _, ha⟩ := hv
  obtain ⟨r, hr, n, rfl, hn⟩ := indexFunc_at (cap := cap) (z := z) hl ha p hp
  clear hp
  (refine Ok.body body75 pin75 ?_; simp only [c75, Try.f75, Option.getD_some, nslot75, List.append_nil, List.map, List.replicate, List.length_cons, List.length_nil, Nat.reduceAdd, Nat.reduceSub, List.cons_append, List.nil_append])
  simp -implicitDefEqProofs (maxSteps := 1000000) (disch := first | assumption | omega | (simp only [ZDI]; omega)) only [*, G75, Za, Zb, Zc, Zd, Ze, Zf, Zg, Zh, Zi, Zj, Zk, Zl, Zm, Zn, Zo, Ja, Jb, Jc, J3, Jd, Je, J4, J5, Jf, Jg, Jh, Ji, Jj, Jk, J6, Jl, Jm, wr, Jn, J7, J8, Jo, Jp, Jq, Jr, Js, Jt, Ju, Jv, Jw, Jx, Jy, Jz, J0, J1, J2, reduceCtorEq, J9, JA, JB, JC, JD, JE, JF, JG]
  have e : decide (0 <= n) = l.any p := by
    cases hb : l.any p
    · rw [hb] at hn; simpa using hn
    · rw [hb] at hn; simpa using hn
  simp only [Bool.decide_eq_true]
theorem isClients_at (o : Int) (h : Heap) : D X (.fn 74 []) [.int .i64 o] h = some (.bool (decide (1 <= o /\ o <= 4)), h) := by
  refine Ok.eq ?_
  (refine Ok.body body74 pin74 ?_; simp only [c74, Try.f74, Option.getD_some, nslot74, List.append_nil, List.map, List.replicate, List.length_cons, List.length_nil, Nat.reduceAdd, Nat.reduceSub, List.cons_append, List.nil_append])
  (repeat' (first | (simp -implicitDefEqProofs (maxSteps := 1000000) (disch := first | assumption | omega | (simp only [ZDI]; omega)) only [*, G74, Za, Zb, Zc, Zd, Ze, Zf, Zg, Zh, Zi, Zj, Zk, Zl, Zm, Zn, Zo, Ja, Jb, Jc, J3, Jd, Je, J4, J5, Jf, Jg, Jh, Ji, Jj, Jk, J6, Jl, Jm, wr, Jn, J7, J8, Jo, Jp, Jq, Jr, Js, Jt, Ju, Jv, Jw, Jx, Jy, Jz, J0, J1, J2, reduceCtorEq, J9, JA, JB, JC, JD, JE, JF, JG]) | ((with_reducible (first | apply Ok.br | apply Ok.gd | apply Ok.ld)) <;> (intro g; (try simp only [ZGS] at g); try (exfalso; omega)))))
  all_goals (first | rfl | (exfalso; omega) | exact leaf_t (by (try simp only [Bool.and_eq_true, Bool.or_eq_true, decide_eq_true_eq, Bool.not_eq_true', decide_eq_false_iff_not, Bool.false_eq_true, Bool.true_eq_false, Bool.not_false, Bool.not_true, eq_self, iff_true, iff_false, true_iff, false_iff, false_or, true_or, or_false, or_true, true_and, and_true, false_and, and_false, not_true_eq_false, not_false_eq_true]); (first | done | omega)) | exact leaf_f (by (try simp only [Bool.and_eq_true, Bool.or_eq_true, decide_eq_true_eq, Bool.not_eq_true', decide_eq_false_iff_not, Bool.false_eq_true, Bool.true_eq_false, Bool.not_false, Bool.not_true, eq_self, iff_true, iff_false, true_iff, false_iff, false_or, true_or, or_false, or_true, true_and, and_true, false_and, and_false, not_true_eq_false, not_false_eq_true]); (first | done | omega)) | exact leaf_b (by (try simp only [Bool.and_eq_true, Bool.or_eq_true, decide_eq_true_eq, Bool.not_eq_true', decide_eq_false_iff_not, Bool.false_eq_true, Bool.true_eq_false, Bool.not_false, Bool.not_true, eq_self, iff_true, iff_false, true_iff, false_iff, false_or, true_or, or_false, or_true, true_and, and_true, false_and, and_false, not_true_eq_false, not_false_eq_true]); (first | done | omega)))
theorem plain_at (o c q f t : Int) (a : SA) (n cap z : Nat) (h : Heap) : D X (.fn 73 []) [.agg [.int .i64 o, .int .i64 c, .int .i64 q, .int .i64 f, .int .i64 t, .sl a n cap z]] h = some (.bool (decide (c = 0 /\ q = 0 /\ f = 0 /\ t = 0 /\ (n : Int) = 0)), h) := by
  refine Ok.eq ?_
  (refine Ok.body body73 pin73 ?_; simp only [c73, Try.f73, Option.getD_some, nslot73, List.append_nil, List.map, List.replicate, List.length_cons, List.length_nil, Nat.reduceAdd, Nat.reduceSub, List.cons_append, List.nil_append])
  (repeat' (first | (simp -implicitDefEqProofs (maxSteps := 1000000) (disch := first | assumption | omega | (simp only [ZDI]; omega)) only [*, lenV, G73, Za, Zb, Zc, Zd, Ze, Zf, Zg, Zh, Zi, Zj, Zk, Zl, Zm, Zn, Zo, Ja, Jb, Jc, J3, Jd, Je, J4, J5, Jf, Jg, Jh, Ji, Jj, Jk, J6, Jl, Jm, wr, Jn, J7, J8, Jo, Jp, Jq, Jr, Js, Jt, Ju, Jv, Jw, Jx, Jy, Jz, J0, J1, J2, reduceCtorEq, J9, JA, JB, JC, JD, JE, JF, JG]) | ((with_reducible (first | apply Ok.br | apply Ok.gd | apply Ok.ld)) <;> (intro g; (try simp only [ZGS] at g); try (exfalso; omega)))))
  all_goals (first | rfl | (exfalso; omega) | exact leaf_t (by (try simp only [Bool.and_eq_true, Bool.or_eq_true, decide_eq_true_eq, Bool.not_eq_true', decide_eq_false_iff_not, Bool.false_eq_true, Bool.true_eq_false, Bool.not_false, Bool.not_true, eq_self, iff_true, iff_false, true_iff, false_iff, false_or, true_or, or_false, or_true, true_and, and_true, false_and, and_false, not_true_eq_false, not_false_eq_true]); (first | done | omega)) | exact leaf_f (by (try simp only [Bool.and_eq_true, Bool.or_eq_true, decide_eq_true_eq, Bool.not_eq_true', decide_eq_false_iff_not, Bool.false_eq_true, Bool.true_eq_false, Bool.not_false, Bool.not_true, eq_self, iff_true, iff_false, true_iff, false_iff, false_or, true_or, or_false, or_true, true_and, and_true, false_and, and_false, not_true_eq_false, not_false_eq_true]); (first | done | omega)) | exact leaf_b (by (try simp only [Bool.and_eq_true, Bool.or_eq_true, decide_eq_true_eq, Bool.not_eq_true', decide_eq_false_iff_not, Bool.false_eq_true, Bool.true_eq_false, Bool.not_false, Bool.not_true, eq_self, iff_true, iff_false, true_iff, false_iff, false_or, true_or, or_false, or_true, true_and, and_true, false_and, and_false, not_true_eq_false, not_false_eq_true]); (first | done | omega)))
def mayP (o c q f t : Int) (l : List ByteArray) : Prop :=
  ((o = 0 \/ o = 5) /\ c = 0 /\ q = 0 /\ f = 0 /\ t = 0 /\ (l.length : Int) = 0) \/
  ((1 <= o /\ o <= 4) /\ (0 <= c /\ c <= 3) /\ (1 <= q /\ q <= 1099511627776) /\ (0 <= f /\ f < t /\ t <= 256 /\ t - f <= 16) /\ ((o ≠ 2 /\ (l.length : Int) = 0) \/ (o = 2 /\ (l.length : Int) = t - f /\ (l.any fun s => !textB s) = false)))
instance (o c q f t : Int) (l : List ByteArray) : Decidable (mayP o c q f t l) := by unfold mayP; infer_instance
theorem may_at {o c q f t : Int} {v : V} {l : List ByteArray} {h : Heap} (hv : StrsAt h v l) : D X (.fn 46 []) [.agg [.int .i64 o, .int .i64 c, .int .i64 q, .int .i64 f, .int .i64 t, v]] h = some (.bool (decide (mayP o c q f t l)), h) := by
  refine Ok.eq ?_
  have hc := containsFunc_at hv _ (fun s => notText_at s h)
  obtain ⟨a, cap, z, rfl, hl, _, ha⟩ := hv
  clear ha
  generalize hb : (l.any fun s => !textB s) = b at hc
  (refine Ok.body body46 pin46 ?_; simp only [c46, Try.f46, Option.getD_some, nslot46, List.append_nil, List.map, List.replicate, List.length_cons, List.length_nil, Nat.reduceAdd, Nat.reduceSub, List.cons_append, List.nil_append])
  (repeat' (first | (simp -implicitDefEqProofs (maxSteps := 1000000) (disch := first | assumption | omega | (simp only [ZDI]; omega)) only [*, plain_at, isClients_at, lenV, G46, Za, Zb, Zc, Zd, Ze, Zf, Zg, Zh, Zi, Zj, Zk, Zl, Zm, Zn, Zo, Ja, Jb, Jc, J3, Jd, Je, J4, J5, Jf, Jg, Jh, Ji, Jj, Jk, J6, Jl, Jm, wr, Jn, J7, J8, Jo, Jp, Jq, Jr, Js, Jt, Ju, Jv, Jw, Jx, Jy, Jz, J0, J1, J2, reduceCtorEq, J9, JA, JB, JC, JD, JE, JF, JG]) | ((with_reducible (first | apply Ok.br | apply Ok.gd | apply Ok.ld)) <;> (intro g; (try simp only [ZGS] at g); try (exfalso; omega)))))
  all_goals (clear hc; cases b <;> (first | rfl | (exfalso; omega) | exact leaf_t (by (try unfold mayP); (try simp only [hb, Bool.and_eq_true, Bool.or_eq_true, decide_eq_true_eq, Bool.not_eq_true', decide_eq_false_iff_not, Bool.false_eq_true, Bool.true_eq_false, Bool.not_false, Bool.not_true, eq_self, iff_true, iff_false, true_iff, false_iff, false_or, true_or, or_false, or_true, true_and, and_true, false_and, and_false, not_true_eq_false, not_false_eq_true]); (first | done | omega)) | exact leaf_f (by (try unfold mayP); (try simp only [hb, Bool.and_eq_true, Bool.or_eq_true, decide_eq_true_eq, Bool.not_eq_true', decide_eq_false_iff_not, Bool.false_eq_true, Bool.true_eq_false, Bool.not_false, Bool.not_true, eq_self, iff_true, iff_false, true_iff, false_iff, false_or, true_or, or_false, or_true, true_and, and_true, false_and, and_false, not_true_eq_false, not_false_eq_true]); (first | done | omega)) | exact leaf_b (by (try unfold mayP); (try simp only [hb, Bool.and_eq_true, Bool.or_eq_true, decide_eq_true_eq, Bool.not_eq_true', decide_eq_false_iff_not, Bool.false_eq_true, Bool.true_eq_false, Bool.not_false, Bool.not_true, eq_self, iff_true, iff_false, true_iff, false_iff, false_or, true_or, or_false, or_true, true_and, and_true, false_and, and_false, not_true_eq_false, not_false_eq_true]); (first | done | omega))))
set_option maxHeartbeats 2000000 in
theorem rMay_at {o c q f t : Int} {v : V} {l : List ByteArray} {h : Heap} (hv : StrsAt h v l) : D X (.fn 21 []) [.agg [.int .i64 o, .int .i64 c, .int .i64 q, .int .i64 f, .int .i64 t, v]] h = some (.bool (decide (mayP o c q f t l)), h) := by
  refine Ok.eq ?_
  refine Ok.aim fun Q hQ => ?_
  have hQ' := Hid.mk hQ
  clear hQ
  obtain ⟨a, cap, z, rfl, hl, _, ha⟩ := hv
  have hh := Hid.mk ha
  clear ha
  (refine Ok.body body21 pin21 ?_; simp only [c21, Try.f21, Option.getD_some, nslot21, List.append_nil, List.map, List.replicate, List.length_cons, List.length_nil, Nat.reduceAdd, Nat.reduceSub, List.cons_append, List.nil_append])
  (repeat' (first | (simp -implicitDefEqProofs (maxSteps := 1000000) (disch := first | assumption | omega | (simp only [ZDI]; omega)) only [*, lenV, G21, Za, Zb, Zc, Zd, Ze, Zf, Zg, Zh, Zi, Zj, Zk, Zl, Zm, Zn, Zo, Ja, Jb, Jc, J3, Jd, Je, J4, J5, Jf, Jg, Jh, Ji, Jj, Jk, J6, Jl, Jm, wr, Jn, J7, J8, Jo, Jp, Jq, Jr, Js, Jt, Ju, Jv, Jw, Jx, Jy, Jz, J0, J1, J2, reduceCtorEq, J9, JA, JB, JC, JD, JE, JF, JG]) | ((with_reducible (first | apply Ok.br | apply Ok.gd | apply Ok.ld)) <;> (intro g; (try simp only [ZGS] at g); try (exfalso; omega)))))
  all_goals try (refine hQ'.out _ ?_; cases hb : (l.any fun s => !textB s) <;> (first | rfl | (exfalso; omega) | exact leaf_t (by (try unfold mayP); (try simp only [hb, Bool.and_eq_true, Bool.or_eq_true, decide_eq_true_eq, Bool.not_eq_true', decide_eq_false_iff_not, Bool.false_eq_true, Bool.true_eq_false, Bool.not_false, Bool.not_true, eq_self, iff_true, iff_false, true_iff, false_iff, false_or, true_or, or_false, or_true, true_and, and_true, false_and, and_false, not_true_eq_false, not_false_eq_true]); (first | done | omega)) | exact leaf_f (by (try unfold mayP); (try simp only [hb, Bool.and_eq_true, Bool.or_eq_true, decide_eq_true_eq, Bool.not_eq_true', decide_eq_false_iff_not, Bool.false_eq_true, Bool.true_eq_false, Bool.not_false, Bool.not_true, eq_self, iff_true, iff_false, true_iff, false_iff, false_or, true_or, or_false, or_true, true_and, and_true, false_and, and_false, not_true_eq_false, not_false_eq_true]); (first | done | omega)) | exact leaf_b (by (try unfold mayP); (try simp only [hb, Bool.and_eq_true, Bool.or_eq_true, decide_eq_true_eq, Bool.not_eq_true', decide_eq_false_iff_not, Bool.false_eq_true, Bool.true_eq_false, Bool.not_false, Bool.not_true, eq_self, iff_true, iff_false, true_iff, false_iff, false_or, true_or, or_false, or_true, true_and, and_true, false_and, and_false, not_true_eq_false, not_false_eq_true]); (first | done | omega))))
  refine Ok.loop [BF, BF, BT, BF, BT, BF, BF, BF, BF, BF, BF, BF, BF, BF, BF, BF, BF, BF, BF, BF, BF, BF, BF, BF, BF, BF, BF, BF, BF, BF, BF, BF, BF, BF, BF, BF, BF, BF, BF, BF, BF, BF, BF, BF, BF, BF, BF, BF, BF, BF, BF, BF, BF, BF, BF, BF, BF, BF, BF, BF, BF, BF, BF, BF, BF, BF, BF, BF, BF, BF, BF, BF, BF, BF, BF, BF, BF, BF, BF, BF, BF, BF, BF, BF, BF, BF, BF, BF, BF, BF, BF, BF, BF, BF, BF, BF, BF, BF, BF, BF, BT, BT, BT, BT, BT, BT, BT, BT, BF, BF, BF, BF, BF, BF, BF, BF, BF] (fun n s => ∃ i : Nat, n = l.length - i /\ i <= l.length /\ tv s.e 100 = .v (.int .i64 i) /\ s.l = [(1, [.int .i64 2, .int .i64 c, .int .i64 q, .int .i64 f, .int .i64 t, .sl a l.length cap z])] /\ s.h = h /\ ∀ (j : Nat) (s : ByteArray), j < i -> l[j]? = some s -> textB s = true)
    (fun x s => s.l = [(1, [.int .i64 2, .int .i64 c, .int .i64 q, .int .i64 f, .int .i64 t, .sl a l.length cap z])] /\ s.h = h /\ ((x = .exit 0 /\ (l.any fun s => !textB s) = false) \/ (x = .ret /\ (l.any fun s => !textB s) = true /\ tv s.e 2 = .v (.bool false)))) (l.length - 0) ⟨0, rfl, by omega, rfl, rfl, rfl, fun j s hj => by omega⟩ ?_ ?_
  · intro n ⟨e', l', h'⟩ hW ⟨i, hn, hi, h8, h1, h2, hno⟩
    dsimp only at hW h8 h1 h2
    subst l' h'
    rw [hW.spread]
    simp only [spread_t, spread_f, spread_n, Nat.zero_add, Nat.reduceAdd, h8]
    by_cases hlt : i < l.length
    · rcases hh.out with rfl | ⟨b, g, o, rw, full, rfl, hb, hfull⟩
      · simp at hlt
      · obtain ⟨s, hs⟩ : ∃ s, l[i]? = some s := ⟨_, List.getElem?_eq_getElem hlt⟩
        have hf := hfull i s hs
        have hfn := rIsText_at s h
        cases hps : textB s with
        | false =>
          rw [hps] at hfn
          simp -implicitDefEqProofs (maxSteps := 1000000) (disch := first | assumption | omega | (simp only [ZDI]; omega)) only [*, Int.ofNat_lt, Int.natCast_nonneg, G21, Za, Zb, Zc, Zd, Ze, Zf, Zg, Zh, Zi, Zj, Zk, Zl, Zm, Zn, Zo, Ja, Jb, Jc, J3, Jd, Je, J4, J5, Jf, Jg, Jh, Ji, Jj, Jk, J6, Jl, Jm, wr, Jn, J7, J8, Jo, Jp, Jq, Jr, Js, Jt, Ju, Jv, Jw, Jx, Jy, Jz, J0, J1, J2, reduceCtorEq, J9, JA, JB, JC, JD, JE, JF, JG]
          exact Turn.ret ⟨rfl, rfl, rfl, .inr ⟨rfl, List.any_eq_true.2 ⟨s, List.mem_of_getElem? hs, by rw [hps]; rfl⟩, rfl⟩⟩
        | true =>
          rw [hps] at hfn
          simp -implicitDefEqProofs (maxSteps := 1000000) (disch := first | assumption | omega | (simp only [ZDI]; omega)) only [*, Int.ofNat_lt, Int.natCast_nonneg, G21, Za, Zb, Zc, Zd, Ze, Zf, Zg, Zh, Zi, Zj, Zk, Zl, Zm, Zn, Zo, Ja, Jb, Jc, J3, Jd, Je, J4, J5, Jf, Jg, Jh, Ji, Jj, Jk, J6, Jl, Jm, wr, Jn, J7, J8, Jo, Jp, Jq, Jr, Js, Jt, Ju, Jv, Jw, Jx, Jy, Jz, J0, J1, J2, reduceCtorEq, J9, JA, JB, JC, JD, JE, JF, JG]
          refine Turn.next (l.length - (i + 1)) (by omega) ⟨rfl, i + 1, rfl, by omega, rfl, rfl, rfl, fun j s' hj hs' => ?_⟩
          by_cases hji : j = i
          · subst hji
            rw [hs] at hs'
            cases hs'
            exact hps
          · exact hno j s' (by omega) hs'
    · simp -implicitDefEqProofs (maxSteps := 1000000) (disch := first | assumption | omega | (simp only [ZDI]; omega)) only [*, Int.ofNat_lt, G21, Za, Zb, Zc, Zd, Ze, Zf, Zg, Zh, Zi, Zj, Zk, Zl, Zm, Zn, Zo, Ja, Jb, Jc, J3, Jd, Je, J4, J5, Jf, Jg, Jh, Ji, Jj, Jk, J6, Jl, Jm, wr, Jn, J7, J8, Jo, Jp, Jq, Jr, Js, Jt, Ju, Jv, Jw, Jx, Jy, Jz, J0, J1, J2, reduceCtorEq, J9, JA, JB, JC, JD, JE, JF, JG]
      refine Turn.exit ⟨rfl, rfl, rfl, .inl ⟨rfl, ?_⟩⟩
      rw [List.any_eq_false]
      intro s hs
      obtain ⟨j, hj⟩ := List.getElem?_of_mem hs
      have := (List.getElem?_eq_some_iff.1 hj).1
      rw [hno j s (by omega) hj]
      simp
  · intro x ⟨e', l', h'⟩ hW ⟨h1, h2, hE⟩
    dsimp only at hW h1 h2 hE
    subst l' h'
    rw [hW.spread]
    rcases hE with ⟨rfl, hany⟩ | ⟨rfl, hany, h4⟩
    · simp only [spread_t, spread_f, spread_n, Nat.zero_add, Nat.reduceAdd]
      simp -implicitDefEqProofs (maxSteps := 1000000) (disch := first | assumption | omega | (simp only [ZDI]; omega)) only [*, lenV, G21, Za, Zb, Zc, Zd, Ze, Zf, Zg, Zh, Zi, Zj, Zk, Zl, Zm, Zn, Zo, Ja, Jb, Jc, J3, Jd, Je, J4, J5, Jf, Jg, Jh, Ji, Jj, Jk, J6, Jl, Jm, wr, Jn, J7, J8, Jo, Jp, Jq, Jr, Js, Jt, Ju, Jv, Jw, Jx, Jy, Jz, J0, J1, J2, reduceCtorEq, J9, JA, JB, JC, JD, JE, JF, JG]
      refine hQ'.out _ ?_
      (first | rfl | (exfalso; omega) | exact leaf_t (by (try unfold mayP); (try simp only [hany, Bool.and_eq_true, Bool.or_eq_true, decide_eq_true_eq, Bool.not_eq_true', decide_eq_false_iff_not, Bool.false_eq_true, Bool.true_eq_false, Bool.not_false, Bool.not_true, eq_self, iff_true, iff_false, true_iff, false_iff, false_or, true_or, or_false, or_true, true_and, and_true, false_and, and_false, not_true_eq_false, not_false_eq_true]); (first | done | omega)) | exact leaf_f (by (try unfold mayP); (try simp only [hany, Bool.and_eq_true, Bool.or_eq_true, decide_eq_true_eq, Bool.not_eq_true', decide_eq_false_iff_not, Bool.false_eq_true, Bool.true_eq_false, Bool.not_false, Bool.not_true, eq_self, iff_true, iff_false, true_iff, false_iff, false_or, true_or, or_false, or_true, true_and, and_true, false_and, and_false, not_true_eq_false, not_false_eq_true]); (first | done | omega)) | exact leaf_b (by (try unfold mayP); (try simp only [hany, Bool.and_eq_true, Bool.or_eq_true, decide_eq_true_eq, Bool.not_eq_true', decide_eq_false_iff_not, Bool.false_eq_true, Bool.true_eq_false, Bool.not_false, Bool.not_true, eq_self, iff_true, iff_false, true_iff, false_iff, false_or, true_or, or_false, or_true, true_and, and_true, false_and, and_false, not_true_eq_false, not_false_eq_true]); (first | done | omega)))
    · simp only [spread_t, spread_f, spread_n, Nat.zero_add, Nat.reduceAdd, h4]
      simp -implicitDefEqProofs (maxSteps := 1000000) (disch := first | assumption | omega | (simp only [ZDI]; omega)) only [*, lenV, G21, Za, Zb, Zc, Zd, Ze, Zf, Zg, Zh, Zi, Zj, Zk, Zl, Zm, Zn, Zo, Ja, Jb, Jc, J3, Jd, Je, J4, J5, Jf, Jg, Jh, Ji, Jj, Jk, J6, Jl, Jm, wr, Jn, J7, J8, Jo, Jp, Jq, Jr, Js, Jt, Ju, Jv, Jw, Jx, Jy, Jz, J0, J1, J2, reduceCtorEq, J9, JA, JB, JC, JD, JE, JF, JG]
      refine hQ'.out _ ?_
      (first | rfl | (exfalso; omega) | exact leaf_t (by (try unfold mayP); (try simp only [hany, Bool.and_eq_true, Bool.or_eq_true, decide_eq_true_eq, Bool.not_eq_true', decide_eq_false_iff_not, Bool.false_eq_true, Bool.true_eq_false, Bool.not_false, Bool.not_true, eq_self, iff_true, iff_false, true_iff, false_iff, false_or, true_or, or_false, or_true, true_and, and_true, false_and, and_false, not_true_eq_false, not_false_eq_true]); (first | done | omega)) | exact leaf_f (by (try unfold mayP); (try simp only [hany, Bool.and_eq_true, Bool.or_eq_true, decide_eq_true_eq, Bool.not_eq_true', decide_eq_false_iff_not, Bool.false_eq_true, Bool.true_eq_false, Bool.not_false, Bool.not_true, eq_self, iff_true, iff_false, true_iff, false_iff, false_or, true_or, or_false, or_true, true_and, and_true, false_and, and_false, not_true_eq_false, not_false_eq_true]); (first | done | omega)) | exact leaf_b (by (try unfold mayP); (try simp only [hany, Bool.and_eq_true, Bool.or_eq_true, decide_eq_true_eq, Bool.not_eq_true', decide_eq_false_iff_not, Bool.false_eq_true, Bool.true_eq_false, Bool.not_false, Bool.not_true, eq_self, iff_true, iff_false, true_iff, false_iff, false_or, true_or, or_false, or_true, true_and, and_true, false_and, and_false, not_true_eq_false, not_false_eq_true]); (first | done | omega)))
end Go.Ev
set_option maxRecDepth 100000
namespace Go.Ev
open Go.Ev renaming exPure -> Ja, ofValue -> Jb, cellsV -> Jc, load -> Jd, store -> Je, binOp -> Jf, intOp -> Jg, rdV -> Jh, vsame -> Ji, vsames -> Jj, makeSliceV -> Jk, resV -> Jl, isCell -> Jm, nilCheckV -> Jn, allV -> Jo, builtinV -> Jp, lenV -> Jq, indexAddrV -> Jr, unOp -> Js, minmaxV -> Jt, minmax -> Ju, sliceV -> Jv, asInt -> Jw, appendV -> Jx, copyV -> Jy, clearV -> Jz, convV -> J0, sliceCells -> J1, shift -> J2
open Bool renaming true -> BT, false -> BF
open Nat renaming reduceEqDiff -> J3, reduceLT -> J4, reduceAdd -> J5, reduceBEq -> J6, reduceSub -> J7, reduceMul -> J8, reduceLeDiff -> JG
open Int renaming reduceLT -> J9, reduceLE -> JA, reduceAdd -> JB, reduceSub -> JC, reduceNeg -> JD, reduceToNat -> JE, reduceEq -> JF
open Go.Proofs
theorem strEq_refl (s : ByteArray) : strEq s s = true := by unfold strEq; simp
theorem strEq_ne {x y : ByteArray} (h : ¬ x = y) : strEq x y = false := by
  unfold strEq
  refine decide_eq_false fun e => h ?_
  cases x with | mk a => cases y with | mk b =>
  cases a with | mk a => cases b with | mk b =>
  simp only at e
  rw [e]
theorem equalR_at {h : Heap} {v w : V} {l m : List RP} (hr : RowAt h v l) (hs : RowAt h w m) : D X (.fn 52 []) [v, w] h = some (.bool (decide (l = m)), h) := by
  refine Ok.eq ?_
  refine Ok.aim fun Q hQ => ?_
  have hQ' := Hid.mk hQ
  clear hQ
  obtain ⟨a, cap, z, rfl, h1, h1', h2⟩ := hr
  obtain ⟨a2, cap2, z2, rfl, h3, h3', h4⟩ := hs
  by_cases hlen : l.length = m.length
  · have hlen' : (l.length : Int) = (m.length : Int) := by omega
    (refine Ok.body body52 pin52 ?_; simp only [c52, Try.f52, Option.getD_some, nslot52, List.append_nil, List.map, List.replicate, List.length_cons, List.length_nil, Nat.reduceAdd, Nat.reduceSub, List.cons_append, List.nil_append])
    (repeat' (first | (simp -implicitDefEqProofs (maxSteps := 1000000) (disch := first | assumption | omega | (simp only [ZDI]; omega)) only [*, lenV, G52, Za, Zb, Zc, Zd, Ze, Zf, Zg, Zh, Zi, Zj, Zk, Zl, Zm, Zn, Zo, Ja, Jb, Jc, J3, Jd, Je, J4, J5, Jf, Jg, Jh, Ji, Jj, Jk, J6, Jl, Jm, wr, Jn, J7, J8, Jo, Jp, Jq, Jr, Js, Jt, Ju, Jv, Jw, Jx, Jy, Jz, J0, J1, J2, reduceCtorEq, J9, JA, JB, JC, JD, JE, JF, JG]) | ((with_reducible (first | apply Ok.br | apply Ok.gd | apply Ok.ld)) <;> (intro g; (try simp only [ZGS] at g); try (exfalso; omega)))))
    refine Ok.loop [BF, BF, BF, BF, BT, BT, BF, BF, BF, BF, BF, BF, BF, BT, BT, BT, BT, BT, BT, BT, BT, BT, BT, BT, BT, BT] (fun n s2 => ∃ (i : Nat), n = l.length - i /\ i <= l.length /\ tv s2.e 13 = .v (.int .i64 i) /\ s2.l = [] /\ s2.h = h /\ l.take i = m.take i)
      (fun y s2 => s2.h = h /\ s2.l = [] /\ ((y = .exit 0 /\ l = m) \/ (y = .ret /\ l ≠ m /\ tv s2.e 4 = .v (.bool false)))) (l.length - 0) ⟨0, rfl, Nat.zero_le _, rfl, rfl, rfl, by simp⟩ ?_ ?_
    · intro n ⟨e', l', H'⟩ hW ⟨i, hm, hi, h9, k2, k3, hno⟩
      dsimp only at hW h9 k2 k3
      subst l' H'
      rw [hW.spread]
      simp only [spread_t, spread_f, spread_n, Nat.zero_add, Nat.reduceAdd, h9]
      clear hW hQ'
      have hno' := Hid.mk hno
      clear hno
      by_cases hlt : i < l.length
      · have hlt' : (i : Int) < (m.length : Int) := by omega
        have g1 : 0 <= (i : Int) /\ (i : Int) < (m.length : Int) := by omega
        rcases h2 with rfl | ⟨b, g, o, rw, full, rfl, hb, hfull, ho⟩
        · simp at hlt
        · rcases h4 with rfl | ⟨b2, g2, o2, rw2, full2, rfl, hb2, hfull2, ho2⟩
          · simp at hlen; subst hlen; simp at hlt
          · obtain ⟨y, hy⟩ : ∃ y, l[i]? = some y := ⟨_, List.getElem?_eq_getElem hlt⟩
            obtain ⟨x, hx⟩ : ∃ y, m[i]? = some y := ⟨_, List.getElem?_eq_getElem (by omega)⟩
            have hf := hfull i y hy
            have hf2 := hfull2 i x hx
            have hy' := Hid.mk hy
            have hx' := Hid.mk hx
            clear hy hfull hx hfull2
            by_cases hxy : y = x
            · subst hxy
              (repeat' (first | (simp -implicitDefEqProofs (maxSteps := 1000000) (disch := first | assumption | omega | (simp only [ZDI]; omega)) only [*, lenV, eq_self, G52, Za, Zb, Zc, Zd, Ze, Zf, Zg, Zh, Zi, Zj, Zk, Zl, Zm, Zn, Zo, Ja, Jb, Jc, J3, Jd, Je, J4, J5, Jf, Jg, Jh, Ji, Jj, Jk, J6, Jl, Jm, wr, Jn, J7, J8, Jo, Jp, Jq, Jr, Js, Jt, Ju, Jv, Jw, Jx, Jy, Jz, J0, J1, J2, reduceCtorEq, J9, JA, JB, JC, JD, JE, JF, JG]) | ((with_reducible (first | apply Ok.br | apply Ok.gd | apply Ok.ld)) <;> (intro g; (try simp only [ZGS] at g); try (exfalso; omega)))))
              refine Turn.next (l.length - (i + 1)) (by omega) ⟨rfl, i + 1, by omega, by omega, rfl, rfl, rfl, ?_⟩
              rw [List.take_add_one, List.take_add_one, hy'.out, hx'.out, hno'.out]
            · have hnx : ∀ P : Prop, (¬ y.1 = x.1 -> P) -> (y.1 = x.1 -> ¬ y.2 = x.2 -> P) -> P := fun P p q => by
                by_cases h1 : y.1 = x.1
                · exact q h1 fun h2 => hxy (Prod.ext h1 h2)
                · exact p h1
              have hno2 : l ≠ m := by
                rintro rfl
                have := hy'.out
                rw [hx'.out] at this
                exact hxy (Option.some.inj this).symm
              have hno3 := Hid.mk hno2
              clear hno2 hxy
              apply hnx <;> clear hnx
              · intro hn1
                (repeat' (first | (simp -implicitDefEqProofs (maxSteps := 1000000) (disch := first | assumption | omega | (simp only [ZDI]; omega)) only [*, lenV, G52, Za, Zb, Zc, Zd, Ze, Zf, Zg, Zh, Zi, Zj, Zk, Zl, Zm, Zn, Zo, Ja, Jb, Jc, J3, Jd, Je, J4, J5, Jf, Jg, Jh, Ji, Jj, Jk, J6, Jl, Jm, wr, Jn, J7, J8, Jo, Jp, Jq, Jr, Js, Jt, Ju, Jv, Jw, Jx, Jy, Jz, J0, J1, J2, reduceCtorEq, J9, JA, JB, JC, JD, JE, JF, JG]) | ((with_reducible (first | apply Ok.br | apply Ok.gd | apply Ok.ld)) <;> (intro g; (try simp only [ZGS] at g); try (exfalso; omega)))))
                exact Turn.ret ⟨rfl, rfl, rfl, .inr ⟨rfl, hno3.out, rfl⟩⟩
              · intro hn1 hn2
                (repeat' (first | (simp -implicitDefEqProofs (maxSteps := 1000000) (disch := first | assumption | omega | (simp only [ZDI]; omega)) only [*, lenV, G52, Za, Zb, Zc, Zd, Ze, Zf, Zg, Zh, Zi, Zj, Zk, Zl, Zm, Zn, Zo, Ja, Jb, Jc, J3, Jd, Je, J4, J5, Jf, Jg, Jh, Ji, Jj, Jk, J6, Jl, Jm, wr, Jn, J7, J8, Jo, Jp, Jq, Jr, Js, Jt, Ju, Jv, Jw, Jx, Jy, Jz, J0, J1, J2, reduceCtorEq, J9, JA, JB, JC, JD, JE, JF, JG]) | ((with_reducible (first | apply Ok.br | apply Ok.gd | apply Ok.ld)) <;> (intro g; (try simp only [ZGS] at g); try (exfalso; omega)))))
                exact Turn.ret ⟨rfl, rfl, rfl, .inr ⟨rfl, hno3.out, rfl⟩⟩
      · have hlt' : ¬ (i : Int) < (m.length : Int) := by omega
        (repeat' (first | (simp -implicitDefEqProofs (maxSteps := 1000000) (disch := first | assumption | omega | (simp only [ZDI]; omega)) only [*, lenV, G52, Za, Zb, Zc, Zd, Ze, Zf, Zg, Zh, Zi, Zj, Zk, Zl, Zm, Zn, Zo, Ja, Jb, Jc, J3, Jd, Je, J4, J5, Jf, Jg, Jh, Ji, Jj, Jk, J6, Jl, Jm, wr, Jn, J7, J8, Jo, Jp, Jq, Jr, Js, Jt, Ju, Jv, Jw, Jx, Jy, Jz, J0, J1, J2, reduceCtorEq, J9, JA, JB, JC, JD, JE, JF, JG]) | ((with_reducible (first | apply Ok.br | apply Ok.gd | apply Ok.ld)) <;> (intro g; (try simp only [ZGS] at g); try (exfalso; omega)))))
        refine Turn.exit ⟨rfl, rfl, rfl, .inl ⟨rfl, ?_⟩⟩
        have := hno'.out
        rwa [List.take_of_length_le (by omega), List.take_of_length_le (by omega)] at this
    · intro y ⟨e', l', H'⟩ hW ⟨k3, k2, hy⟩
      dsimp only at hW k2 k3 hy
      subst l' H'
      rw [hW.spread]
      clear hW
      rcases hy with ⟨rfl, hm⟩ | ⟨rfl, hm, h4⟩
      · simp only [spread_t, spread_f, spread_n, Nat.zero_add, Nat.reduceAdd]
        (repeat' (first | (simp -implicitDefEqProofs (maxSteps := 1000000) (disch := first | assumption | omega | (simp only [ZDI]; omega)) only [*, G52, Za, Zb, Zc, Zd, Ze, Zf, Zg, Zh, Zi, Zj, Zk, Zl, Zm, Zn, Zo, Ja, Jb, Jc, J3, Jd, Je, J4, J5, Jf, Jg, Jh, Ji, Jj, Jk, J6, Jl, Jm, wr, Jn, J7, J8, Jo, Jp, Jq, Jr, Js, Jt, Ju, Jv, Jw, Jx, Jy, Jz, J0, J1, J2, reduceCtorEq, J9, JA, JB, JC, JD, JE, JF, JG]) | ((with_reducible (first | apply Ok.br | apply Ok.gd | apply Ok.ld)) <;> (intro g; (try simp only [ZGS] at g); try (exfalso; omega)))))
        exact hQ'.out _ (by rw [decide_eq_true hm])
      · simp only [spread_t, spread_f, spread_n, Nat.zero_add, Nat.reduceAdd, h4]
        (repeat' (first | (simp -implicitDefEqProofs (maxSteps := 1000000) (disch := first | assumption | omega | (simp only [ZDI]; omega)) only [*, G52, Za, Zb, Zc, Zd, Ze, Zf, Zg, Zh, Zi, Zj, Zk, Zl, Zm, Zn, Zo, Ja, Jb, Jc, J3, Jd, Je, J4, J5, Jf, Jg, Jh, Ji, Jj, Jk, J6, Jl, Jm, wr, Jn, J7, J8, Jo, Jp, Jq, Jr, Js, Jt, Ju, Jv, Jw, Jx, Jy, Jz, J0, J1, J2, reduceCtorEq, J9, JA, JB, JC, JD, JE, JF, JG]) | ((with_reducible (first | apply Ok.br | apply Ok.gd | apply Ok.ld)) <;> (intro g; (try simp only [ZGS] at g); try (exfalso; omega)))))
        exact hQ'.out _ (by rw [decide_eq_false hm])
  · have hlen' : ¬ (l.length : Int) = (m.length : Int) := by omega
    (refine Ok.body body52 pin52 ?_; simp only [c52, Try.f52, Option.getD_some, nslot52, List.append_nil, List.map, List.replicate, List.length_cons, List.length_nil, Nat.reduceAdd, Nat.reduceSub, List.cons_append, List.nil_append])
    (repeat' (first | (simp -implicitDefEqProofs (maxSteps := 1000000) (disch := first | assumption | omega | (simp only [ZDI]; omega)) only [*, lenV, G52, Za, Zb, Zc, Zd, Ze, Zf, Zg, Zh, Zi, Zj, Zk, Zl, Zm, Zn, Zo, Ja, Jb, Jc, J3, Jd, Je, J4, J5, Jf, Jg, Jh, Ji, Jj, Jk, J6, Jl, Jm, wr, Jn, J7, J8, Jo, Jp, Jq, Jr, Js, Jt, Ju, Jv, Jw, Jx, Jy, Jz, J0, J1, J2, reduceCtorEq, J9, JA, JB, JC, JD, JE, JF, JG]) | ((with_reducible (first | apply Ok.br | apply Ok.gd | apply Ok.ld)) <;> (intro g; (try simp only [ZGS] at g); try (exfalso; omega)))))
    exact hQ'.out _ (by rw [decide_eq_false]; rintro rfl; exact hlen rfl)
theorem equalS_at {h : Heap} {v w : V} {l m : List ByteArray} (hr : StrsAt h v l) (hs : StrsAt h w m) : D X (.fn 79 []) [v, w] h = some (.bool (decide (l = m)), h) := by
  refine Ok.eq ?_
  refine Ok.aim fun Q hQ => ?_
  have hQ' := Hid.mk hQ
  clear hQ
  obtain ⟨a, cap, z, rfl, h1, _, h2⟩ := hr
  obtain ⟨a2, cap2, z2, rfl, h3, _, h4⟩ := hs
  by_cases hlen : l.length = m.length
  · rw [hlen]
    have h2' := Hid.mk h2
    have h4' := Hid.mk h4
    clear h2 h4
    (refine Ok.body body79 pin79 ?_; simp only [c79, Try.f79, Option.getD_some, nslot79, List.append_nil, List.map, List.replicate, List.length_cons, List.length_nil, Nat.reduceAdd, Nat.reduceSub, List.cons_append, List.nil_append])
    (repeat' (first | (simp -implicitDefEqProofs (maxSteps := 1000000) (disch := first | assumption | omega | (simp only [ZDI]; omega)) only [*, lenV, eq_self, G79, Za, Zb, Zc, Zd, Ze, Zf, Zg, Zh, Zi, Zj, Zk, Zl, Zm, Zn, Zo, Ja, Jb, Jc, J3, Jd, Je, J4, J5, Jf, Jg, Jh, Ji, Jj, Jk, J6, Jl, Jm, wr, Jn, J7, J8, Jo, Jp, Jq, Jr, Js, Jt, Ju, Jv, Jw, Jx, Jy, Jz, J0, J1, J2, reduceCtorEq, J9, JA, JB, JC, JD, JE, JF, JG]) | ((with_reducible (first | apply Ok.br | apply Ok.gd | apply Ok.ld)) <;> (intro g; (try simp only [ZGS] at g); try (exfalso; omega)))))
    refine Ok.loop [BF, BF, BF, BF, BT, BT, BF, BF, BF, BF, BF, BF, BF, BT, BT, BT, BT, BT, BT, BT, BT, BT, BT, BT, BT, BT] (fun n s2 => ∃ (i : Nat), n = l.length - i /\ i <= l.length /\ tv s2.e 13 = .v (.int .i64 i) /\ s2.l = [] /\ s2.h = h /\ l.take i = m.take i)
      (fun y s2 => s2.h = h /\ s2.l = [] /\ ((y = .exit 0 /\ l = m) \/ (y = .ret /\ l ≠ m /\ tv s2.e 4 = .v (.bool false)))) (l.length - 0) ⟨0, rfl, Nat.zero_le _, rfl, rfl, rfl, by simp⟩ ?_ ?_
    · intro n ⟨e', l', H'⟩ hW ⟨i, hm, hi, h9, k2, k3, hno⟩
      dsimp only at hW h9 k2 k3
      subst l' H'
      rw [hW.spread]
      simp only [spread_t, spread_f, spread_n, Nat.zero_add, Nat.reduceAdd, h9]
      clear hW hQ'
      have hno' := Hid.mk hno
      clear hno
      by_cases hlt : i < l.length
      · have hlt' : (i : Int) < (m.length : Int) := by omega
        rcases h2'.out with rfl | ⟨b, g, oo, rw, full, rfl, hb, hfull⟩
        · simp at hlt
        · rcases h4'.out with rfl | ⟨b2, g2, o2, rw2, full2, rfl, hb2, hfull2⟩
          · simp at hlen; subst hlen; simp at hlt
          · obtain ⟨y, hy⟩ : ∃ y, l[i]? = some y := ⟨_, List.getElem?_eq_getElem hlt⟩
            obtain ⟨x, hx⟩ : ∃ y, m[i]? = some y := ⟨_, List.getElem?_eq_getElem (by omega)⟩
            have hf := hfull i y hy
            have hf2 := hfull2 i x hx
            have hy' := Hid.mk hy
            have hx' := Hid.mk hx
            clear hy hfull hx hfull2
            by_cases hxy : y = x
            · subst hxy
              (repeat' (first | (simp -implicitDefEqProofs (maxSteps := 1000000) (disch := first | assumption | omega | (simp only [ZDI]; omega)) only [*, lenV, strEq_refl, G79, Za, Zb, Zc, Zd, Ze, Zf, Zg, Zh, Zi, Zj, Zk, Zl, Zm, Zn, Zo, Ja, Jb, Jc, J3, Jd, Je, J4, J5, Jf, Jg, Jh, Ji, Jj, Jk, J6, Jl, Jm, wr, Jn, J7, J8, Jo, Jp, Jq, Jr, Js, Jt, Ju, Jv, Jw, Jx, Jy, Jz, J0, J1, J2, reduceCtorEq, J9, JA, JB, JC, JD, JE, JF, JG]) | ((with_reducible (first | apply Ok.br | apply Ok.gd | apply Ok.ld)) <;> (intro g; (try simp only [ZGS] at g); try (exfalso; omega)))))
              refine Turn.next (l.length - (i + 1)) (by omega) ⟨rfl, i + 1, by omega, by omega, rfl, rfl, rfl, ?_⟩
              rw [List.take_add_one, List.take_add_one, hy'.out, hx'.out, hno'.out]
            · have hno2 : l ≠ m := by
                rintro rfl
                have := hy'.out
                rw [hx'.out] at this
                exact hxy (Option.some.inj this).symm
              have hno3 := Hid.mk hno2
              have hse := strEq_ne hxy
              clear hno2 hxy
              (repeat' (first | (simp -implicitDefEqProofs (maxSteps := 1000000) (disch := first | assumption | omega | (simp only [ZDI]; omega)) only [*, lenV, G79, Za, Zb, Zc, Zd, Ze, Zf, Zg, Zh, Zi, Zj, Zk, Zl, Zm, Zn, Zo, Ja, Jb, Jc, J3, Jd, Je, J4, J5, Jf, Jg, Jh, Ji, Jj, Jk, J6, Jl, Jm, wr, Jn, J7, J8, Jo, Jp, Jq, Jr, Js, Jt, Ju, Jv, Jw, Jx, Jy, Jz, J0, J1, J2, reduceCtorEq, J9, JA, JB, JC, JD, JE, JF, JG]) | ((with_reducible (first | apply Ok.br | apply Ok.gd | apply Ok.ld)) <;> (intro g; (try simp only [ZGS] at g); try (exfalso; omega)))))
              exact Turn.ret ⟨rfl, rfl, rfl, .inr ⟨rfl, hno3.out, rfl⟩⟩
      · have hlt' : ¬ (i : Int) < (m.length : Int) := by omega
        (repeat' (first | (simp -implicitDefEqProofs (maxSteps := 1000000) (disch := first | assumption | omega | (simp only [ZDI]; omega)) only [*, lenV, G79, Za, Zb, Zc, Zd, Ze, Zf, Zg, Zh, Zi, Zj, Zk, Zl, Zm, Zn, Zo, Ja, Jb, Jc, J3, Jd, Je, J4, J5, Jf, Jg, Jh, Ji, Jj, Jk, J6, Jl, Jm, wr, Jn, J7, J8, Jo, Jp, Jq, Jr, Js, Jt, Ju, Jv, Jw, Jx, Jy, Jz, J0, J1, J2, reduceCtorEq, J9, JA, JB, JC, JD, JE, JF, JG]) | ((with_reducible (first | apply Ok.br | apply Ok.gd | apply Ok.ld)) <;> (intro g; (try simp only [ZGS] at g); try (exfalso; omega)))))
        refine Turn.exit ⟨rfl, rfl, rfl, .inl ⟨rfl, ?_⟩⟩
        have := hno'.out
        rwa [List.take_of_length_le (by omega), List.take_of_length_le (by omega)] at this
    · intro y ⟨e', l', H'⟩ hW ⟨k3, k2, hy⟩
      dsimp only at hW k2 k3 hy
      subst l' H'
      rw [hW.spread]
      clear hW
      rcases hy with ⟨rfl, hm⟩ | ⟨rfl, hm, h4⟩
      · simp only [spread_t, spread_f, spread_n, Nat.zero_add, Nat.reduceAdd]
        (repeat' (first | (simp -implicitDefEqProofs (maxSteps := 1000000) (disch := first | assumption | omega | (simp only [ZDI]; omega)) only [*, G79, Za, Zb, Zc, Zd, Ze, Zf, Zg, Zh, Zi, Zj, Zk, Zl, Zm, Zn, Zo, Ja, Jb, Jc, J3, Jd, Je, J4, J5, Jf, Jg, Jh, Ji, Jj, Jk, J6, Jl, Jm, wr, Jn, J7, J8, Jo, Jp, Jq, Jr, Js, Jt, Ju, Jv, Jw, Jx, Jy, Jz, J0, J1, J2, reduceCtorEq, J9, JA, JB, JC, JD, JE, JF, JG]) | ((with_reducible (first | apply Ok.br | apply Ok.gd | apply Ok.ld)) <;> (intro g; (try simp only [ZGS] at g); try (exfalso; omega)))))
        exact hQ'.out _ (by rw [decide_eq_true hm])
      · simp only [spread_t, spread_f, spread_n, Nat.zero_add, Nat.reduceAdd, h4]
        (repeat' (first | (simp -implicitDefEqProofs (maxSteps := 1000000) (disch := first | assumption | omega | (simp only [ZDI]; omega)) only [*, G79, Za, Zb, Zc, Zd, Ze, Zf, Zg, Zh, Zi, Zj, Zk, Zl, Zm, Zn, Zo, Ja, Jb, Jc, J3, Jd, Je, J4, J5, Jf, Jg, Jh, Ji, Jj, Jk, J6, Jl, Jm, wr, Jn, J7, J8, Jo, Jp, Jq, Jr, Js, Jt, Ju, Jv, Jw, Jx, Jy, Jz, J0, J1, J2, reduceCtorEq, J9, JA, JB, JC, JD, JE, JF, JG]) | ((with_reducible (first | apply Ok.br | apply Ok.gd | apply Ok.ld)) <;> (intro g; (try simp only [ZGS] at g); try (exfalso; omega)))))
        exact hQ'.out _ (by rw [decide_eq_false hm])
  · have hlen' : ¬ (l.length : Int) = (m.length : Int) := by omega
    (refine Ok.body body79 pin79 ?_; simp only [c79, Try.f79, Option.getD_some, nslot79, List.append_nil, List.map, List.replicate, List.length_cons, List.length_nil, Nat.reduceAdd, Nat.reduceSub, List.cons_append, List.nil_append])
    (repeat' (first | (simp -implicitDefEqProofs (maxSteps := 1000000) (disch := first | assumption | omega | (simp only [ZDI]; omega)) only [*, lenV, eq_self, G79, Za, Zb, Zc, Zd, Ze, Zf, Zg, Zh, Zi, Zj, Zk, Zl, Zm, Zn, Zo, Ja, Jb, Jc, J3, Jd, Je, J4, J5, Jf, Jg, Jh, Ji, Jj, Jk, J6, Jl, Jm, wr, Jn, J7, J8, Jo, Jp, Jq, Jr, Js, Jt, Ju, Jv, Jw, Jx, Jy, Jz, J0, J1, J2, reduceCtorEq, J9, JA, JB, JC, JD, JE, JF, JG]) | ((with_reducible (first | apply Ok.br | apply Ok.gd | apply Ok.ld)) <;> (intro g; (try simp only [ZGS] at g); try (exfalso; omega)))))
    exact hQ'.out _ (by rw [decide_eq_false]; rintro rfl; exact hlen rfl)
end Go.Ev
set_option maxRecDepth 100000
namespace Go.Ev
open Go.Ev renaming exPure -> Ja, ofValue -> Jb, cellsV -> Jc, load -> Jd, store -> Je, binOp -> Jf, intOp -> Jg, rdV -> Jh, vsame -> Ji, vsames -> Jj, makeSliceV -> Jk, resV -> Jl, isCell -> Jm, nilCheckV -> Jn, allV -> Jo, builtinV -> Jp, lenV -> Jq, indexAddrV -> Jr, unOp -> Js, minmaxV -> Jt, minmax -> Ju, sliceV -> Jv, asInt -> Jw, appendV -> Jx, copyV -> Jy, clearV -> Jz, convV -> J0, sliceCells -> J1, shift -> J2
open Bool renaming true -> BT, false -> BF
open Nat renaming reduceEqDiff -> J3, reduceLT -> J4, reduceAdd -> J5, reduceBEq -> J6, reduceSub -> J7, reduceMul -> J8, reduceLeDiff -> JG
open Int renaming reduceLT -> J9, reduceLE -> JA, reduceAdd -> JB, reduceSub -> JC, reduceNeg -> JD, reduceToNat -> JE, reduceEq -> JF
open Go.Proofs Go.Sort
theorem has_at {h : Heap} {v : V} {l : List RP} (hr : RowAt h v l) (x : RP) : D X (.fn 26 []) [v, .agg [.int .i64 x.1, .int .i64 x.2]] h = some (.bool (decide (x ∈ l)), h) := by
  refine Ok.eq ?_
  refine Ok.aim fun Q hQ => ?_
  have hQ' := Hid.mk hQ
  clear hQ
  obtain ⟨a, cap, z, rfl, h1, h1', h2⟩ := hr
  (refine Ok.body body26 pin26 ?_; simp only [c26, Try.f26, Option.getD_some, nslot26, List.append_nil, List.map, List.replicate, List.length_cons, List.length_nil, Nat.reduceAdd, Nat.reduceSub, List.cons_append, List.nil_append])
  (repeat' (first | (simp -implicitDefEqProofs (maxSteps := 1000000) (disch := first | assumption | omega | (simp only [ZDI]; omega)) only [*, lenV, G26, Za, Zb, Zc, Zd, Ze, Zf, Zg, Zh, Zi, Zj, Zk, Zl, Zm, Zn, Zo, Ja, Jb, Jc, J3, Jd, Je, J4, J5, Jf, Jg, Jh, Ji, Jj, Jk, J6, Jl, Jm, wr, Jn, J7, J8, Jo, Jp, Jq, Jr, Js, Jt, Ju, Jv, Jw, Jx, Jy, Jz, J0, J1, J2, reduceCtorEq, J9, JA, JB, JC, JD, JE, JF, JG]) | ((with_reducible (first | apply Ok.br | apply Ok.gd | apply Ok.ld)) <;> (intro g; (try simp only [ZGS] at g); try (exfalso; omega)))))
  refine Ok.loop [BF, BF, BF, BF, BT, BF, BT, BF, BF, BT, BT, BT, BT, BT, BT, BT, BT] (fun m s2 => ∃ (i k : Nat) (cs : List V), m = l.length - i /\ i <= l.length /\ tv s2.e 9 = .v (.int .i64 i) /\ s2.l = [(1, [.int .i64 x.1, .int .i64 x.2]), (k, cs)] /\ s2.h = h /\ x ∉ l.take i)
    (fun y s2 => s2.h = h /\ (∃ k cs, s2.l = [(1, [.int .i64 x.1, .int .i64 x.2]), (k, cs)]) /\ ((y = .exit 0 /\ x ∉ l) \/ (y = .ret /\ x ∈ l /\ tv s2.e 4 = .v (.bool true)))) (l.length - 0) ⟨0, 0, [], rfl, Nat.zero_le _, rfl, rfl, rfl, by simp⟩ ?_ ?_
  · intro m ⟨e', l', H'⟩ hW ⟨i, k, cs, hm, hi, h9, k2, k3, hno⟩
    dsimp only at hW h9 k2 k3
    subst l' H'
    rw [hW.spread]
    simp only [spread_t, spread_f, spread_n, Nat.zero_add, Nat.reduceAdd, h9]
    clear hW hQ'
    have hno' := Hid.mk hno
    clear hno
    by_cases hlt : i < l.length
    · have hlt' : (i : Int) < (l.length : Int) := by omega
      have g1 : 0 <= (i : Int) /\ (i : Int) < (l.length : Int) := by omega
      rcases h2 with rfl | ⟨b, g, o, rw, full, rfl, hb, hfull, ho⟩
      · simp at hlt
      · obtain ⟨y, hy⟩ : ∃ y, l[i]? = some y := ⟨_, List.getElem?_eq_getElem hlt⟩
        have hf := hfull i y hy
        have hy' := Hid.mk hy
        clear hy hfull
        by_cases hxy : y = x
        · subst hxy
          (repeat' (first | (simp -implicitDefEqProofs (maxSteps := 1000000) (disch := first | assumption | omega | (simp only [ZDI]; omega)) only [*, lenV, eq_self, G26, Za, Zb, Zc, Zd, Ze, Zf, Zg, Zh, Zi, Zj, Zk, Zl, Zm, Zn, Zo, Ja, Jb, Jc, J3, Jd, Je, J4, J5, Jf, Jg, Jh, Ji, Jj, Jk, J6, Jl, Jm, wr, Jn, J7, J8, Jo, Jp, Jq, Jr, Js, Jt, Ju, Jv, Jw, Jx, Jy, Jz, J0, J1, J2, reduceCtorEq, J9, JA, JB, JC, JD, JE, JF, JG]) | ((with_reducible (first | apply Ok.br | apply Ok.gd | apply Ok.ld)) <;> (intro g; (try simp only [ZGS] at g); try (exfalso; omega)))))
          exact Turn.ret ⟨rfl, rfl, ⟨_, _, rfl⟩, .inr ⟨rfl, List.mem_of_getElem? hy'.out, rfl⟩⟩
        · have hnx : ∀ P : Prop, (¬ y.1 = x.1 -> P) -> (y.1 = x.1 -> ¬ y.2 = x.2 -> P) -> P := fun P p q => by
            by_cases h1 : y.1 = x.1
            · exact q h1 fun h2 => hxy (Prod.ext h1 h2)
            · exact p h1
          have hno2 : x ∉ l.take (i + 1) := by
            rw [List.take_add_one, hy'.out]
            simp only [Option.toList_some, List.mem_append, List.mem_singleton, not_or]
            exact ⟨hno'.out, fun h => hxy h.symm⟩
          have hno3 := Hid.mk hno2
          clear hno2 hxy
          apply hnx <;> clear hnx
          · intro hn1
            (repeat' (first | (simp -implicitDefEqProofs (maxSteps := 1000000) (disch := first | assumption | omega | (simp only [ZDI]; omega)) only [*, lenV, G26, Za, Zb, Zc, Zd, Ze, Zf, Zg, Zh, Zi, Zj, Zk, Zl, Zm, Zn, Zo, Ja, Jb, Jc, J3, Jd, Je, J4, J5, Jf, Jg, Jh, Ji, Jj, Jk, J6, Jl, Jm, wr, Jn, J7, J8, Jo, Jp, Jq, Jr, Js, Jt, Ju, Jv, Jw, Jx, Jy, Jz, J0, J1, J2, reduceCtorEq, J9, JA, JB, JC, JD, JE, JF, JG]) | ((with_reducible (first | apply Ok.br | apply Ok.gd | apply Ok.ld)) <;> (intro g; (try simp only [ZGS] at g); try (exfalso; omega)))))
            exact Turn.next (l.length - (i + 1)) (by omega) ⟨rfl, i + 1, _, _, rfl, by omega, rfl, rfl, rfl, hno3.out⟩
          · intro hn1 hn2
            (repeat' (first | (simp -implicitDefEqProofs (maxSteps := 1000000) (disch := first | assumption | omega | (simp only [ZDI]; omega)) only [*, lenV, G26, Za, Zb, Zc, Zd, Ze, Zf, Zg, Zh, Zi, Zj, Zk, Zl, Zm, Zn, Zo, Ja, Jb, Jc, J3, Jd, Je, J4, J5, Jf, Jg, Jh, Ji, Jj, Jk, J6, Jl, Jm, wr, Jn, J7, J8, Jo, Jp, Jq, Jr, Js, Jt, Ju, Jv, Jw, Jx, Jy, Jz, J0, J1, J2, reduceCtorEq, J9, JA, JB, JC, JD, JE, JF, JG]) | ((with_reducible (first | apply Ok.br | apply Ok.gd | apply Ok.ld)) <;> (intro g; (try simp only [ZGS] at g); try (exfalso; omega)))))
            exact Turn.next (l.length - (i + 1)) (by omega) ⟨rfl, i + 1, _, _, rfl, by omega, rfl, rfl, rfl, hno3.out⟩
    · have hlt' : ¬ (i : Int) < (l.length : Int) := by omega
      (repeat' (first | (simp -implicitDefEqProofs (maxSteps := 1000000) (disch := first | assumption | omega | (simp only [ZDI]; omega)) only [*, lenV, G26, Za, Zb, Zc, Zd, Ze, Zf, Zg, Zh, Zi, Zj, Zk, Zl, Zm, Zn, Zo, Ja, Jb, Jc, J3, Jd, Je, J4, J5, Jf, Jg, Jh, Ji, Jj, Jk, J6, Jl, Jm, wr, Jn, J7, J8, Jo, Jp, Jq, Jr, Js, Jt, Ju, Jv, Jw, Jx, Jy, Jz, J0, J1, J2, reduceCtorEq, J9, JA, JB, JC, JD, JE, JF, JG]) | ((with_reducible (first | apply Ok.br | apply Ok.gd | apply Ok.ld)) <;> (intro g; (try simp only [ZGS] at g); try (exfalso; omega)))))
      refine Turn.exit ⟨rfl, rfl, ⟨_, _, rfl⟩, .inl ⟨rfl, ?_⟩⟩
      have := hno'.out
      rwa [List.take_of_length_le (by omega)] at this
  · intro y ⟨e', l', H'⟩ hW ⟨k3, ⟨k, cs, k2⟩, hy⟩
    dsimp only at hW k2 k3 hy
    subst l' H'
    rw [hW.spread]
    clear hW
    rcases hy with ⟨rfl, hm⟩ | ⟨rfl, hm, h4⟩
    · simp only [spread_t, spread_f, spread_n, Nat.zero_add, Nat.reduceAdd]
      (repeat' (first | (simp -implicitDefEqProofs (maxSteps := 1000000) (disch := first | assumption | omega | (simp only [ZDI]; omega)) only [*, G26, Za, Zb, Zc, Zd, Ze, Zf, Zg, Zh, Zi, Zj, Zk, Zl, Zm, Zn, Zo, Ja, Jb, Jc, J3, Jd, Je, J4, J5, Jf, Jg, Jh, Ji, Jj, Jk, J6, Jl, Jm, wr, Jn, J7, J8, Jo, Jp, Jq, Jr, Js, Jt, Ju, Jv, Jw, Jx, Jy, Jz, J0, J1, J2, reduceCtorEq, J9, JA, JB, JC, JD, JE, JF, JG]) | ((with_reducible (first | apply Ok.br | apply Ok.gd | apply Ok.ld)) <;> (intro g; (try simp only [ZGS] at g); try (exfalso; omega)))))
      exact hQ'.out _ (by rw [decide_eq_false hm])
    · simp only [spread_t, spread_f, spread_n, Nat.zero_add, Nat.reduceAdd, h4]
      (repeat' (first | (simp -implicitDefEqProofs (maxSteps := 1000000) (disch := first | assumption | omega | (simp only [ZDI]; omega)) only [*, G26, Za, Zb, Zc, Zd, Ze, Zf, Zg, Zh, Zi, Zj, Zk, Zl, Zm, Zn, Zo, Ja, Jb, Jc, J3, Jd, Je, J4, J5, Jf, Jg, Jh, Ji, Jj, Jk, J6, Jl, Jm, wr, Jn, J7, J8, Jo, Jp, Jq, Jr, Js, Jt, Ju, Jv, Jw, Jx, Jy, Jz, J0, J1, J2, reduceCtorEq, J9, JA, JB, JC, JD, JE, JF, JG]) | ((with_reducible (first | apply Ok.br | apply Ok.gd | apply Ok.ld)) <;> (intro g; (try simp only [ZGS] at g); try (exfalso; omega)))))
      exact hQ'.out _ (by rw [decide_eq_true hm])
end Go.Ev
set_option maxRecDepth 100000
namespace Go.Ev
open Go.Ev renaming exPure -> Ja, ofValue -> Jb, cellsV -> Jc, load -> Jd, store -> Je, binOp -> Jf, intOp -> Jg, rdV -> Jh, vsame -> Ji, vsames -> Jj, makeSliceV -> Jk, resV -> Jl, isCell -> Jm, nilCheckV -> Jn, allV -> Jo, builtinV -> Jp, lenV -> Jq, indexAddrV -> Jr, unOp -> Js, minmaxV -> Jt, minmax -> Ju, sliceV -> Jv, asInt -> Jw, appendV -> Jx, copyV -> Jy, clearV -> Jz, convV -> J0, sliceCells -> J1, shift -> J2
open Bool renaming true -> BT, false -> BF
open Nat renaming reduceEqDiff -> J3, reduceLT -> J4, reduceAdd -> J5, reduceBEq -> J6, reduceSub -> J7, reduceMul -> J8, reduceLeDiff -> JG
open Int renaming reduceLT -> J9, reduceLE -> JA, reduceAdd -> JB, reduceSub -> JC, reduceNeg -> JD, reduceToNat -> JE, reduceEq -> JF
open Go.Proofs
structure In where
  (l i bn bd vn vd st : Int) (sm : Bool) (o c q f t : Int) (dv : V) (dl : List ByteArray) (sq : Int) (pv : V) (pl : List RP)
def inV (x : In) : List V := [.int .i64 x.l, .int .i64 x.i, .int .i64 x.bn, .int .i64 x.bd, .int .i64 x.vn, .int .i64 x.vd, .int .i64 x.st, .bool x.sm, .int .i64 x.o, .int .i64 x.c, .int .i64 x.q, .int .i64 x.f, .int .i64 x.t, x.dv, .int .i64 x.sq, x.pv]
def InAt (h : Heap) (x : In) : Prop := StrsAt h x.dv x.dl /\ RowAt h x.pv x.pl
theorem StrsAt.sl {h : Heap} {v : V} {l : List ByteArray} (hs : StrsAt h v l) : ∃ a cap z, v = .sl a l.length cap z := let ⟨a, cap, z, e, _⟩ := hs; ⟨a, cap, z, e⟩
theorem RowAt.sl {h : Heap} {v : V} {l : List RP} (hs : RowAt h v l) : ∃ a cap z, v = .sl a l.length cap z := let ⟨a, cap, z, e, _⟩ := hs; ⟨a, cap, z, e⟩
theorem less_at (x y : RP) (h : Heap) : D X (.fn 78 []) [.agg [.int .i64 x.1, .int .i64 x.2], .agg [.int .i64 y.1, .int .i64 y.2]] h = some (.bool (ltR x y), h) := by
  refine Ok.eq ?_
  obtain ⟨x1, x2⟩ := x
  obtain ⟨y1, y2⟩ := y
  unfold ltR
  by_cases h1 : x1 = y1
  · by_cases h2 : x2 < y2
    · (refine Ok.body body78 pin78 ?_; simp only [c78, Try.f78, Option.getD_some, nslot78, List.append_nil, List.map, List.replicate, List.length_cons, List.length_nil, Nat.reduceAdd, Nat.reduceSub, List.cons_append, List.nil_append])
      (repeat' (first | (simp -implicitDefEqProofs (maxSteps := 1000000) (disch := first | assumption | omega | (simp only [ZDI]; omega)) only [*, lenV, G78, Za, Zb, Zc, Zd, Ze, Zf, Zg, Zh, Zi, Zj, Zk, Zl, Zm, Zn, Zo, Ja, Jb, Jc, J3, Jd, Je, J4, J5, Jf, Jg, Jh, Ji, Jj, Jk, J6, Jl, Jm, wr, Jn, J7, J8, Jo, Jp, Jq, Jr, Js, Jt, Ju, Jv, Jw, Jx, Jy, Jz, J0, J1, J2, reduceCtorEq, J9, JA, JB, JC, JD, JE, JF, JG]) | ((with_reducible (first | apply Ok.br | apply Ok.gd | apply Ok.ld)) <;> (intro g; (try simp only [ZGS] at g); try (exfalso; omega)))))
      all_goals simp [*]
    · (refine Ok.body body78 pin78 ?_; simp only [c78, Try.f78, Option.getD_some, nslot78, List.append_nil, List.map, List.replicate, List.length_cons, List.length_nil, Nat.reduceAdd, Nat.reduceSub, List.cons_append, List.nil_append])
      (repeat' (first | (simp -implicitDefEqProofs (maxSteps := 1000000) (disch := first | assumption | omega | (simp only [ZDI]; omega)) only [*, lenV, G78, Za, Zb, Zc, Zd, Ze, Zf, Zg, Zh, Zi, Zj, Zk, Zl, Zm, Zn, Zo, Ja, Jb, Jc, J3, Jd, Je, J4, J5, Jf, Jg, Jh, Ji, Jj, Jk, J6, Jl, Jm, wr, Jn, J7, J8, Jo, Jp, Jq, Jr, Js, Jt, Ju, Jv, Jw, Jx, Jy, Jz, J0, J1, J2, reduceCtorEq, J9, JA, JB, JC, JD, JE, JF, JG]) | ((with_reducible (first | apply Ok.br | apply Ok.gd | apply Ok.ld)) <;> (intro g; (try simp only [ZGS] at g); try (exfalso; omega)))))
      all_goals simp [*]
  · by_cases h2 : x1 < y1
    · (refine Ok.body body78 pin78 ?_; simp only [c78, Try.f78, Option.getD_some, nslot78, List.append_nil, List.map, List.replicate, List.length_cons, List.length_nil, Nat.reduceAdd, Nat.reduceSub, List.cons_append, List.nil_append])
      (repeat' (first | (simp -implicitDefEqProofs (maxSteps := 1000000) (disch := first | assumption | omega | (simp only [ZDI]; omega)) only [*, lenV, G78, Za, Zb, Zc, Zd, Ze, Zf, Zg, Zh, Zi, Zj, Zk, Zl, Zm, Zn, Zo, Ja, Jb, Jc, J3, Jd, Je, J4, J5, Jf, Jg, Jh, Ji, Jj, Jk, J6, Jl, Jm, wr, Jn, J7, J8, Jo, Jp, Jq, Jr, Js, Jt, Ju, Jv, Jw, Jx, Jy, Jz, J0, J1, J2, reduceCtorEq, J9, JA, JB, JC, JD, JE, JF, JG]) | ((with_reducible (first | apply Ok.br | apply Ok.gd | apply Ok.ld)) <;> (intro g; (try simp only [ZGS] at g); try (exfalso; omega)))))
      all_goals simp [*]
    · (refine Ok.body body78 pin78 ?_; simp only [c78, Try.f78, Option.getD_some, nslot78, List.append_nil, List.map, List.replicate, List.length_cons, List.length_nil, Nat.reduceAdd, Nat.reduceSub, List.cons_append, List.nil_append])
      (repeat' (first | (simp -implicitDefEqProofs (maxSteps := 1000000) (disch := first | assumption | omega | (simp only [ZDI]; omega)) only [*, lenV, G78, Za, Zb, Zc, Zd, Ze, Zf, Zg, Zh, Zi, Zj, Zk, Zl, Zm, Zn, Zo, Ja, Jb, Jc, J3, Jd, Je, J4, J5, Jf, Jg, Jh, Ji, Jj, Jk, J6, Jl, Jm, wr, Jn, J7, J8, Jo, Jp, Jq, Jr, Js, Jt, Ju, Jv, Jw, Jx, Jy, Jz, J0, J1, J2, reduceCtorEq, J9, JA, JB, JC, JD, JE, JF, JG]) | ((with_reducible (first | apply Ok.br | apply Ok.gd | apply Ok.ld)) <;> (intro g; (try simp only [ZGS] at g); try (exfalso; omega)))))
      all_goals simp [*]
def refP (l i : Int) : Prop := 0 <= l /\ l < 7 /\ 1 <= i /\ i <= 1073741824
instance (l i : Int) : Decidable (refP l i) := by unfold refP; infer_instance
theorem isRef_at (l i : Int) (h : Heap) : D X (.fn 43 []) [.agg [.int .i64 l, .int .i64 i]] h = some (.bool (decide (refP l i)), h) := by
  refine Ok.eq ?_
  (refine Ok.body body43 pin43 ?_; simp only [c43, Try.f43, Option.getD_some, nslot43, List.append_nil, List.map, List.replicate, List.length_cons, List.length_nil, Nat.reduceAdd, Nat.reduceSub, List.cons_append, List.nil_append])
  (repeat' (first | (simp -implicitDefEqProofs (maxSteps := 1000000) (disch := first | assumption | omega | (simp only [ZDI]; omega)) only [*, G43, Za, Zb, Zc, Zd, Ze, Zf, Zg, Zh, Zi, Zj, Zk, Zl, Zm, Zn, Zo, Ja, Jb, Jc, J3, Jd, Je, J4, J5, Jf, Jg, Jh, Ji, Jj, Jk, J6, Jl, Jm, wr, Jn, J7, J8, Jo, Jp, Jq, Jr, Js, Jt, Ju, Jv, Jw, Jx, Jy, Jz, J0, J1, J2, reduceCtorEq, J9, JA, JB, JC, JD, JE, JF, JG]) | ((with_reducible (first | apply Ok.br | apply Ok.gd | apply Ok.ld)) <;> (intro g; (try simp only [ZGS] at g); try (exfalso; omega)))))
  all_goals (first | rfl | (exfalso; omega) | exact leaf_t (by (try unfold refP); (try simp only [Bool.and_eq_true, Bool.or_eq_true, decide_eq_true_eq, Bool.not_eq_true', decide_eq_false_iff_not, Bool.false_eq_true, Bool.true_eq_false, Bool.not_false, Bool.not_true, eq_self, iff_true, iff_false, true_iff, false_iff, false_or, true_or, or_false, or_true, true_and, and_true, false_and, and_false, not_true_eq_false, not_false_eq_true]); (first | done | omega)) | exact leaf_f (by (try unfold refP); (try simp only [Bool.and_eq_true, Bool.or_eq_true, decide_eq_true_eq, Bool.not_eq_true', decide_eq_false_iff_not, Bool.false_eq_true, Bool.true_eq_false, Bool.not_false, Bool.not_true, eq_self, iff_true, iff_false, true_iff, false_iff, false_or, true_or, or_false, or_true, true_and, and_true, false_and, and_false, not_true_eq_false, not_false_eq_true]); (first | done | omega)) | exact leaf_b (by (try unfold refP); (try simp only [Bool.and_eq_true, Bool.or_eq_true, decide_eq_true_eq, Bool.not_eq_true', decide_eq_false_iff_not, Bool.false_eq_true, Bool.true_eq_false, Bool.not_false, Bool.not_true, eq_self, iff_true, iff_false, true_iff, false_iff, false_or, true_or, or_false, or_true, true_and, and_true, false_and, and_false, not_true_eq_false, not_false_eq_true]); (first | done | omega)))
def balP (n d : Int) : Prop := 0 <= n /\ n <= 1073741824 /\ 0 <= d /\ d < 7
instance (n d : Int) : Decidable (balP n d) := by unfold balP; infer_instance
theorem isBallot_at (n d : Int) (h : Heap) : D X (.fn 44 []) [.agg [.int .i64 n, .int .i64 d]] h = some (.bool (decide (balP n d)), h) := by
  refine Ok.eq ?_
  (refine Ok.body body44 pin44 ?_; simp only [c44, Try.f44, Option.getD_some, nslot44, List.append_nil, List.map, List.replicate, List.length_cons, List.length_nil, Nat.reduceAdd, Nat.reduceSub, List.cons_append, List.nil_append])
  (repeat' (first | (simp -implicitDefEqProofs (maxSteps := 1000000) (disch := first | assumption | omega | (simp only [ZDI]; omega)) only [*, G44, Za, Zb, Zc, Zd, Ze, Zf, Zg, Zh, Zi, Zj, Zk, Zl, Zm, Zn, Zo, Ja, Jb, Jc, J3, Jd, Je, J4, J5, Jf, Jg, Jh, Ji, Jj, Jk, J6, Jl, Jm, wr, Jn, J7, J8, Jo, Jp, Jq, Jr, Js, Jt, Ju, Jv, Jw, Jx, Jy, Jz, J0, J1, J2, reduceCtorEq, J9, JA, JB, JC, JD, JE, JF, JG]) | ((with_reducible (first | apply Ok.br | apply Ok.gd | apply Ok.ld)) <;> (intro g; (try simp only [ZGS] at g); try (exfalso; omega)))))
  all_goals (first | rfl | (exfalso; omega) | exact leaf_t (by (try unfold balP); (try simp only [Bool.and_eq_true, Bool.or_eq_true, decide_eq_true_eq, Bool.not_eq_true', decide_eq_false_iff_not, Bool.false_eq_true, Bool.true_eq_false, Bool.not_false, Bool.not_true, eq_self, iff_true, iff_false, true_iff, false_iff, false_or, true_or, or_false, or_true, true_and, and_true, false_and, and_false, not_true_eq_false, not_false_eq_true]); (first | done | omega)) | exact leaf_f (by (try unfold balP); (try simp only [Bool.and_eq_true, Bool.or_eq_true, decide_eq_true_eq, Bool.not_eq_true', decide_eq_false_iff_not, Bool.false_eq_true, Bool.true_eq_false, Bool.not_false, Bool.not_true, eq_self, iff_true, iff_false, true_iff, false_iff, false_or, true_or, or_false, or_true, true_and, and_true, false_and, and_false, not_true_eq_false, not_false_eq_true]); (first | done | omega)) | exact leaf_b (by (try unfold balP); (try simp only [Bool.and_eq_true, Bool.or_eq_true, decide_eq_true_eq, Bool.not_eq_true', decide_eq_false_iff_not, Bool.false_eq_true, Bool.true_eq_false, Bool.not_false, Bool.not_true, eq_self, iff_true, iff_false, true_iff, false_iff, false_or, true_or, or_false, or_true, true_and, and_true, false_and, and_false, not_true_eq_false, not_false_eq_true]); (first | done | omega)))
def lsP (a b c d : Int) : Prop := a < c \/ (a = c /\ b < d)
instance (a b c d : Int) : Decidable (lsP a b c d) := by unfold lsP; infer_instance
theorem lessBallot_at (a b c d : Int) (h : Heap) : D X (.fn 18 []) [.agg [.int .i64 a, .int .i64 b], .agg [.int .i64 c, .int .i64 d]] h = some (.bool (decide (lsP a b c d)), h) := by
  refine Ok.eq ?_
  by_cases h1 : a = c
  · (refine Ok.body body18 pin18 ?_; simp only [c18, Try.f18, Option.getD_some, nslot18, List.append_nil, List.map, List.replicate, List.length_cons, List.length_nil, Nat.reduceAdd, Nat.reduceSub, List.cons_append, List.nil_append])
    (repeat' (first | (simp -implicitDefEqProofs (maxSteps := 1000000) (disch := first | assumption | omega | (simp only [ZDI]; omega)) only [*, eq_self, G18, Za, Zb, Zc, Zd, Ze, Zf, Zg, Zh, Zi, Zj, Zk, Zl, Zm, Zn, Zo, Ja, Jb, Jc, J3, Jd, Je, J4, J5, Jf, Jg, Jh, Ji, Jj, Jk, J6, Jl, Jm, wr, Jn, J7, J8, Jo, Jp, Jq, Jr, Js, Jt, Ju, Jv, Jw, Jx, Jy, Jz, J0, J1, J2, reduceCtorEq, J9, JA, JB, JC, JD, JE, JF, JG]) | ((with_reducible (first | apply Ok.br | apply Ok.gd | apply Ok.ld)) <;> (intro g; (try simp only [ZGS] at g); try (exfalso; omega)))))
    all_goals (first | rfl | (exfalso; omega) | exact leaf_t (by (try unfold lsP); (try simp only [Bool.and_eq_true, Bool.or_eq_true, decide_eq_true_eq, Bool.not_eq_true', decide_eq_false_iff_not, Bool.false_eq_true, Bool.true_eq_false, Bool.not_false, Bool.not_true, eq_self, iff_true, iff_false, true_iff, false_iff, false_or, true_or, or_false, or_true, true_and, and_true, false_and, and_false, not_true_eq_false, not_false_eq_true]); (first | done | omega)) | exact leaf_f (by (try unfold lsP); (try simp only [Bool.and_eq_true, Bool.or_eq_true, decide_eq_true_eq, Bool.not_eq_true', decide_eq_false_iff_not, Bool.false_eq_true, Bool.true_eq_false, Bool.not_false, Bool.not_true, eq_self, iff_true, iff_false, true_iff, false_iff, false_or, true_or, or_false, or_true, true_and, and_true, false_and, and_false, not_true_eq_false, not_false_eq_true]); (first | done | omega)) | exact leaf_b (by (try unfold lsP); (try simp only [Bool.and_eq_true, Bool.or_eq_true, decide_eq_true_eq, Bool.not_eq_true', decide_eq_false_iff_not, Bool.false_eq_true, Bool.true_eq_false, Bool.not_false, Bool.not_true, eq_self, iff_true, iff_false, true_iff, false_iff, false_or, true_or, or_false, or_true, true_and, and_true, false_and, and_false, not_true_eq_false, not_false_eq_true]); (first | done | omega)))
  · (refine Ok.body body18 pin18 ?_; simp only [c18, Try.f18, Option.getD_some, nslot18, List.append_nil, List.map, List.replicate, List.length_cons, List.length_nil, Nat.reduceAdd, Nat.reduceSub, List.cons_append, List.nil_append])
    (repeat' (first | (simp -implicitDefEqProofs (maxSteps := 1000000) (disch := first | assumption | omega | (simp only [ZDI]; omega)) only [*, G18, Za, Zb, Zc, Zd, Ze, Zf, Zg, Zh, Zi, Zj, Zk, Zl, Zm, Zn, Zo, Ja, Jb, Jc, J3, Jd, Je, J4, J5, Jf, Jg, Jh, Ji, Jj, Jk, J6, Jl, Jm, wr, Jn, J7, J8, Jo, Jp, Jq, Jr, Js, Jt, Ju, Jv, Jw, Jx, Jy, Jz, J0, J1, J2, reduceCtorEq, J9, JA, JB, JC, JD, JE, JF, JG]) | ((with_reducible (first | apply Ok.br | apply Ok.gd | apply Ok.ld)) <;> (intro g; (try simp only [ZGS] at g); try (exfalso; omega)))))
    all_goals (first | rfl | (exfalso; omega) | exact leaf_t (by (try unfold lsP); (try simp only [Bool.and_eq_true, Bool.or_eq_true, decide_eq_true_eq, Bool.not_eq_true', decide_eq_false_iff_not, Bool.false_eq_true, Bool.true_eq_false, Bool.not_false, Bool.not_true, eq_self, iff_true, iff_false, true_iff, false_iff, false_or, true_or, or_false, or_true, true_and, and_true, false_and, and_false, not_true_eq_false, not_false_eq_true]); (first | done | omega)) | exact leaf_f (by (try unfold lsP); (try simp only [Bool.and_eq_true, Bool.or_eq_true, decide_eq_true_eq, Bool.not_eq_true', decide_eq_false_iff_not, Bool.false_eq_true, Bool.true_eq_false, Bool.not_false, Bool.not_true, eq_self, iff_true, iff_false, true_iff, false_iff, false_or, true_or, or_false, or_true, true_and, and_true, false_and, and_false, not_true_eq_false, not_false_eq_true]); (first | done | omega)) | exact leaf_b (by (try unfold lsP); (try simp only [Bool.and_eq_true, Bool.or_eq_true, decide_eq_true_eq, Bool.not_eq_true', decide_eq_false_iff_not, Bool.false_eq_true, Bool.true_eq_false, Bool.not_false, Bool.not_true, eq_self, iff_true, iff_false, true_iff, false_iff, false_or, true_or, or_false, or_true, true_and, and_true, false_and, and_false, not_true_eq_false, not_false_eq_true]); (first | done | omega)))
def smC (o c q f t o' c' q' f' t' : Int) : Prop := o = o' /\ c = c' /\ q = q' /\ f = f' /\ t = t'
instance (o c q f t o' c' q' f' t' : Int) : Decidable (smC o c q f t o' c' q' f' t') := by unfold smC; infer_instance
theorem truth (P : Prop) [Decidable P] : ∃ b, decide P = b /\ Hid (P -> b = true) /\ Hid (¬ P -> b = false) := ⟨decide P, rfl, ⟨fun h => decide_eq_true h⟩, ⟨fun h => decide_eq_false h⟩⟩
theorem sameCmd_at {h : Heap} {o c q f t o' c' q' f' t' : Int} {v w : V} {l m : List ByteArray} (hr : StrsAt h v l) (hs : StrsAt h w m) :
    D X (.fn 51 []) [.agg [.int .i64 o, .int .i64 c, .int .i64 q, .int .i64 f, .int .i64 t, v], .agg [.int .i64 o', .int .i64 c', .int .i64 q', .int .i64 f', .int .i64 t', w]] h = some (.bool (decide (smC o c q f t o' c' q' f' t') && decide (l = m)), h) := by
  refine Ok.eq ?_
  have he := equalS_at hr hs
  obtain ⟨a, cap, z, rfl⟩ := hr.sl
  obtain ⟨a2, cap2, z2, rfl⟩ := hs.sl
  clear hr hs
  generalize decide (l = m) = e at he ⊢
  obtain ⟨b, hb, b1, b0⟩ := truth (smC o c q f t o' c' q' f' t')
  rw [hb]
  clear hb
  (refine Ok.body body51 pin51 ?_; simp only [c51, Try.f51, Option.getD_some, nslot51, List.append_nil, List.map, List.replicate, List.length_cons, List.length_nil, Nat.reduceAdd, Nat.reduceSub, List.cons_append, List.nil_append])
  (repeat' (first | (simp -implicitDefEqProofs (maxSteps := 1000000) (disch := first | assumption | omega | (simp only [ZDI]; omega)) only [*, G51, Za, Zb, Zc, Zd, Ze, Zf, Zg, Zh, Zi, Zj, Zk, Zl, Zm, Zn, Zo, Ja, Jb, Jc, J3, Jd, Je, J4, J5, Jf, Jg, Jh, Ji, Jj, Jk, J6, Jl, Jm, wr, Jn, J7, J8, Jo, Jp, Jq, Jr, Js, Jt, Ju, Jv, Jw, Jx, Jy, Jz, J0, J1, J2, reduceCtorEq, J9, JA, JB, JC, JD, JE, JF, JG]) | ((with_reducible (first | apply Ok.br | apply Ok.gd | apply Ok.ld)) <;> (intro g; (try simp only [ZGS] at g); try (exfalso; omega)))))
  all_goals first
    | (rw [b1.out (by unfold smC; omega)]; rfl)
    | (rw [b0.out (by unfold smC; omega)]; rfl)
def smN (x y : In) : Prop := x.l = y.l /\ x.i = y.i /\ x.bn = y.bn /\ x.bd = y.bd /\ x.vn = y.vn /\ x.vd = y.vd /\ x.st = y.st /\ x.sq = y.sq
instance (x y : In) : Decidable (smN x y) := by unfold smN; infer_instance
def smB (x y : In) : Bool := decide (smN x y) && (x.sm == y.sm) && (decide (smC x.o x.c x.q x.f x.t y.o y.c y.q y.f y.t) && decide (x.dl = y.dl)) && decide (x.pl = y.pl)
set_option maxHeartbeats 2000000 in
theorem same_at {h : Heap} {x y : In} (hx : InAt h x) (hy : InAt h y) : D X (.fn 16 []) [.agg (inV x), .agg (inV y)] h = some (.bool (smB x y), h) := by
  refine Ok.eq ?_
  have h1 := sameCmd_at (o := x.o) (c := x.c) (q := x.q) (f := x.f) (t := x.t) (o' := y.o) (c' := y.c) (q' := y.q) (f' := y.f) (t' := y.t) hx.1 hy.1
  have h2 := equalR_at hx.2 hy.2
  obtain ⟨a, cap, z, e1⟩ := hx.1.sl
  obtain ⟨a2, cap2, z2, e2⟩ := hy.1.sl
  obtain ⟨a3, cap3, z3, e3⟩ := hx.2.sl
  obtain ⟨a4, cap4, z4, e4⟩ := hy.2.sl
  rw [e1, e2] at h1
  rw [e3, e4] at h2
  clear hx hy
  unfold smB
  simp only [inV, e1, e2, e3, e4]
  clear e1 e2 e3 e4
  generalize (decide (smC x.o x.c x.q x.f x.t y.o y.c y.q y.f y.t) && decide (x.dl = y.dl)) = A at h1 ⊢
  generalize decide (x.pl = y.pl) = B at h2 ⊢
  obtain ⟨b, hb, b1, b0⟩ := truth (smN x y)
  rw [hb]
  clear hb
  generalize hsm : (x.sm == y.sm) = s
  (refine Ok.body body16 pin16 ?_; simp only [c16, Try.f16, Option.getD_some, nslot16, List.append_nil, List.map, List.replicate, List.length_cons, List.length_nil, Nat.reduceAdd, Nat.reduceSub, List.cons_append, List.nil_append])
  (repeat' (first | (simp -implicitDefEqProofs (maxSteps := 1000000) (disch := first | assumption | omega | (simp only [ZDI]; omega)) only [*, G16, Za, Zb, Zc, Zd, Ze, Zf, Zg, Zh, Zi, Zj, Zk, Zl, Zm, Zn, Zo, Ja, Jb, Jc, J3, Jd, Je, J4, J5, Jf, Jg, Jh, Ji, Jj, Jk, J6, Jl, Jm, wr, Jn, J7, J8, Jo, Jp, Jq, Jr, Js, Jt, Ju, Jv, Jw, Jx, Jy, Jz, J0, J1, J2, reduceCtorEq, J9, JA, JB, JC, JD, JE, JF, JG]) | ((with_reducible (first | apply Ok.br | apply Ok.gd | apply Ok.ld)) <;> (intro g; (try simp only [ZGS] at g); try (exfalso; omega)))))
  all_goals (try simp only [Bool.and_eq_true, Bool.and_eq_false_iff, decide_eq_true_eq, decide_eq_false_iff_not] at *)
  all_goals first
    | (rw [b1.out (by unfold smN; omega)]; simp [*]; done)
    | (rw [b0.out (by unfold smN; omega)]; simp; done)
    | (simp [*]; done)
end Go.Ev
set_option maxRecDepth 100000
namespace Go.Ev
open Go.Ev renaming exPure -> Ja, ofValue -> Jb, cellsV -> Jc, load -> Jd, store -> Je, binOp -> Jf, intOp -> Jg, rdV -> Jh, vsame -> Ji, vsames -> Jj, makeSliceV -> Jk, resV -> Jl, isCell -> Jm, nilCheckV -> Jn, allV -> Jo, builtinV -> Jp, lenV -> Jq, indexAddrV -> Jr, unOp -> Js, minmaxV -> Jt, minmax -> Ju, sliceV -> Jv, asInt -> Jw, appendV -> Jx, copyV -> Jy, clearV -> Jz, convV -> J0, sliceCells -> J1, shift -> J2
open Bool renaming true -> BT, false -> BF
open Nat renaming reduceEqDiff -> J3, reduceLT -> J4, reduceAdd -> J5, reduceBEq -> J6, reduceSub -> J7, reduceMul -> J8, reduceLeDiff -> JG
open Int renaming reduceLT -> J9, reduceLE -> JA, reduceAdd -> JB, reduceSub -> JC, reduceNeg -> JD, reduceToNat -> JE, reduceEq -> JF
open Go.Proofs
def prvB (p : Option RP) (y : RP) : Bool := match p with | none => true | some p => ltR p y
def risB : Option RP -> List RP -> Bool
  | _, [] => true
  | p, y :: r => decide (refP y.1 y.2) && prvB p y && risB (some y) r
def prv (l : List RP) (i : Nat) : Option RP := if i = 0 then none else l[i - 1]?
theorem risB_step {l : List RP} {i : Nat} {y : RP} (hy : l[i]? = some y) : risB (prv l i) (l.drop i) = (decide (refP y.1 y.2) && prvB (prv l i) y && risB (prv l (i + 1)) (l.drop (i + 1))) := by
  have hi := (List.getElem?_eq_some_iff.1 hy).1
  rw [List.drop_eq_getElem_cons hi]
  have e : l[i] = y := by rw [List.getElem?_eq_getElem hi] at hy; exact Option.some.inj hy
  have e2 : prv l (i + 1) = some y := by unfold prv; rw [if_neg (by omega), Nat.add_sub_cancel, hy]
  rw [e, e2, risB]
theorem risB_end {l : List RP} {i : Nat} (h : l.length <= i) : risB (prv l i) (l.drop i) = true := by
  rw [List.drop_of_length_le h, risB]
set_option maxHeartbeats 2000000 in
theorem rising_at {h : Heap} {v : V} {l : List RP} (hr : RowAt h v l) : D X (.fn 47 []) [v] h = some (.bool (risB none l && decide ((l.length : Int) <= 4096)), h) := by
  refine Ok.eq ?_
  refine Ok.aim fun Q hQ => ?_
  have hQ' := Hid.mk hQ
  clear hQ
  obtain ⟨a, cap, z, rfl, h1, h1', h2⟩ := hr
  have h2' := Hid.mk h2
  clear h2
  (refine Ok.body body47 pin47 ?_; simp only [c47, Try.f47, Option.getD_some, nslot47, List.append_nil, List.map, List.replicate, List.length_cons, List.length_nil, Nat.reduceAdd, Nat.reduceSub, List.cons_append, List.nil_append])
  (repeat' (first | (simp -implicitDefEqProofs (maxSteps := 1000000) (disch := first | assumption | omega | (simp only [ZDI]; omega)) only [*, lenV, G47, Za, Zb, Zc, Zd, Ze, Zf, Zg, Zh, Zi, Zj, Zk, Zl, Zm, Zn, Zo, Ja, Jb, Jc, J3, Jd, Je, J4, J5, Jf, Jg, Jh, Ji, Jj, Jk, J6, Jl, Jm, wr, Jn, J7, J8, Jo, Jp, Jq, Jr, Js, Jt, Ju, Jv, Jw, Jx, Jy, Jz, J0, J1, J2, reduceCtorEq, J9, JA, JB, JC, JD, JE, JF, JG]) | ((with_reducible (first | apply Ok.br | apply Ok.gd | apply Ok.ld)) <;> (intro g; (try simp only [ZGS] at g); try (exfalso; omega)))))
  refine Ok.loop [BF, BF, BT, BT, BT, BF, BF, BT, BT, BT, BT, BT, BT, BT, BT, BT, BT, BT, BT, BT, BT, BT, BT, BT, BT, BT, BT, BT, BT, BT, BF, BF, BF] (fun n s2 => ∃ (i w0 : Nat) (q0 : List V), n = l.length - i /\ i <= l.length /\ tv s2.e 7 = .v (.int .i64 i) /\ s2.l = [(w0, q0)] /\ s2.h = h /\ risB none l = risB (prv l i) (l.drop i))
    (fun y s2 => s2.h = h /\ (∃ (w0 : Nat) (q0 : List V), s2.l = [(w0, q0)]) /\ ((y = .exit 0 /\ risB none l = true) \/ (y = .ret /\ risB none l = false /\ tv s2.e 2 = .v (.bool false)))) (l.length - 0) ⟨0, 0, [], rfl, Nat.zero_le _, rfl, rfl, rfl, rfl⟩ ?_ ?_
  · intro n ⟨e', l', H'⟩ hW ⟨i, w0, q0, hm, hi, h9, k2, k3, hno⟩
    dsimp only at hW h9 k2 k3
    subst l' H'
    rw [hW.spread]
    simp only [spread_t, spread_f, spread_n, Nat.zero_add, Nat.reduceAdd, h9]
    clear hW hQ'
    by_cases hlt : i < l.length
    · have hlt' : (i : Int) < (l.length : Int) := by omega
      have g1 : 0 <= (i : Int) /\ (i : Int) < (l.length : Int) := by omega
      rcases h2'.out with rfl | ⟨b, g, o, rw, full, rfl, hb, hfull, ho⟩
      · simp at hlt
      · obtain ⟨⟨y1, y2⟩, hy⟩ : ∃ y, l[i]? = some y := ⟨_, List.getElem?_eq_getElem hlt⟩
        have hf := hfull i _ hy
        rw [risB_step hy] at hno
        dsimp only at hf hno
        have hr1 := isRef_at y1 y2 h
        generalize decide (refP y1 y2) = rb at hr1 hno
        by_cases h0 : i = 0
        · have hp : prvB (prv l i) (y1, y2) = true := by unfold prv; rw [if_pos h0]; rfl
          rw [hp] at hno
          have g0 : ¬ (0 : Int) < (i : Int) := by omega
          have hno' := Hid.mk hno
          clear hno hy hfull hp h0
          cases rb
          · (repeat' (first | (simp -implicitDefEqProofs (maxSteps := 1000000) (disch := first | assumption | omega | (simp only [ZDI]; omega)) only [*, lenV, G47, Za, Zb, Zc, Zd, Ze, Zf, Zg, Zh, Zi, Zj, Zk, Zl, Zm, Zn, Zo, Ja, Jb, Jc, J3, Jd, Je, J4, J5, Jf, Jg, Jh, Ji, Jj, Jk, J6, Jl, Jm, wr, Jn, J7, J8, Jo, Jp, Jq, Jr, Js, Jt, Ju, Jv, Jw, Jx, Jy, Jz, J0, J1, J2, reduceCtorEq, J9, JA, JB, JC, JD, JE, JF, JG]) | ((with_reducible (first | apply Ok.br | apply Ok.gd | apply Ok.ld)) <;> (intro g; (try simp only [ZGS] at g); try (exfalso; omega)))))
            exact Turn.ret ⟨rfl, rfl, ⟨_, _, rfl⟩, .inr ⟨rfl, by rw [hno'.out]; rfl, rfl⟩⟩
          · (repeat' (first | (simp -implicitDefEqProofs (maxSteps := 1000000) (disch := first | assumption | omega | (simp only [ZDI]; omega)) only [*, lenV, G47, Za, Zb, Zc, Zd, Ze, Zf, Zg, Zh, Zi, Zj, Zk, Zl, Zm, Zn, Zo, Ja, Jb, Jc, J3, Jd, Je, J4, J5, Jf, Jg, Jh, Ji, Jj, Jk, J6, Jl, Jm, wr, Jn, J7, J8, Jo, Jp, Jq, Jr, Js, Jt, Ju, Jv, Jw, Jx, Jy, Jz, J0, J1, J2, reduceCtorEq, J9, JA, JB, JC, JD, JE, JF, JG]) | ((with_reducible (first | apply Ok.br | apply Ok.gd | apply Ok.ld)) <;> (intro g; (try simp only [ZGS] at g); try (exfalso; omega)))))
            exact Turn.next (l.length - (i + 1)) (by omega) ⟨rfl, i + 1, _, _, by omega, by omega, rfl, rfl, rfl, by rw [hno'.out]; rfl⟩
        · obtain ⟨⟨x1, x2⟩, hx⟩ : ∃ x, l[i - 1]? = some x := ⟨_, List.getElem?_eq_getElem (by omega)⟩
          have hf2 := hfull (i - 1) _ hx
          dsimp only at hf2
          have hp : prvB (prv l i) (y1, y2) = ltR (x1, x2) (y1, y2) := by unfold prv; rw [if_neg h0, hx]; rfl
          rw [hp] at hno
          have hl1 := less_at (x1, x2) (y1, y2) h
          dsimp only at hl1
          generalize ltR (x1, x2) (y1, y2) = lb at hl1 hno
          have e1 : (i : Int) - 1 = ((i - 1 : Nat) : Int) := by omega
          have g0 : (0 : Int) < (i : Int) := by omega
          have g2 : 0 <= ((i - 1 : Nat) : Int) /\ ((i - 1 : Nat) : Int) < (l.length : Int) := by omega
          have hno' := Hid.mk hno
          clear hno hy hfull hp hx
          cases rb
          · (repeat' (first | (simp -implicitDefEqProofs (maxSteps := 1000000) (disch := first | assumption | omega | (simp only [ZDI]; omega)) only [*, lenV, G47, Za, Zb, Zc, Zd, Ze, Zf, Zg, Zh, Zi, Zj, Zk, Zl, Zm, Zn, Zo, Ja, Jb, Jc, J3, Jd, Je, J4, J5, Jf, Jg, Jh, Ji, Jj, Jk, J6, Jl, Jm, wr, Jn, J7, J8, Jo, Jp, Jq, Jr, Js, Jt, Ju, Jv, Jw, Jx, Jy, Jz, J0, J1, J2, reduceCtorEq, J9, JA, JB, JC, JD, JE, JF, JG]) | ((with_reducible (first | apply Ok.br | apply Ok.gd | apply Ok.ld)) <;> (intro g; (try simp only [ZGS] at g); try (exfalso; omega)))))
            exact Turn.ret ⟨rfl, rfl, ⟨_, _, rfl⟩, .inr ⟨rfl, by rw [hno'.out]; rfl, rfl⟩⟩
          · cases lb
            · (repeat' (first | (simp -implicitDefEqProofs (maxSteps := 1000000) (disch := first | assumption | omega | (simp only [ZDI]; omega)) only [*, lenV, G47, Za, Zb, Zc, Zd, Ze, Zf, Zg, Zh, Zi, Zj, Zk, Zl, Zm, Zn, Zo, Ja, Jb, Jc, J3, Jd, Je, J4, J5, Jf, Jg, Jh, Ji, Jj, Jk, J6, Jl, Jm, wr, Jn, J7, J8, Jo, Jp, Jq, Jr, Js, Jt, Ju, Jv, Jw, Jx, Jy, Jz, J0, J1, J2, reduceCtorEq, J9, JA, JB, JC, JD, JE, JF, JG]) | ((with_reducible (first | apply Ok.br | apply Ok.gd | apply Ok.ld)) <;> (intro g; (try simp only [ZGS] at g); try (exfalso; omega)))))
              exact Turn.ret ⟨rfl, rfl, ⟨_, _, rfl⟩, .inr ⟨rfl, by rw [hno'.out]; rfl, rfl⟩⟩
            · (repeat' (first | (simp -implicitDefEqProofs (maxSteps := 1000000) (disch := first | assumption | omega | (simp only [ZDI]; omega)) only [*, lenV, G47, Za, Zb, Zc, Zd, Ze, Zf, Zg, Zh, Zi, Zj, Zk, Zl, Zm, Zn, Zo, Ja, Jb, Jc, J3, Jd, Je, J4, J5, Jf, Jg, Jh, Ji, Jj, Jk, J6, Jl, Jm, wr, Jn, J7, J8, Jo, Jp, Jq, Jr, Js, Jt, Ju, Jv, Jw, Jx, Jy, Jz, J0, J1, J2, reduceCtorEq, J9, JA, JB, JC, JD, JE, JF, JG]) | ((with_reducible (first | apply Ok.br | apply Ok.gd | apply Ok.ld)) <;> (intro g; (try simp only [ZGS] at g); try (exfalso; omega)))))
              exact Turn.next (l.length - (i + 1)) (by omega) ⟨rfl, i + 1, _, _, by omega, by omega, rfl, rfl, rfl, by rw [hno'.out]; rfl⟩
    · have hlt' : ¬ (i : Int) < (l.length : Int) := by omega
      rw [risB_end (by omega)] at hno
      have hno' := Hid.mk hno
      clear hno
      (repeat' (first | (simp -implicitDefEqProofs (maxSteps := 1000000) (disch := first | assumption | omega | (simp only [ZDI]; omega)) only [*, lenV, G47, Za, Zb, Zc, Zd, Ze, Zf, Zg, Zh, Zi, Zj, Zk, Zl, Zm, Zn, Zo, Ja, Jb, Jc, J3, Jd, Je, J4, J5, Jf, Jg, Jh, Ji, Jj, Jk, J6, Jl, Jm, wr, Jn, J7, J8, Jo, Jp, Jq, Jr, Js, Jt, Ju, Jv, Jw, Jx, Jy, Jz, J0, J1, J2, reduceCtorEq, J9, JA, JB, JC, JD, JE, JF, JG]) | ((with_reducible (first | apply Ok.br | apply Ok.gd | apply Ok.ld)) <;> (intro g; (try simp only [ZGS] at g); try (exfalso; omega)))))
      exact Turn.exit ⟨rfl, rfl, ⟨_, _, rfl⟩, .inl ⟨rfl, hno'.out⟩⟩
  · intro y ⟨e', l', H'⟩ hW ⟨k3, ⟨w0, q0, k2⟩, hy⟩
    dsimp only at hW k2 k3 hy
    subst l' H'
    rw [hW.spread]
    clear hW
    rcases hy with ⟨rfl, hm⟩ | ⟨rfl, hm, h4⟩
    · simp only [spread_t, spread_f, spread_n, Nat.zero_add, Nat.reduceAdd]
      have hm' := Hid.mk hm
      clear hm
      (repeat' (first | (simp -implicitDefEqProofs (maxSteps := 1000000) (disch := first | assumption | omega | (simp only [ZDI]; omega)) only [*, lenV, G47, Za, Zb, Zc, Zd, Ze, Zf, Zg, Zh, Zi, Zj, Zk, Zl, Zm, Zn, Zo, Ja, Jb, Jc, J3, Jd, Je, J4, J5, Jf, Jg, Jh, Ji, Jj, Jk, J6, Jl, Jm, wr, Jn, J7, J8, Jo, Jp, Jq, Jr, Js, Jt, Ju, Jv, Jw, Jx, Jy, Jz, J0, J1, J2, reduceCtorEq, J9, JA, JB, JC, JD, JE, JF, JG]) | ((with_reducible (first | apply Ok.br | apply Ok.gd | apply Ok.ld)) <;> (intro g; (try simp only [ZGS] at g); try (exfalso; omega)))))
      exact hQ'.out _ (by rw [hm'.out, Bool.true_and])
    · simp only [spread_t, spread_f, spread_n, Nat.zero_add, Nat.reduceAdd, h4]
      have hm' := Hid.mk hm
      clear hm
      (repeat' (first | (simp -implicitDefEqProofs (maxSteps := 1000000) (disch := first | assumption | omega | (simp only [ZDI]; omega)) only [*, lenV, G47, Za, Zb, Zc, Zd, Ze, Zf, Zg, Zh, Zi, Zj, Zk, Zl, Zm, Zn, Zo, Ja, Jb, Jc, J3, Jd, Je, J4, J5, Jf, Jg, Jh, Ji, Jj, Jk, J6, Jl, Jm, wr, Jn, J7, J8, Jo, Jp, Jq, Jr, Js, Jt, Ju, Jv, Jw, Jx, Jy, Jz, J0, J1, J2, reduceCtorEq, J9, JA, JB, JC, JD, JE, JF, JG]) | ((with_reducible (first | apply Ok.br | apply Ok.gd | apply Ok.ld)) <;> (intro g; (try simp only [ZGS] at g); try (exfalso; omega)))))
      exact hQ'.out _ (by rw [hm'.out, Bool.false_and])
def zIn (x : In) : In := ⟨x.l, x.i, x.bn, x.bd, 0, 0, 0, false, 0, 0, 0, 0, 0, .sl .nil 0 0 0, [], 0, .sl .nil 0 0 0, []⟩
theorem InAt.zero (h : Heap) (x : In) : InAt h (zIn x) := ⟨⟨.nil, 0, 0, rfl, Nat.zero_le _, trivial, .inl rfl⟩, ⟨.nil, 0, 0, rfl, Nat.le_refl _, by decide, .inl rfl⟩⟩
def nonB (x : In) : Bool := decide (x.vn = 0 /\ x.vd = 0 /\ x.sq = 0) && !x.sm && (decide (smC x.o x.c x.q x.f x.t 0 0 0 0 0) && decide (x.dl = [])) && decide (x.pl = [])
theorem nonB_eq {x : In} (h : x.st = 0) : smB x (zIn x) = nonB x := by
  unfold smB nonB
  have e : smN x (zIn x) ↔ x.vn = 0 /\ x.vd = 0 /\ x.sq = 0 := by
    unfold smN zIn
    simp [h]
  have e2 : decide (smN x (zIn x)) = decide (x.vn = 0 /\ x.vd = 0 /\ x.sq = 0) := decide_eq_decide.2 e
  rw [e2]
  have e3 : (x.sm == (zIn x).sm) = !x.sm := by simp [zIn]
  rw [e3]
  rfl
theorem unknown_at {h : Heap} {x : In} (hx : InAt h x) : D X (.fn 45 []) [.agg (inV x)] h = some (.bool (smB x (zIn x)), h) := by
  refine Ok.eq ?_
  have h1 := same_at hx (InAt.zero h x)
  generalize smB x (zIn x) = b at h1 ⊢
  simp only [inV, zIn] at h1 ⊢
  clear hx
  (refine Ok.body body45 pin45 ?_; simp only [c45, Try.f45, Option.getD_some, nslot45, List.append_nil, List.map, List.replicate, List.length_cons, List.length_nil, Nat.reduceAdd, Nat.reduceSub, List.cons_append, List.nil_append])
  (repeat' (first | (simp -implicitDefEqProofs (maxSteps := 1000000) (disch := first | assumption | omega | (simp only [ZDI]; omega)) only [*, G45, Za, Zb, Zc, Zd, Ze, Zf, Zg, Zh, Zi, Zj, Zk, Zl, Zm, Zn, Zo, Ja, Jb, Jc, J3, Jd, Je, J4, J5, Jf, Jg, Jh, Ji, Jj, Jk, J6, Jl, Jm, wr, Jn, J7, J8, Jo, Jp, Jq, Jr, Js, Jt, Ju, Jv, Jw, Jx, Jy, Jz, J0, J1, J2, reduceCtorEq, J9, JA, JB, JC, JD, JE, JF, JG]) | ((with_reducible (first | apply Ok.br | apply Ok.gd | apply Ok.ld)) <;> (intro g; (try simp only [ZGS] at g); try (exfalso; omega)))))
def stP (x : In) : Prop := (0 <= x.st /\ x.st <= 3) /\ (0 <= x.sq /\ x.sq <= 1099511627776)
instance (x : In) : Decidable (stP x) := by unfold stP; infer_instance
def hdB (x : In) : Bool := decide (refP x.l x.i) && decide (balP x.bn x.bd) && decide (balP x.vn x.vd) && !decide (lsP x.bn x.bd x.vn x.vd) && decide (stP x)
def bodB (x : In) : Bool := decide (mayP x.o x.c x.q x.f x.t x.dl) && (risB none x.pl && decide ((x.pl.length : Int) <= 4096))
def mayB (x : In) : Bool := hdB x && cond (decide (x.st = 0)) (nonB x) (bodB x)
set_option maxHeartbeats 4000000 in
theorem mayI_at {h : Heap} {x : In} (hx : InAt h x) : D X (.fn 14 []) [.agg (inV x)] h = some (.bool (mayB x), h) := by
  refine Ok.eq ?_
  have h1 := may_at (o := x.o) (c := x.c) (q := x.q) (f := x.f) (t := x.t) hx.1
  have h2 := rising_at hx.2
  have h3 := unknown_at hx
  obtain ⟨a, cap, z, e1⟩ := hx.1.sl
  obtain ⟨a3, cap3, z3, e3⟩ := hx.2.sl
  have hu : x.st = 0 -> smB x (zIn x) = nonB x := nonB_eq
  simp only [inV, e1] at h1
  simp only [inV, e3] at h2
  simp only [inV, e1, e3] at h3
  unfold mayB bodB hdB
  simp only [inV, e1, e3]
  clear e1 e3 hx
  have p1 := isRef_at x.l x.i h
  have p2 := isBallot_at x.bn x.bd h
  have p3 := isBallot_at x.vn x.vd h
  have p4 := lessBallot_at x.bn x.bd x.vn x.vd h
  generalize decide (refP x.l x.i) = r1 at p1 ⊢
  generalize decide (balP x.bn x.bd) = r2 at p2 ⊢
  generalize decide (balP x.vn x.vd) = r3 at p3 ⊢
  generalize decide (lsP x.bn x.bd x.vn x.vd) = r4 at p4 ⊢
  obtain ⟨rs, ers, b1, b0⟩ := truth (stP x)
  rw [ers]
  clear ers
  generalize decide (mayP x.o x.c x.q x.f x.t x.dl) = mb at h1 ⊢
  generalize (risB none x.pl && decide ((x.pl.length : Int) <= 4096)) = rb at h2 ⊢
  by_cases hst : x.st = 0
  · rw [decide_eq_true hst, <- hu hst]
    rw [hst] at h3
    clear hu
    generalize smB x (zIn x) = nb at h3 ⊢
    (refine Ok.body body14 pin14 ?_; simp only [c14, Try.f14, Option.getD_some, nslot14, List.append_nil, List.map, List.replicate, List.length_cons, List.length_nil, Nat.reduceAdd, Nat.reduceSub, List.cons_append, List.nil_append])
    (repeat' (first | (simp -implicitDefEqProofs (maxSteps := 1000000) (disch := first | assumption | omega | (simp only [ZDI]; omega)) only [*, G14, Za, Zb, Zc, Zd, Ze, Zf, Zg, Zh, Zi, Zj, Zk, Zl, Zm, Zn, Zo, Ja, Jb, Jc, J3, Jd, Je, J4, J5, Jf, Jg, Jh, Ji, Jj, Jk, J6, Jl, Jm, wr, Jn, J7, J8, Jo, Jp, Jq, Jr, Js, Jt, Ju, Jv, Jw, Jx, Jy, Jz, J0, J1, J2, reduceCtorEq, J9, JA, JB, JC, JD, JE, JF, JG]) | ((with_reducible (first | apply Ok.br | apply Ok.gd | apply Ok.ld)) <;> (intro g; (try simp only [ZGS] at g); try (exfalso; omega)))))
    all_goals first
      | (simp [*]; done)
      | (rw [b1.out (by unfold stP; omega)]; simp [*]; done)
      | (rw [b0.out (by unfold stP; omega)]; simp; done)
  · rw [decide_eq_false hst]
    clear hu h3
    generalize nonB x = nb
    (refine Ok.body body14 pin14 ?_; simp only [c14, Try.f14, Option.getD_some, nslot14, List.append_nil, List.map, List.replicate, List.length_cons, List.length_nil, Nat.reduceAdd, Nat.reduceSub, List.cons_append, List.nil_append])
    (repeat' (first | (simp -implicitDefEqProofs (maxSteps := 1000000) (disch := first | assumption | omega | (simp only [ZDI]; omega)) only [*, G14, Za, Zb, Zc, Zd, Ze, Zf, Zg, Zh, Zi, Zj, Zk, Zl, Zm, Zn, Zo, Ja, Jb, Jc, J3, Jd, Je, J4, J5, Jf, Jg, Jh, Ji, Jj, Jk, J6, Jl, Jm, wr, Jn, J7, J8, Jo, Jp, Jq, Jr, Js, Jt, Ju, Jv, Jw, Jx, Jy, Jz, J0, J1, J2, reduceCtorEq, J9, JA, JB, JC, JD, JE, JF, JG]) | ((with_reducible (first | apply Ok.br | apply Ok.gd | apply Ok.ld)) <;> (intro g; (try simp only [ZGS] at g); try (exfalso; omega)))))
    all_goals first
      | (simp [*]; done)
      | (rw [b1.out (by unfold stP; omega)]; simp [*]; done)
      | (rw [b0.out (by unfold stP; omega)]; simp; done)
end Go.Ev
set_option maxRecDepth 100000
namespace Go.Ev
open Go.Proofs
def In.key (x : In) : RP := (x.l, x.i)
def In.core (x : In) : In := { x with dv := .nilp, pv := .nilp }
def KeepC (h h' : Heap) : Prop := h.length <= h'.length /\ ∀ b g p, hcells h b g = some p -> hcells h' b g = some p
theorem KeepC.refl (h : Heap) : KeepC h h := ⟨Nat.le_refl _, fun _ _ _ e => e⟩
theorem KeepC.trans {a b c : Heap} (h : KeepC a b) (k : KeepC b c) : KeepC a c := ⟨Nat.le_trans h.1 k.1, fun i g p e => k.2 i g p (h.2 i g p e)⟩
theorem KeepC.app (h l : Heap) : KeepC h (h ++ l) := ⟨by simp, fun b g p e => by rw [hcells_app (hcells_lt e)]; exact e⟩
theorem StrsAt.keep {h h' : Heap} {v : V} {l : List ByteArray} (hs : StrsAt h v l) (k : KeepC h h') : StrsAt h' v l := by
  obtain ⟨a, cap, z, h1, h2, h3, h4⟩ := hs
  refine ⟨a, cap, z, h1, h2, h3, h4.imp id ?_⟩
  rintro ⟨b, g, o, rw, full, e1, e2, e3⟩
  exact ⟨b, g, o, rw, full, e1, k.2 _ _ _ e2, e3⟩
theorem RowAt.keep {h h' : Heap} {v : V} {l : List RP} (hs : RowAt h v l) (k : KeepC h h') : RowAt h' v l := by
  obtain ⟨a, cap, z, h1, h2, h3, h4⟩ := hs
  refine ⟨a, cap, z, h1, h2, h3, h4.imp id ?_⟩
  rintro ⟨b, g, o, rw, full, e1, e2, e3⟩
  exact ⟨b, g, o, rw, full, e1, k.2 _ _ _ e2, e3⟩
theorem InAt.keep {h h' : Heap} {x : In} (hs : InAt h x) (k : KeepC h h') : InAt h' x := ⟨hs.1.keep k, hs.2.keep k⟩
theorem KeepC.setMap {h : Heap} {m : Nat} {ex ex' : Bool} {es es' : List ME} {c c' : Nat} (hm : h[m]? = some (.map ex es c)) : KeepC h (h.set m (.map ex' es' c')) := by
  refine ⟨by simp, fun b g p e => ?_⟩
  have hne : m ≠ b := by
    rintro rfl
    unfold hcells at e
    rw [hm] at e; cases e
  rw [hcells_set_ne (Ne.symm hne)]
  exact e
structure TabAt (h : Heap) (b m : Nat) (L : List In) : Prop where
  cell : hcells h b 0 = some (true, [.map m])
  map : ∃ ex es c, h[m]? = some (.map ex es c) /\ es.map unborn = L.map fun x => (elt x.key, V.agg (inV x))
  at_ : ∀ x ∈ L, InAt h x /\ x.dl.length <= 5000 /\ x.pl.length <= 5000
  keys : (L.map In.key).Nodup
theorem TabAt.keysM {h : Heap} {L : List In} {es : List ME} (he : es.map unborn = L.map fun x => (elt x.key, V.agg (inV x))) : keysM es = some (L.map In.key) := by
  refine keysM_of ?_
  have := congrArg (List.map Prod.fst) he
  rw [List.map_map, List.map_map] at this
  rw [List.map_map]
  exact this
theorem TabAt.len {L : List In} {es : List ME} (he : es.map unborn = L.map fun x => (elt x.key, V.agg (inV x))) : es.length = L.length := by
  have := congrArg List.length he
  simpa using this
theorem TabAt.keep {h h' : Heap} {b m : Nat} {L : List In} (ht : TabAt h b m L) (k : KeepC h h') (hm : h'[m]? = h[m]?) : TabAt h' b m L := by
  obtain ⟨h1, ⟨ex, es, c, h2, h3⟩, h4, h5⟩ := ht
  exact ⟨k.2 _ _ _ h1, ⟨ex, es, c, by rw [hm]; exact h2, h3⟩, fun x hx => ⟨(h4 x hx).1.keep k, (h4 x hx).2⟩, h5⟩
theorem ownSl_strs {h : Heap} {v : V} {l : List ByteArray} (hs : StrsAt h v l) (hl : l.length <= 5000) (nx : Nat) : ∃ v' bl, ownSl h nx 1 v = some (v', bl) /\ ∀ h', KeepC h h' -> h.length <= nx -> (∀ k, k < bl.length -> h'[nx + k]? = bl[k]?) -> StrsAt h' v' l := by
  obtain ⟨a, cap, z, rfl, h1, _, h2⟩ := hs
  rcases h2 with rfl | ⟨b, g, o, rw, full, rfl, hc, hf⟩
  · cases a with
    | nil => exact ⟨_, _, rfl, fun h' _ _ _ => ⟨_, _, _, rfl, by decide, trivial, .inl rfl⟩⟩
    | any => exact ⟨_, _, rfl, fun h' _ _ _ => ⟨_, _, _, rfl, by decide, trivial, .inl rfl⟩⟩
    | «at» b g o => exact ⟨_, _, rfl, fun h' _ _ _ => ⟨_, _, _, rfl, by decide, trivial, .inl rfl⟩⟩
  · by_cases h0 : l.length = 0
    · obtain rfl : l = [] := List.length_eq_zero_iff.1 h0
      exact ⟨_, _, rfl, fun h' _ _ _ => ⟨_, _, _, rfl, by decide, trivial, .inl rfl⟩⟩
    · have hlen : o + l.length * 1 <= full.length := by
        have := hf (l.length - 1) _ (List.getElem?_eq_getElem (by omega))
        have := (List.getElem?_eq_some_iff.1 this).1
        omega
      refine ⟨_, _, ownSl_at (by omega) hl hc hlen, fun h' k hn hb => ⟨_, _, _, rfl, h1, trivial, .inr ⟨nx + 1, 0, 0, true, (full.drop o).take (l.length * 1), rfl, ?_, fun i s hi => ?_⟩⟩⟩
      · have := hb 1 (by simp)
        unfold hcells
        rw [this]
        exact grd_t rfl _
      · have hi2 := (List.getElem?_eq_some_iff.1 hi).1
        rw [Nat.zero_add, List.getElem?_take, if_pos (by omega), List.getElem?_drop]
        exact hf i s hi
theorem ownSl_row {h : Heap} {v : V} {l : List RP} (hs : RowAt h v l) (hl : l.length <= 5000) (nx : Nat) : ∃ v' bl, ownSl h nx 2 v = some (v', bl) /\ ∀ h', KeepC h h' -> h.length <= nx -> (∀ k, k < bl.length -> h'[nx + k]? = bl[k]?) -> RowAt h' v' l := by
  obtain ⟨a, cap, z, rfl, h1, h1', h2⟩ := hs
  rcases h2 with rfl | ⟨b, g, o, rw, full, rfl, hc, hf, ho⟩
  · cases a with
    | nil => exact ⟨_, _, rfl, fun h' _ _ _ => ⟨_, _, _, rfl, by decide, by decide, .inl rfl⟩⟩
    | any => exact ⟨_, _, rfl, fun h' _ _ _ => ⟨_, _, _, rfl, by decide, by decide, .inl rfl⟩⟩
    | «at» b g o => exact ⟨_, _, rfl, fun h' _ _ _ => ⟨_, _, _, rfl, by decide, by decide, .inl rfl⟩⟩
  · by_cases h0 : l.length = 0
    · obtain rfl : l = [] := List.length_eq_zero_iff.1 h0
      exact ⟨_, _, rfl, fun h' _ _ _ => ⟨_, _, _, rfl, by decide, by decide, .inl rfl⟩⟩
    · refine ⟨_, _, ownSl_at (by omega) hl hc ho, fun h' k hn hb => ⟨_, _, _, rfl, Nat.le_refl _, by omega, .inr ⟨nx + 1, 0, 0, true, (full.drop o).take (l.length * 2), rfl, ?_, fun i s hi => ?_, ?_⟩⟩⟩
      · have := hb 1 (by simp)
        unfold hcells
        rw [this]
        exact grd_t rfl _
      · have hi2 := (List.getElem?_eq_some_iff.1 hi).1
        rw [Nat.zero_add, List.drop_take, List.take_take, List.drop_drop, Nat.min_eq_left (by omega)]
        exact hf i s hi
      · rw [List.length_take, List.length_drop]; omega
theorem own_in {h : Heap} {x : In} (hx : InAt h x) (h1 : x.dl.length <= 5000) (h2 : x.pl.length <= 5000) (nx : Nat) : ∃ (x' : In) (bl : List Blk), ownG h nx (.agg (inV x)) = some (.agg (inV x'), bl) /\ x'.core = x.core /\
    ∀ h', KeepC h h' -> h.length <= nx -> (∀ k, k < bl.length -> h'[nx + k]? = bl[k]?) -> InAt h' x' := by
  obtain ⟨dv', bd, e1, k1⟩ := ownSl_strs hx.1 h1 nx
  obtain ⟨pv', bp, e2, k2⟩ := ownSl_row hx.2 h2 (nx + bd.length)
  refine ⟨{ x with dv := dv', pv := pv' }, bd ++ bp, ownG_mk rfl rfl rfl e1 e2, rfl, fun h' k hn hb => ⟨k1 h' k hn fun j hj => ?_, k2 h' k (by omega) fun j hj => ?_⟩⟩
  · rw [hb j (by rw [List.length_append]; omega), List.getElem?_append_left hj]
  · rw [Nat.add_assoc, hb (bd.length + j) (by rw [List.length_append]; omega), List.getElem?_append_right (by omega)]
    congr 1; omega
theorem owns_in {h : Heap} : ∀ (L : List In) (es : List ME) (nx : Nat), es.map unborn = (L.map fun x => (elt x.key, V.agg (inV x))) -> (∀ x ∈ L, InAt h x /\ x.dl.length <= 5000 /\ x.pl.length <= 5000) -> h.length <= nx ->
    ∃ (L' : List In) (ec : List ME) (bc : List Blk), ownsG h nx es = some (ec, bc) /\ ec.map unborn = (L'.map fun x => (elt x.key, V.agg (inV x))) /\ L'.map In.core = L.map In.core /\
      ∀ h', KeepC h h' -> (∀ k, k < bc.length -> h'[nx + k]? = bc[k]?) -> ∀ x ∈ L', InAt h' x /\ x.dl.length <= 5000 /\ x.pl.length <= 5000
  | [], es, nx, he, _, _ => by
    have : es = [] := by simpa using he
    subst this
    exact ⟨[], [], [], rfl, rfl, rfl, fun h' _ _ x hx => by cases hx⟩
  | x :: L, es, nx, he, hx, hn => by
    cases es with
    | nil => simp at he
    | cons e es =>
      simp only [List.map_cons, List.cons.injEq] at he
      obtain ⟨hx1, hx2, hx3⟩ := hx x (by simp)
      obtain ⟨x', bl, h1, h2, h3⟩ := own_in hx1 hx2 hx3 nx
      obtain ⟨L', ec, bc, h4, h5, h6, h7⟩ := owns_in L es (nx + bl.length) he.2 (fun y hy => hx y (by simp [hy])) (by omega)
      have he1 : e.1 = elt x.key /\ e.2.1 = .agg (inV x) := by
        have := he.1
        simp only [unborn, Prod.mk.injEq] at this
        exact this
      have hkey : x'.key = x.key := by
        have := congrArg In.key h2
        exact this
      refine ⟨x' :: L', (e.1, .agg (inV x'), 0) :: ec, bl ++ bc, ?_, ?_, by rw [List.map_cons, List.map_cons, h2, h6], fun h' k hb y hy => ?_⟩
      · unfold ownsG
        rw [he1.2, h1]
        show bnd (ownsG h (nx + bl.length) es) _ = _
        rw [h4]; rfl
      · rw [List.map_cons, List.map_cons, h5, hkey]
        congr 1
        show (e.1, V.agg (inV x')) = _
        rw [he1.1]
      · rcases List.mem_cons.1 hy with rfl | hy
        · have hl1 : y.dl = x.dl := by have := congrArg In.dl h2; exact this
          have hl2 : y.pl = x.pl := by have := congrArg In.pl h2; exact this
          refine ⟨h3 h' k hn fun j hj => ?_, by rw [hl1]; exact hx2, by rw [hl2]; exact hx3⟩
          rw [hb j (by rw [List.length_append]; omega), List.getElem?_append_left hj]
        · refine h7 h' k (fun j hj => ?_) y hy
          rw [Nat.add_assoc, hb (bl.length + j) (by rw [List.length_append]; omega), List.getElem?_append_right (by omega)]
          congr 1; omega
theorem TabAt.mapAt {h : Heap} {b m : Nat} {L : List In} (ht : TabAt h b m L) : ∃ es, mapAtV h b 0 0 = some (m, es) /\ es.map unborn = (L.map fun x => (elt x.key, V.agg (inV x))) := by
  obtain ⟨h1, ⟨ex, es, c, h2, h3⟩, _, _⟩ := ht
  refine ⟨es, ?_, h3⟩
  unfold mapAtV
  rw [h1]
  simp only [bnd, List.getElem?_cons_zero, h2]
theorem clone_at {h : Heap} {b m : Nat} {L : List In} (ht : TabAt h b m L) : ∃ (l : List Blk) (L' : List In), D X (.fn 35 []) [.ptr b 0 0] h = some (.ptr (h.length + 1) 0 0, h ++ l) /\ TabAt (h ++ l) (h.length + 1) h.length L' /\ L'.map In.core = L.map In.core := by
  obtain ⟨es, h1, h2⟩ := ht.mapAt
  obtain ⟨L', ec, bc, h3, h4, h5, h6⟩ := owns_in (h := h) L es (h.length + 2) h2 ht.at_ (by omega)
  have hr : cloneG [.ptr b 0 0] h = some (.ptr (h.length + 1) 0 0, h ++ .map false ec ec.length :: .cells 0 true [.map h.length] :: bc) := by
    simp only [cloneG, h1, bnd, TabAt.keysM (h := h) h2, h3]
  refine ⟨.map false ec ec.length :: .cells 0 true [.map h.length] :: bc, L', D_sum (g := cloneG) pin35 hr, ⟨?_, ⟨false, ec, ec.length, ?_, h4⟩, h6 _ (KeepC.app _ _) (fun k hk => ?_), ?_⟩, h5⟩
  · rw [hcells_ge (by omega), Nat.add_sub_cancel_left]; rfl
  · rw [List.getElem?_append_right (Nat.le_refl _), Nat.sub_self]; rfl
  · rw [List.getElem?_append_right (by omega), show h.length + 2 + k - h.length = k + 1 + 1 by omega]; rfl
  · have : L'.map In.key = L.map In.key := by
      have := congrArg (List.map In.key) h5
      rw [List.map_map, List.map_map] at this
      exact this
    rw [this]; exact ht.keys
theorem clone_nil (h : Heap) : D X (.fn 35 []) [.nilp] h = some (.nilp, h) := D_sum (g := cloneG) pin35 rfl
theorem refs_nil (h : Heap) : D X (.fn 54 []) [.nilp] h = some (.sl .nil 0 0 0, h) := D_sum (g := refsG) pin54 rfl
theorem addsR_nodup_len {l : List RP} (h : l.Nodup) : (addsR [] l).length = l.length := by
  have h1 : (addsR [] l).Nodup := (addsR_strict l [] List.Pairwise.nil).imp fun {a b} hab e => by rw [e, ltR_swo.irrefl] at hab; cases hab
  have m : ∀ x, x ∈ addsR [] l ↔ x ∈ l := fun x => by rw [addsR_mem]; simp
  have a := nodup_le h1 fun x hx => (m x).1 hx
  have b := nodup_le h fun x hx => (m x).2 hx
  omega
theorem refs_at {h : Heap} {b m : Nat} {L : List In} (ht : TabAt h b m L) (hl : L.length <= 5000) : ∃ (v : V) (l : List Blk), D X (.fn 54 []) [.ptr b 0 0] h = some (v, h ++ l) /\ RowAt (h ++ l) v (addsR [] (L.map In.key)) := by
  obtain ⟨es, h1, h2⟩ := ht.mapAt
  have hk := TabAt.keysM (h := h) h2
  have hlen := addsR_nodup_len ht.keys
  by_cases h0 : L.map In.key = []
  · refine ⟨.sl .nil 0 0 0, [], D_sum (g := refsG) pin54 ?_, ?_⟩
    · simp only [refsG, h1, bnd, hk, h0, List.append_nil]
      rfl
    · rw [h0]
      exact ⟨_, _, _, rfl, Nat.le_refl _, by decide, .inl rfl⟩
  · refine ⟨.sl (.at h.length 0 0) (L.map In.key).length (L.map In.key).length 2, [.cells 0 true (flL (addsR [] (L.map In.key)))], D_sum (g := refsG) pin54 ?_, ?_⟩
    · simp only [refsG, h1, bnd, hk]
      have hl2 : (L.map In.key).length <= 5000 := by simpa using hl
      rw [grd_t hl2]
    · have := row_head (g := h ++ [.cells 0 true (flL (addsR [] (L.map In.key)))]) (b := h.length) (q := 0) (cap := (L.map In.key).length) (z := 2) (p := addsR [] (L.map In.key)) (rest := []) (rw := true) (by rw [List.append_nil]; exact hcells_new) (by omega) (by simp; omega)
      rw [hlen] at this
      exact this
end Go.Ev
set_option maxRecDepth 100000
namespace Go.Ev
open Go.Ev renaming exPure -> Ja, ofValue -> Jb, cellsV -> Jc, load -> Jd, store -> Je, binOp -> Jf, intOp -> Jg, rdV -> Jh, vsame -> Ji, vsames -> Jj, makeSliceV -> Jk, resV -> Jl, isCell -> Jm, nilCheckV -> Jn, allV -> Jo, builtinV -> Jp, lenV -> Jq, indexAddrV -> Jr, unOp -> Js, minmaxV -> Jt, minmax -> Ju, sliceV -> Jv, asInt -> Jw, appendV -> Jx, copyV -> Jy, clearV -> Jz, convV -> J0, sliceCells -> J1, shift -> J2
open Bool renaming true -> BT, false -> BF
open Nat renaming reduceEqDiff -> J3, reduceLT -> J4, reduceAdd -> J5, reduceBEq -> J6, reduceSub -> J7, reduceMul -> J8, reduceLeDiff -> JG
open Int renaming reduceLT -> J9, reduceLE -> JA, reduceAdd -> JB, reduceSub -> JC, reduceNeg -> JD, reduceToNat -> JE, reduceEq -> JF
open Go.Proofs
theorem cloneS_at {h : Heap} {d d' : V} {bl : List Blk} (hr : ownSl h h.length 1 d = some (d', bl)) : D X (.fn 83 []) [d] h = some (d', h ++ bl) := by
  refine Ok.eq ?_
  rcases ownSl_cases hr with ⟨n, c, y, rfl, rfl, rfl⟩ | ⟨a, c, y, rfl, ha, rfl, rfl⟩ | ⟨b, g, o, n, c, y, rw, full, rfl, h0, h1, hc, hf, rfl, rfl⟩
  · (refine Ok.body body83 pin83 ?_; simp only [c83, Try.f83, Option.getD_some, nslot83, List.append_nil, List.map, List.replicate, List.length_cons, List.length_nil, Nat.reduceAdd, Nat.reduceSub, List.cons_append, List.nil_append])
    (repeat' (first | (simp -implicitDefEqProofs (maxSteps := 1000000) (disch := first | assumption | omega | (simp only [ZDI]; omega)) only [*, List.append_nil, G83, Za, Zb, Zc, Zd, Ze, Zf, Zg, Zh, Zi, Zj, Zk, Zl, Zm, Zn, Zo, Ja, Jb, Jc, J3, Jd, Je, J4, J5, Jf, Jg, Jh, Ji, Jj, Jk, J6, Jl, Jm, wr, Jn, J7, J8, Jo, Jp, Jq, Jr, Js, Jt, Ju, Jv, Jw, Jx, Jy, Jz, J0, J1, J2, reduceCtorEq, J9, JA, JB, JC, JD, JE, JF, JG]) | ((with_reducible (first | apply Ok.br | apply Ok.gd | apply Ok.ld)) <;> (intro g; (try simp only [ZGS] at g); try (exfalso; omega)))))
  · cases a with
    | nil => exact absurd rfl ha
    | any =>
      (refine Ok.body body83 pin83 ?_; simp only [c83, Try.f83, Option.getD_some, nslot83, List.append_nil, List.map, List.replicate, List.length_cons, List.length_nil, Nat.reduceAdd, Nat.reduceSub, List.cons_append, List.nil_append])
      (repeat' (first | (simp -implicitDefEqProofs (maxSteps := 1000000) (disch := first | assumption | omega | (simp only [ZDI]; omega)) only [*, appendV, sliceCells, G83, Za, Zb, Zc, Zd, Ze, Zf, Zg, Zh, Zi, Zj, Zk, Zl, Zm, Zn, Zo, Ja, Jb, Jc, J3, Jd, Je, J4, J5, Jf, Jg, Jh, Ji, Jj, Jk, J6, Jl, Jm, wr, Jn, J7, J8, Jo, Jp, Jq, Jr, Js, Jt, Ju, Jv, Jw, Jx, Jy, Jz, J0, J1, J2, reduceCtorEq, J9, JA, JB, JC, JD, JE, JF, JG]) | ((with_reducible (first | apply Ok.br | apply Ok.gd | apply Ok.ld)) <;> (intro g; (try simp only [ZGS] at g); try (exfalso; omega)))))
    | «at» b g o =>
      (refine Ok.body body83 pin83 ?_; simp only [c83, Try.f83, Option.getD_some, nslot83, List.append_nil, List.map, List.replicate, List.length_cons, List.length_nil, Nat.reduceAdd, Nat.reduceSub, List.cons_append, List.nil_append])
      (repeat' (first | (simp -implicitDefEqProofs (maxSteps := 1000000) (disch := first | assumption | omega | (simp only [ZDI]; omega)) only [*, appendV, sliceCells, G83, Za, Zb, Zc, Zd, Ze, Zf, Zg, Zh, Zi, Zj, Zk, Zl, Zm, Zn, Zo, Ja, Jb, Jc, J3, Jd, Je, J4, J5, Jf, Jg, Jh, Ji, Jj, Jk, J6, Jl, Jm, wr, Jn, J7, J8, Jo, Jp, Jq, Jr, Js, Jt, Ju, Jv, Jw, Jx, Jy, Jz, J0, J1, J2, reduceCtorEq, J9, JA, JB, JC, JD, JE, JF, JG]) | ((with_reducible (first | apply Ok.br | apply Ok.gd | apply Ok.ld)) <;> (intro g; (try simp only [ZGS] at g); try (exfalso; omega)))))
  · have hb := hcells_lt hc
    have hn0 : ¬ n = 0 := by omega
    have hg : n * 16 <= 35184372088832 /\ n <= 35184372088832 := by omega
    have hg1 : ¬ n <= 0 := by omega
    (refine Ok.body body83 pin83 ?_; simp only [c83, Try.f83, Option.getD_some, nslot83, List.append_nil, List.map, List.replicate, List.length_cons, List.length_nil, Nat.reduceAdd, Nat.reduceSub, List.cons_append, List.nil_append])
    (repeat' (first | (simp -implicitDefEqProofs (maxSteps := 1000000) (disch := first | assumption | omega | (simp only [ZDI]; omega)) only [*, appendV, sliceCells, newBlk, List.append_assoc, Nat.zero_add, Nat.mul_one, G83, Za, Zb, Zc, Zd, Ze, Zf, Zg, Zh, Zi, Zj, Zk, Zl, Zm, Zn, Zo, Ja, Jb, Jc, J3, Jd, Je, J4, J5, Jf, Jg, Jh, Ji, Jj, Jk, J6, Jl, Jm, wr, Jn, J7, J8, Jo, Jp, Jq, Jr, Js, Jt, Ju, Jv, Jw, Jx, Jy, Jz, J0, J1, J2, reduceCtorEq, J9, JA, JB, JC, JD, JE, JF, JG]) | ((with_reducible (first | apply Ok.br | apply Ok.gd | apply Ok.ld)) <;> (intro g; (try simp only [ZGS] at g); try (exfalso; omega)))))
theorem cloneR_at {h : Heap} {d d' : V} {bl : List Blk} (hr : ownSl h h.length 2 d = some (d', bl)) : D X (.fn 84 []) [d] h = some (d', h ++ bl) := by
  refine Ok.eq ?_
  rcases ownSl_cases hr with ⟨n, c, y, rfl, rfl, rfl⟩ | ⟨a, c, y, rfl, ha, rfl, rfl⟩ | ⟨b, g, o, n, c, y, rw, full, rfl, h0, h1, hc, hf, rfl, rfl⟩
  · (refine Ok.body body84 pin84 ?_; simp only [c84, Try.f84, Option.getD_some, nslot84, List.append_nil, List.map, List.replicate, List.length_cons, List.length_nil, Nat.reduceAdd, Nat.reduceSub, List.cons_append, List.nil_append])
    (repeat' (first | (simp -implicitDefEqProofs (maxSteps := 1000000) (disch := first | assumption | omega | (simp only [ZDI]; omega)) only [*, List.append_nil, G84, Za, Zb, Zc, Zd, Ze, Zf, Zg, Zh, Zi, Zj, Zk, Zl, Zm, Zn, Zo, Ja, Jb, Jc, J3, Jd, Je, J4, J5, Jf, Jg, Jh, Ji, Jj, Jk, J6, Jl, Jm, wr, Jn, J7, J8, Jo, Jp, Jq, Jr, Js, Jt, Ju, Jv, Jw, Jx, Jy, Jz, J0, J1, J2, reduceCtorEq, J9, JA, JB, JC, JD, JE, JF, JG]) | ((with_reducible (first | apply Ok.br | apply Ok.gd | apply Ok.ld)) <;> (intro g; (try simp only [ZGS] at g); try (exfalso; omega)))))
  · cases a with
    | nil => exact absurd rfl ha
    | any =>
      (refine Ok.body body84 pin84 ?_; simp only [c84, Try.f84, Option.getD_some, nslot84, List.append_nil, List.map, List.replicate, List.length_cons, List.length_nil, Nat.reduceAdd, Nat.reduceSub, List.cons_append, List.nil_append])
      (repeat' (first | (simp -implicitDefEqProofs (maxSteps := 1000000) (disch := first | assumption | omega | (simp only [ZDI]; omega)) only [*, appendV, sliceCells, G84, Za, Zb, Zc, Zd, Ze, Zf, Zg, Zh, Zi, Zj, Zk, Zl, Zm, Zn, Zo, Ja, Jb, Jc, J3, Jd, Je, J4, J5, Jf, Jg, Jh, Ji, Jj, Jk, J6, Jl, Jm, wr, Jn, J7, J8, Jo, Jp, Jq, Jr, Js, Jt, Ju, Jv, Jw, Jx, Jy, Jz, J0, J1, J2, reduceCtorEq, J9, JA, JB, JC, JD, JE, JF, JG]) | ((with_reducible (first | apply Ok.br | apply Ok.gd | apply Ok.ld)) <;> (intro g; (try simp only [ZGS] at g); try (exfalso; omega)))))
    | «at» b g o =>
      (refine Ok.body body84 pin84 ?_; simp only [c84, Try.f84, Option.getD_some, nslot84, List.append_nil, List.map, List.replicate, List.length_cons, List.length_nil, Nat.reduceAdd, Nat.reduceSub, List.cons_append, List.nil_append])
      (repeat' (first | (simp -implicitDefEqProofs (maxSteps := 1000000) (disch := first | assumption | omega | (simp only [ZDI]; omega)) only [*, appendV, sliceCells, G84, Za, Zb, Zc, Zd, Ze, Zf, Zg, Zh, Zi, Zj, Zk, Zl, Zm, Zn, Zo, Ja, Jb, Jc, J3, Jd, Je, J4, J5, Jf, Jg, Jh, Ji, Jj, Jk, J6, Jl, Jm, wr, Jn, J7, J8, Jo, Jp, Jq, Jr, Js, Jt, Ju, Jv, Jw, Jx, Jy, Jz, J0, J1, J2, reduceCtorEq, J9, JA, JB, JC, JD, JE, JF, JG]) | ((with_reducible (first | apply Ok.br | apply Ok.gd | apply Ok.ld)) <;> (intro g; (try simp only [ZGS] at g); try (exfalso; omega)))))
  · have hb := hcells_lt hc
    have hn0 : ¬ n = 0 := by omega
    have hg : n * 16 <= 35184372088832 /\ n <= 35184372088832 := by omega
    have hg1 : ¬ n <= 0 := by omega
    (refine Ok.body body84 pin84 ?_; simp only [c84, Try.f84, Option.getD_some, nslot84, List.append_nil, List.map, List.replicate, List.length_cons, List.length_nil, Nat.reduceAdd, Nat.reduceSub, List.cons_append, List.nil_append])
    (repeat' (first | (simp -implicitDefEqProofs (maxSteps := 1000000) (disch := first | assumption | omega | (simp only [ZDI]; omega)) only [*, appendV, sliceCells, newBlk, List.append_assoc, Nat.zero_add, Nat.mul_one, G84, Za, Zb, Zc, Zd, Ze, Zf, Zg, Zh, Zi, Zj, Zk, Zl, Zm, Zn, Zo, Ja, Jb, Jc, J3, Jd, Je, J4, J5, Jf, Jg, Jh, Ji, Jj, Jk, J6, Jl, Jm, wr, Jn, J7, J8, Jo, Jp, Jq, Jr, Js, Jt, Ju, Jv, Jw, Jx, Jy, Jz, J0, J1, J2, reduceCtorEq, J9, JA, JB, JC, JD, JE, JF, JG]) | ((with_reducible (first | apply Ok.br | apply Ok.gd | apply Ok.ld)) <;> (intro g; (try simp only [ZGS] at g); try (exfalso; omega)))))
theorem own_at {h : Heap} {c0 c1 c2 c3 c4 c5 c6 c7 c8 c9 c10 c11 c12 c13 c14 c15 v' : V} {bl : List Blk} (hr : ownG h h.length (.agg [c0, c1, c2, c3, c4, c5, c6, c7, c8, c9, c10, c11, c12, c13, c14, c15]) = some (v', bl)) : D X (.fn 56 []) [.agg [c0, c1, c2, c3, c4, c5, c6, c7, c8, c9, c10, c11, c12, c13, c14, c15]] h = some (v', h ++ bl) := by
  refine Ok.eq ?_
  obtain ⟨cs, d, p, d', p', bd, bp, he, _, h1, h2, h3, h4, rfl, rfl⟩ := ownG_cases hr
  cases he
  cases h1
  cases h2
  have g1 := cloneS_at h3
  have hl : (h ++ bd).length = h.length + bd.length := List.length_append
  have h5 : ownSl (h ++ bd) (h ++ bd).length 2 c15 = some (p', bp) := by
    rw [hl]
    exact ownSl_ext h4 fun b g p hp => by rw [hcells_app (hcells_lt hp)]; exact hp
  have g2 := cloneR_at h5
  obtain ⟨sa, sn, sc, sz, hd'⟩ : ∃ a n c z, d' = .sl a n c z := by
    rcases ownSl_cases h3 with ⟨n, c, y, _, rfl, _⟩ | ⟨a, c, y, _, _, rfl, _⟩ | ⟨b, g, o, n, c, y, rw, full, _, _, _, _, _, rfl, _⟩ <;> exact ⟨_, _, _, _, rfl⟩
  obtain ⟨ra, rn, rc, rz, hp'⟩ : ∃ a n c z, p' = .sl a n c z := by
    rcases ownSl_cases h4 with ⟨n, c, y, _, rfl, _⟩ | ⟨a, c, y, _, _, rfl, _⟩ | ⟨b, g, o, n, c, y, rw, full, _, _, _, _, _, rfl, _⟩ <;> exact ⟨_, _, _, _, rfl⟩
  subst hd' hp'
  clear h3 h4 h5 hr hl
  (refine Ok.body body56 pin56 ?_; simp only [c56, Try.f56, Option.getD_some, nslot56, List.append_nil, List.map, List.replicate, List.length_cons, List.length_nil, Nat.reduceAdd, Nat.reduceSub, List.cons_append, List.nil_append])
  (repeat' (first | (simp -implicitDefEqProofs (maxSteps := 1000000) (disch := first | assumption | omega | (simp only [ZDI]; omega)) only [*, List.append_assoc, G56, Za, Zb, Zc, Zd, Ze, Zf, Zg, Zh, Zi, Zj, Zk, Zl, Zm, Zn, Zo, Ja, Jb, Jc, J3, Jd, Je, J4, J5, Jf, Jg, Jh, Ji, Jj, Jk, J6, Jl, Jm, wr, Jn, J7, J8, Jo, Jp, Jq, Jr, Js, Jt, Ju, Jv, Jw, Jx, Jy, Jz, J0, J1, J2, reduceCtorEq, J9, JA, JB, JC, JD, JE, JF, JG]) | ((with_reducible (first | apply Ok.br | apply Ok.gd | apply Ok.ld)) <;> (intro g; (try simp only [ZGS] at g); try (exfalso; omega)))))
theorem newT_at (h : Heap) : D X (.fn 20 []) [] h = some (.ptr (h.length + 1) 0 0, h ++ [.map true [] 0, .cells 0 true [.map h.length]]) := by
  refine Ok.eq ?_
  (refine Ok.body body20 pin20 ?_; simp only [c20, Try.f20, Option.getD_some, nslot20, List.append_nil, List.map, List.replicate, List.length_cons, List.length_nil, Nat.reduceAdd, Nat.reduceSub, List.cons_append, List.nil_append])
  (repeat' (first | (simp -implicitDefEqProofs (maxSteps := 1000000) (disch := first | assumption | omega | (simp only [ZDI]; omega)) only [*, exOp_makeMap, makeMapV, List.append_assoc, G20, Za, Zb, Zc, Zd, Ze, Zf, Zg, Zh, Zi, Zj, Zk, Zl, Zm, Zn, Zo, Ja, Jb, Jc, J3, Jd, Je, J4, J5, Jf, Jg, Jh, Ji, Jj, Jk, J6, Jl, Jm, wr, Jn, J7, J8, Jo, Jp, Jq, Jr, Js, Jt, Ju, Jv, Jw, Jx, Jy, Jz, J0, J1, J2, reduceCtorEq, J9, JA, JB, JC, JD, JE, JF, JG]) | ((with_reducible (first | apply Ok.br | apply Ok.gd | apply Ok.ld)) <;> (intro g; (try simp only [ZGS] at g); try (exfalso; omega)))))
theorem veq_ref (x y : RP) : veq X.ty 6 23 (elt x) (elt y) = some (decide (x = y)) := by
  obtain ⟨a, b⟩ := x
  obtain ⟨c, d⟩ := y
  have h : veq X.ty 6 23 (elt (a, b)) (elt (c, d)) = bnd (some (decide (a = c))) fun r => cnd r (bnd (some (decide (b = d))) fun r => cnd r (some true) (some false)) (some false) := by
    simp only [veq_eq, elt, ty23, veqM_struct, veqF_cons, veqF_nil, rd, ty3, TI.kind, bnd_s, cnd_f, List.getElem?_cons_zero, List.getElem?_cons_succ, partK_eq, veqM_int, grd_t]
  rw [h]
  by_cases h1 : a = c <;> by_cases h2 : b = d <;> simp [h1, h2, bnd, cnd]
theorem keyTD_ref : keyTD X.ty 3 23 = true := by kernel_rfl
theorem keyOk_ref (x : RP) {es : List ME} {ks : List RP} (h : keysM es = some ks) : keyOk X.ty 23 (elt x) es = true := by
  unfold keyOk
  rw [keyTD_ref, veq_ref]
  simp only [decide_true, Bool.and_true, Bool.and_eq_true, List.all_eq_true, decide_eq_true_eq]
  refine ⟨rfl, fun e he => ?_⟩
  obtain ⟨y, hy⟩ := keysM_get h e he
  rw [keyP_elt hy, veq_ref, vsame_elt]
end Go.Ev
set_option maxRecDepth 100000
namespace Go.Ev
open Go.Proofs
def putL (L : List In) (x : In) : List In := if x.key ∈ L.map In.key then L.map (fun y => if y.key = x.key then x else y) else L ++ [x]
def mE (x : In) : V × V := (elt x.key, .agg (inV x))
theorem findM_tab {x : RP} : ∀ {es : List ME} {L : List In}, es.map unborn = L.map mE -> match L.find? (fun y => decide (x = y.key)) with
    | some y => ∃ e, findM (elt x) es = some e /\ e.2.1 = .agg (inV y)
    | none => findM (elt x) es = none
  | [], L, h => by
    have : L = [] := by simpa using h.symm
    subst this
    rfl
  | e :: es, L, h => by
    cases L with
    | nil => simp at h
    | cons y L =>
      simp only [List.map_cons, List.cons.injEq] at h
      have h1 : e.1 = elt y.key /\ e.2.1 = .agg (inV y) := by
        have := h.1
        simp only [unborn, mE, Prod.mk.injEq] at this
        exact this
      unfold findM
      rw [List.find?_cons, List.find?_cons, h1.1, vsame_elt]
      cases hd : decide (x = y.key) with
      | true => exact ⟨e, rfl, h1.2⟩
      | false => exact findM_tab h.2
theorem putM_tab {x : In} {es : List ME} {L : List In} {c : Nat} (h : es.map unborn = L.map mE) : ((putM (elt x.key) (.agg (inV x)) es c).1).map unborn = (putL L x).map mE := by
  have hf := findM_tab (x := x.key) h
  unfold putM putL
  cases hx : L.find? (fun y => decide (x.key = y.key)) with
  | none =>
    rw [hx] at hf
    dsimp only at hf
    rw [hf, if_neg]
    · show (es ++ [_]).map unborn = _
      rw [List.map_append, List.map_append, h]; rfl
    · intro hm
      obtain ⟨y, hy, he⟩ := List.mem_map.1 hm
      have := List.find?_eq_none.1 hx y hy
      simp [he] at this
  | some y =>
    rw [hx] at hf
    obtain ⟨e, he, hr⟩ := hf
    clear hr
    rw [he, if_pos]
    · show (es.map _).map unborn = _
      rw [List.map_map, List.map_map]
      clear he hx e
      induction L generalizing es with
      | nil =>
        have : es = [] := by simpa using h
        subst this; rfl
      | cons y L ih =>
        cases es with
        | nil => simp at h
        | cons e es =>
          simp only [List.map_cons, List.cons.injEq] at h ⊢
          have h1 : e.1 = elt y.key /\ e.2.1 = .agg (inV y) := by
            have := h.1
            simp only [unborn, mE, Prod.mk.injEq] at this
            exact this
          refine ⟨?_, ih h.2⟩
          show unborn (_root_.cond (vsame (elt x.key) e.1) (e.1, .agg (inV x), e.2.2) e) = mE (if y.key = x.key then x else y)
          rw [h1.1, vsame_elt]
          by_cases hk : y.key = x.key
          · rw [if_pos hk, decide_eq_true hk.symm]
            show (elt y.key, V.agg (inV x)) = (elt x.key, V.agg (inV x))
            rw [hk]
          · rw [if_neg hk, decide_eq_false (fun e => hk e.symm)]
            show (e.1, e.2.1) = _
            rw [h1.1, h1.2]; try rfl
    · exact List.mem_map.2 ⟨y, List.mem_of_find?_eq_some hx, by have := List.find?_some hx; simp at this; exact this.symm⟩
def z0 : In := ⟨0, 0, 0, 0, 0, 0, 0, false, 0, 0, 0, 0, 0, .sl .nil 0 0 0, [], 0, .sl .nil 0 0 0, []⟩
theorem InAt.z0 (h : Heap) : InAt h z0 := ⟨⟨.nil, 0, 0, rfl, Nat.zero_le _, trivial, .inl rfl⟩, ⟨.nil, 0, 0, rfl, Nat.le_refl _, by decide, .inl rfl⟩⟩
def getL (L : List In) (k : RP) : In := (L.find? fun y => decide (k = y.key)).getD z0
def isL (L : List In) (k : RP) : Bool := (L.find? fun y => decide (k = y.key)).isSome
theorem lookup_tab {h : Heap} {m : Nat} {ex : Bool} {es : List ME} {c : Nat} {L : List In} (hm : h[m]? = some (.map ex es c)) (he : es.map unborn = L.map mE) (k : RP) (ok : Bool) (e : List TV) (l : Locs) :
    lookupV X.ty 82 (.v (.map m)) (.v (.agg [.int .i64 k.1, .int .i64 k.2])) ok ⟨e, l, h⟩ = some (.v (outV ok (.agg (inV (getL L k))) (isL L k))) := by
  have hf := findM_tab (x := k) he
  have hk := TabAt.keysM (h := h) he
  have hko := keyOk_ref k hk
  unfold lookupV
  rw [ty82]
  simp only [hm]
  unfold lookupIn
  unfold elt at hko hf
  unfold getL isL
  have hz : zeroV (X.ty 31) = some (.agg (inV z0)) := by rw [ty31]; rfl
  rw [hz]
  simp only [bnd, hko]
  cases hx : L.find? (fun y => decide (k = y.key)) with
  | none =>
    rw [hx] at hf
    dsimp only at hf
    rw [hf]
    rfl
  | some y =>
    rw [hx] at hf
    obtain ⟨e, he, h2⟩ := hf
    rw [he]
    show some (TV.v (outV ok e.2.1 true)) = _
    rw [h2]
    rfl
end Go.Ev
set_option maxRecDepth 100000
namespace Go.Ev
open Go.Ev renaming exPure -> Ja, ofValue -> Jb, cellsV -> Jc, load -> Jd, store -> Je, binOp -> Jf, intOp -> Jg, rdV -> Jh, vsame -> Ji, vsames -> Jj, makeSliceV -> Jk, resV -> Jl, isCell -> Jm, nilCheckV -> Jn, allV -> Jo, builtinV -> Jp, lenV -> Jq, indexAddrV -> Jr, unOp -> Js, minmaxV -> Jt, minmax -> Ju, sliceV -> Jv, asInt -> Jw, appendV -> Jx, copyV -> Jy, clearV -> Jz, convV -> J0, sliceCells -> J1, shift -> J2
open Bool renaming true -> BT, false -> BF
open Nat renaming reduceEqDiff -> J3, reduceLT -> J4, reduceAdd -> J5, reduceBEq -> J6, reduceSub -> J7, reduceMul -> J8, reduceLeDiff -> JG
open Int renaming reduceLT -> J9, reduceLE -> JA, reduceAdd -> JB, reduceSub -> JC, reduceNeg -> JD, reduceToNat -> JE, reduceEq -> JF
open Go.Proofs
theorem mayB_dl {x : In} (h : mayB x = true) : x.dl.length <= 5000 /\ x.pl.length <= 5000 := by
  unfold mayB nonB bodB at h
  simp only [Bool.and_eq_true] at h
  obtain ⟨_, h⟩ := h
  by_cases hs : x.st = 0
  · rw [decide_eq_true hs] at h
    simp only [cond_true, Bool.and_eq_true, decide_eq_true_eq] at h
    obtain ⟨⟨_, _, h1⟩, h2⟩ := h
    rw [h1, h2]; simp
  · rw [decide_eq_false hs] at h
    simp only [cond_false, Bool.and_eq_true, decide_eq_true_eq] at h
    obtain ⟨h1, _, h2⟩ := h
    refine ⟨?_, by omega⟩
    unfold mayP at h1
    omega
theorem len_at {h : Heap} {b m : Nat} {L : List In} (ht : TabAt h b m L) : D X (.fn 30 []) [.ptr b 0 0] h = some (.int .i64 L.length, h) := by
  obtain ⟨ex, es, c, hm, he⟩ := ht.map
  have hc := ht.cell
  rw [<- TabAt.len he]
  clear ht he
  refine Ok.eq ?_
  (refine Ok.body body30 pin30 ?_; simp only [c30, Try.f30, Option.getD_some, nslot30, List.append_nil, List.map, List.replicate, List.length_cons, List.length_nil, Nat.reduceAdd, Nat.reduceSub, List.cons_append, List.nil_append])
  (repeat' (first | (simp -implicitDefEqProofs (maxSteps := 1000000) (disch := first | assumption | omega | (simp only [ZDI]; omega)) only [*, lenV, G30, Za, Zb, Zc, Zd, Ze, Zf, Zg, Zh, Zi, Zj, Zk, Zl, Zm, Zn, Zo, Ja, Jb, Jc, J3, Jd, Je, J4, J5, Jf, Jg, Jh, Ji, Jj, Jk, J6, Jl, Jm, wr, Jn, J7, J8, Jo, Jp, Jq, Jr, Js, Jt, Ju, Jv, Jw, Jx, Jy, Jz, J0, J1, J2, reduceCtorEq, J9, JA, JB, JC, JD, JE, JF, JG]) | ((with_reducible (first | apply Ok.br | apply Ok.gd | apply Ok.ld)) <;> (intro g; (try simp only [ZGS] at g); try (exfalso; omega)))))
def putE (L : List In) (x : In) : Int := if mayB x then (if x.key ∈ L.map In.key \/ L.length < 4096 then 0 else 2) else 1
theorem isL_iff {L : List In} {k : RP} : isL L k = decide (k ∈ L.map In.key) := by
  unfold isL
  by_cases hk : k ∈ L.map In.key
  · rw [decide_eq_true hk]
    obtain ⟨y, hy, he⟩ := List.mem_map.1 hk
    rw [List.find?_isSome]
    exact ⟨y, hy, by simp [he]⟩
  · rw [decide_eq_false hk]
    cases hx : L.find? (fun y => decide (k = y.key)) with
    | none => rfl
    | some y =>
      exfalso
      refine hk (List.mem_map.2 ⟨y, List.mem_of_find?_eq_some hx, ?_⟩)
      have := List.find?_some hx
      simp at this
      exact this.symm
theorem putL_keys (L : List In) (x : In) : (putL L x).map In.key = if x.key ∈ L.map In.key then L.map In.key else L.map In.key ++ [x.key] := by
  unfold putL
  split
  · rw [List.map_map]
    refine List.map_congr_left fun y _ => ?_
    show In.key (if y.key = x.key then x else y) = y.key
    split
    · rename_i h; exact h.symm
    · rfl
  · rw [List.map_append]; rfl
theorem putL_nodup {L : List In} {x : In} (h : (L.map In.key).Nodup) : ((putL L x).map In.key).Nodup := by
  rw [putL_keys]
  split
  · exact h
  · rename_i hn
    exact List.nodup_append.2 ⟨h, by simp, fun a ha b hb => by rw [List.mem_singleton.1 hb]; rintro rfl; exact hn ha⟩
theorem putL_mem {L : List In} {x y : In} (h : y ∈ putL L x) : y = x \/ y ∈ L := by
  unfold putL at h
  split at h
  · obtain ⟨z, hz, he⟩ := List.mem_map.1 h
    split at he
    · exact .inl he.symm
    · exact .inr (he ▸ hz)
  · rcases List.mem_append.1 h with h | h
    · exact .inr h
    · exact .inl (List.mem_singleton.1 h)
end Go.Ev
set_option maxRecDepth 100000
namespace Go.Ev
open Go.Ev renaming exPure -> Ja, ofValue -> Jb, cellsV -> Jc, load -> Jd, store -> Je, binOp -> Jf, intOp -> Jg, rdV -> Jh, vsame -> Ji, vsames -> Jj, makeSliceV -> Jk, resV -> Jl, isCell -> Jm, nilCheckV -> Jn, allV -> Jo, builtinV -> Jp, lenV -> Jq, indexAddrV -> Jr, unOp -> Js, minmaxV -> Jt, minmax -> Ju, sliceV -> Jv, asInt -> Jw, appendV -> Jx, copyV -> Jy, clearV -> Jz, convV -> J0, sliceCells -> J1, shift -> J2
open Bool renaming true -> BT, false -> BF
open Nat renaming reduceEqDiff -> J3, reduceLT -> J4, reduceAdd -> J5, reduceBEq -> J6, reduceSub -> J7, reduceMul -> J8, reduceLeDiff -> JG
open Int renaming reduceLT -> J9, reduceLE -> JA, reduceAdd -> JB, reduceSub -> JC, reduceNeg -> JD, reduceToNat -> JE, reduceEq -> JF
open Go.Proofs
theorem getL_mem {L : List In} {k : RP} (h : k ∈ L.map In.key) : getL L k ∈ L /\ (getL L k).key = k := by
  unfold getL
  obtain ⟨y, hy, he⟩ := List.mem_map.1 h
  cases hx : L.find? (fun y => decide (k = y.key)) with
  | none =>
    have := List.find?_eq_none.1 hx y hy
    simp [he] at this
  | some z =>
    refine ⟨List.mem_of_find?_eq_some hx, ?_⟩
    have := List.find?_some hx
    simp at this
    exact this.symm
structure SeqOf (H1 : Heap) (L S : List In) : Prop where
  keys : S.map In.key = addsR [] (L.map In.key)
  at_ : ∀ x ∈ S, InAt H1 x
  core : ∀ x ∈ S, ∃ y ∈ L, y.core = x.core
  len : S.length = L.length
set_option maxHeartbeats 8000000 in
theorem each_at {pb b m lp : Nat} {H0 : Heap} {L : List In} (hpb : hcells H0 pb 0 = some (true, [.ptr b 0 0])) (ht : TabAt H0 b m L) (hl : L.length <= 5000) (Inv : Heap -> List In -> Nat -> Heap -> Prop)
    (h0 : ∀ l S, SeqOf (H0 ++ l) L S -> Inv (H0 ++ l) S 0 (H0 ++ l))
    (hI : ∀ H1 S k H, Inv H1 S k H -> KeepC H1 H /\ ∀ i, H0.length <= i -> i < H1.length -> H[i]? = H1[i]?)
    (hy : ∀ l S k x H, SeqOf (H0 ++ l) L S -> S[k]? = some x -> Inv (H0 ++ l) S k H -> InAt H x -> Ev.Ok (D X (.yld lp) [.agg (inV x)] H) fun r => ∃ H', r = (.bool true, H') /\ Inv (H0 ++ l) S (k + 1) H') :
    Ev.Ok (D X (.fn 59 [.ptr pb 0 0]) [.yld lp] H0) fun r => ∃ l S H', r = (.tup [], H') /\ SeqOf (H0 ++ l) L S /\ Inv (H0 ++ l) S S.length H' := by
  refine Ok.aim fun Q hQ => ?_
  obtain ⟨l1, L', hclone, ht', hcore⟩ := clone_at ht
  have hkk : L'.map In.key = L.map In.key := by
    have := congrArg (List.map In.key) hcore
    rw [List.map_map, List.map_map] at this
    exact this
  have hlen' : L'.length = L.length := by have := congrArg List.length hcore; simpa using this
  obtain ⟨v, l2, hrefs, hrow⟩ := refs_at ht' (by omega)
  rw [hkk] at hrow
  have hl0 : H0.length <= (H0 ++ l1).length := by simp
  obtain ⟨lc, hlc⟩ : ∃ lc, H0.length = lc := ⟨_, rfl⟩
  obtain ⟨ex, es, c, hm0, _⟩ := ht'.map
  have hm1 := (List.getElem?_eq_some_iff.1 hm0).1
  have ht1 : TabAt (H0 ++ l1 ++ l2) (H0.length + 1) H0.length L' := ht'.keep (KeepC.app _ _) (by rw [List.getElem?_append_left hm1])
  obtain ⟨S, hS⟩ : ∃ S, S = (addsR [] (L.map In.key)).map (getL L') := ⟨_, rfl⟩
  have hmem : ∀ k ∈ addsR [] (L.map In.key), k ∈ L'.map In.key := fun k hk => by rw [hkk]; rw [addsR_mem] at hk; simpa using hk
  have hseq : SeqOf (H0 ++ l1 ++ l2) L S := by
    refine ⟨?_, fun x hx => ?_, fun x hx => ?_, ?_⟩
    · rw [hS, List.map_map]
      conv => rhs; rw [<- List.map_id (addsR [] (L.map In.key))]
      exact List.map_congr_left fun k hk => (getL_mem (hmem k hk)).2
    · rw [hS] at hx
      obtain ⟨k, hk, rfl⟩ := List.mem_map.1 hx
      exact (ht1.at_ _ (getL_mem (hmem k hk)).1).1
    · rw [hS] at hx
      obtain ⟨k, hk, rfl⟩ := List.mem_map.1 hx
      have h1 : (getL L' k).core ∈ L'.map In.core := List.mem_map.2 ⟨_, (getL_mem (hmem k hk)).1, rfl⟩
      rw [hcore] at h1
      obtain ⟨y, hy, he⟩ := List.mem_map.1 h1
      exact ⟨y, hy, he⟩
    · rw [hS, List.length_map, addsR_nodup_len ht.keys, List.length_map]
  have hSg : ∀ i k, (addsR [] (L.map In.key))[i]? = some k -> S[i]? = some (getL L' k) := fun i k hk => by rw [hS, List.getElem?_map, hk]; rfl
  rw [List.append_assoc] at hseq ht1 hrefs hrow
  have hSl : S.length = (addsR [] (L.map In.key)).length := by rw [hS]; simp
  have hInv0 := h0 _ S hseq
  have hy1 := fun k x H => hy (l1 ++ l2) S k x H hseq
  have hfin : ∀ H', Inv (H0 ++ (l1 ++ l2)) S S.length H' -> Q (.tup [], H') := fun H' h => hQ _ ⟨_, S, H', rfl, hseq, h⟩
  have hI1 := fun k H => hI (H0 ++ (l1 ++ l2)) S k H
  have hfin' := Hid.mk hfin
  have hy' := Hid.mk hy1
  have hI' := Hid.mk hI1
  have hInv0' := Hid.mk hInv0
  have ht1' := Hid.mk ht1
  have hSg' := Hid.mk hSg
  clear hfin hy hy1 hI hI1 h0 hInv0 ht1 hSg hseq hS hmem hQ ht' hcore hkk hlen' ht hm0 hm1
  obtain ⟨a, cap, z, rfl, h1, h1', h2⟩ := hrow
  generalize addsR [] (L.map In.key) = r at hSl hSg' hrefs h1 h1' h2 ⊢
  generalize hH1 : H0 ++ (l1 ++ l2) = H1 at *
  have hH1l : H0.length <= H1.length := by rw [<- hH1]; simp
  simp only [hlc] at *
  have hSl' := Hid.mk hSl
  clear hSl
  have hmH : lc < H1.length := by
    obtain ⟨_, _, _, hmm, _⟩ := ht1'.out.map
    exact (List.getElem?_eq_some_iff.1 hmm).1
  clear hH1
  (refine Ok.body body59 pin59 ?_; simp only [c59, Try.f59, Option.getD_some, nslot59, List.append_nil, List.map, List.replicate, List.length_cons, List.length_nil, Nat.reduceAdd, Nat.reduceSub, List.cons_append, List.nil_append])
  (repeat' (first | (simp -implicitDefEqProofs (maxSteps := 1000000) (disch := first | assumption | omega | (simp only [ZDI]; omega)) only [*, lenV, G59, Za, Zb, Zc, Zd, Ze, Zf, Zg, Zh, Zi, Zj, Zk, Zl, Zm, Zn, Zo, Ja, Jb, Jc, J3, Jd, Je, J4, J5, Jf, Jg, Jh, Ji, Jj, Jk, J6, Jl, Jm, wr, Jn, J7, J8, Jo, Jp, Jq, Jr, Js, Jt, Ju, Jv, Jw, Jx, Jy, Jz, J0, J1, J2, reduceCtorEq, J9, JA, JB, JC, JD, JE, JF, JG]) | ((with_reducible (first | apply Ok.br | apply Ok.gd | apply Ok.ld)) <;> (intro g; (try simp only [ZGS] at g); try (exfalso; omega)))))
  clear hclone hrefs hpb
  refine Ok.loop [BF, BF, BF, BF, BF, BT, BF, BF, BF, BF, BF, BT, BT, BT, BT, BT, BT, BT, BT, BT, BT, BT, BT, BT, BT] (fun n s2 => ∃ (i w1 : Nat) (q1 : List V), n = r.length - i /\ i <= r.length /\ tv s2.e 11 = .v (.int .i64 i) /\ s2.l = [(w1, q1)] /\ Inv H1 S i s2.h)
    (fun y s2 => y = .exit 0 /\ (∃ (w1 : Nat) (q1 : List V), s2.l = [(w1, q1)]) /\ Inv H1 S S.length s2.h) (r.length - 0) ⟨0, 0, [], rfl, Nat.zero_le _, rfl, rfl, hInv0'.out⟩ ?_ ?_
  · intro n ⟨e', l', g⟩ hW ⟨i, w1, q1, hm, hi, h9, k2, hinv⟩
    dsimp only at hW h9 k2 hinv
    subst l'
    rw [hW.spread]
    simp only [spread_t, spread_f, spread_n, Nat.zero_add, Nat.reduceAdd, h9]
    clear hW hfin' hInv0'
    obtain ⟨hkc, hkn⟩ := hI'.out _ _ hinv
    by_cases hlt : i < r.length
    · have hlt' : (i : Int) < (r.length : Int) := by omega
      have g1 : 0 <= (i : Int) /\ (i : Int) < (r.length : Int) := by omega
      rcases h2 with rfl | ⟨bb, q, o, rw, full, rfl, hbc, hfull, ho⟩
      · simp at hlt
      · obtain ⟨⟨y1, y2⟩, hyk⟩ : ∃ y, r[i]? = some y := ⟨_, List.getElem?_eq_getElem hlt⟩
        have hf := hfull i _ hyk
        dsimp only at hf
        have ho2 : o + i * 2 + 2 <= full.length := by omega
        have hbg := hkc.2 _ _ _ hbc
        have htg : TabAt g (lc + 1) lc L' := ht1'.out.keep hkc (hkn lc (Nat.le_refl _) hmH)
        obtain ⟨ex, es, c, hmg, heg⟩ := htg.map
        have hlk := fun e l => lookup_tab hmg heg (y1, y2) false e l
        have hcg := htg.cell
        have hsx := hSg'.out i _ hyk
        have hxat : InAt g (getL L' (y1, y2)) := by
          unfold getL
          cases hx : L'.find? (fun y => decide ((y1, y2) = y.key)) with
          | none => exact InAt.z0 g
          | some y => exact (htg.at_ y (List.mem_of_find?_eq_some hx)).1
        obtain ⟨⟨vv, g2⟩, hyld, H2, he2, hinv2⟩ := hy'.out i _ g hsx hinv hxat
        cases he2
        have hinv3 := Hid.mk hinv2
        have hcg2 := (hI'.out _ _ hinv2).1
        have htg2 : TabAt g2 (lc + 1) lc L' := ht1'.out.keep hcg2 ((hI'.out _ _ hinv2).2 lc (Nat.le_refl _) hmH)
        have hcg3 := htg2.cell
        generalize getL L' (y1, y2) = x at hlk hyld
        simp only [outV, cond_false, inV] at hlk hyld
        clear hfull ho hkc hkn htg heg hmg hsx hxat hinv hinv2 hcg2 htg2 hyk hbc
        (repeat' (first | (simp -implicitDefEqProofs (maxSteps := 1000000) (disch := first | assumption | omega | (simp only [ZDI]; omega)) only [*, lenV, exOp_lookup, G59, Za, Zb, Zc, Zd, Ze, Zf, Zg, Zh, Zi, Zj, Zk, Zl, Zm, Zn, Zo, Ja, Jb, Jc, J3, Jd, Je, J4, J5, Jf, Jg, Jh, Ji, Jj, Jk, J6, Jl, Jm, wr, Jn, J7, J8, Jo, Jp, Jq, Jr, Js, Jt, Ju, Jv, Jw, Jx, Jy, Jz, J0, J1, J2, reduceCtorEq, J9, JA, JB, JC, JD, JE, JF, JG]) | ((with_reducible (first | apply Ok.br | apply Ok.gd | apply Ok.ld)) <;> (intro g; (try simp only [ZGS] at g); try (exfalso; omega)))))
        exact Turn.next (r.length - (i + 1)) (by omega) ⟨rfl, i + 1, _, _, rfl, by omega, rfl, rfl, hinv3.out⟩
    · have hlt' : ¬ (i : Int) < (r.length : Int) := by omega
      have e : i = S.length := by have := hSl'.out; omega
      rw [e] at hinv
      have hinv3 := Hid.mk hinv
      clear hinv hkc hkn e
      (repeat' (first | (simp -implicitDefEqProofs (maxSteps := 1000000) (disch := first | assumption | omega | (simp only [ZDI]; omega)) only [*, lenV, G59, Za, Zb, Zc, Zd, Ze, Zf, Zg, Zh, Zi, Zj, Zk, Zl, Zm, Zn, Zo, Ja, Jb, Jc, J3, Jd, Je, J4, J5, Jf, Jg, Jh, Ji, Jj, Jk, J6, Jl, Jm, wr, Jn, J7, J8, Jo, Jp, Jq, Jr, Js, Jt, Ju, Jv, Jw, Jx, Jy, Jz, J0, J1, J2, reduceCtorEq, J9, JA, JB, JC, JD, JE, JF, JG]) | ((with_reducible (first | apply Ok.br | apply Ok.gd | apply Ok.ld)) <;> (intro g; (try simp only [ZGS] at g); try (exfalso; omega)))))
      exact Turn.exit ⟨rfl, rfl, ⟨_, _, rfl⟩, hinv3.out⟩
  · intro y ⟨e', l', g⟩ hW ⟨hyy, ⟨w1, q1, k2⟩, hinv⟩
    dsimp only at hW k2 hinv
    subst l' hyy
    rw [hW.spread]
    clear hW
    simp only [spread_t, spread_f, spread_n, Nat.zero_add, Nat.reduceAdd]
    have hinv3 := Hid.mk hinv
    clear hinv hInv0'
    (repeat' (first | (simp -implicitDefEqProofs (maxSteps := 1000000) (disch := first | assumption | omega | (simp only [ZDI]; omega)) only [*, G59, Za, Zb, Zc, Zd, Ze, Zf, Zg, Zh, Zi, Zj, Zk, Zl, Zm, Zn, Zo, Ja, Jb, Jc, J3, Jd, Je, J4, J5, Jf, Jg, Jh, Ji, Jj, Jk, J6, Jl, Jm, wr, Jn, J7, J8, Jo, Jp, Jq, Jr, Js, Jt, Ju, Jv, Jw, Jx, Jy, Jz, J0, J1, J2, reduceCtorEq, J9, JA, JB, JC, JD, JE, JF, JG]) | ((with_reducible (first | apply Ok.br | apply Ok.gd | apply Ok.ld)) <;> (intro g; (try simp only [ZGS] at g); try (exfalso; omega)))))
    exact hfin'.out _ hinv3.out
end Go.Ev
namespace Go.Ev
open Go.Ev renaming exPure -> Ja, ofValue -> Jb, cellsV -> Jc, load -> Jd, store -> Je, binOp -> Jf, intOp -> Jg, rdV -> Jh, vsame -> Ji, vsames -> Jj, makeSliceV -> Jk, resV -> Jl, isCell -> Jm, nilCheckV -> Jn, allV -> Jo, builtinV -> Jp, lenV -> Jq, indexAddrV -> Jr, unOp -> Js, minmaxV -> Jt, minmax -> Ju, sliceV -> Jv, asInt -> Jw, appendV -> Jx, copyV -> Jy, clearV -> Jz, convV -> J0, sliceCells -> J1, shift -> J2
open Bool renaming true -> BT, false -> BF
open Nat renaming reduceEqDiff -> J3, reduceLT -> J4, reduceAdd -> J5, reduceBEq -> J6, reduceSub -> J7, reduceMul -> J8, reduceLeDiff -> JG
open Int renaming reduceLT -> J9, reduceLE -> JA, reduceAdd -> JB, reduceSub -> JC, reduceNeg -> JD, reduceToNat -> JE, reduceEq -> JF
open Go.Proofs
theorem empty_at (a b : Int) (h : Heap) : D X (.fn 101 []) [.agg [.int .i64 a, .int .i64 b]] h = some (.bool (decide (b <= a)), h) := by
  refine Ok.eq ?_
  (refine Ok.body body101 pin101 ?_; simp only [c101, Try.f101, Option.getD_some, nslot101, List.append_nil, List.map, List.replicate, List.length_cons, List.length_nil, Nat.reduceAdd, Nat.reduceSub, List.cons_append, List.nil_append])
  (repeat' (first | (simp -implicitDefEqProofs (maxSteps := 1000000) (disch := first | assumption | omega | (simp only [ZDI]; omega)) only [*, G101, Za, Zb, Zc, Zd, Ze, Zf, Zg, Zh, Zi, Zj, Zk, Zl, Zm, Zn, Zo, Ja, Jb, Jc, J3, Jd, Je, J4, J5, Jf, Jg, Jh, Ji, Jj, Jk, J6, Jl, Jm, wr, Jn, J7, J8, Jo, Jp, Jq, Jr, Js, Jt, Ju, Jv, Jw, Jx, Jy, Jz, J0, J1, J2, reduceCtorEq, J9, JA, JB, JC, JD, JE, JF, JG]) | ((with_reducible (first | apply Ok.br | apply Ok.gd | apply Ok.ld)) <;> (intro g; (try simp only [ZGS] at g); try (exfalso; omega)))))
theorem looks_at (a : Int) (h : Heap) : D X (.fn 82 []) [.int .i64 a] h = some (.bool (decide (a = 1 \/ a = 4)), h) := by
  refine Ok.eq ?_
  (refine Ok.body body82 pin82 ?_; simp only [c82, Try.f82, Option.getD_some, nslot82, List.append_nil, List.map, List.replicate, List.length_cons, List.length_nil, Nat.reduceAdd, Nat.reduceSub, List.cons_append, List.nil_append])
  (repeat' (first | (simp -implicitDefEqProofs (maxSteps := 1000000) (disch := first | assumption | omega | (simp only [ZDI]; omega)) only [*, G82, Za, Zb, Zc, Zd, Ze, Zf, Zg, Zh, Zi, Zj, Zk, Zl, Zm, Zn, Zo, Ja, Jb, Jc, J3, Jd, Je, J4, J5, Jf, Jg, Jh, Ji, Jj, Jk, J6, Jl, Jm, wr, Jn, J7, J8, Jo, Jp, Jq, Jr, Js, Jt, Ju, Jv, Jw, Jx, Jy, Jz, J0, J1, J2, reduceCtorEq, J9, JA, JB, JC, JD, JE, JF, JG]) | ((with_reducible (first | apply Ok.br | apply Ok.gd | apply Ok.ld)) <;> (intro g; (try simp only [ZGS] at g); try (exfalso; omega)))))
  all_goals try (first | rfl | (exfalso; omega) | exact leaf_t (by (try simp only [Bool.and_eq_true, Bool.or_eq_true, decide_eq_true_eq, Bool.not_eq_true', decide_eq_false_iff_not, Bool.false_eq_true, Bool.true_eq_false, Bool.not_false, Bool.not_true, eq_self, iff_true, iff_false, true_iff, false_iff, false_or, true_or, or_false, or_true, true_and, and_true, false_and, and_false, not_true_eq_false, not_false_eq_true]); (first | done | omega)) | exact leaf_f (by (try simp only [Bool.and_eq_true, Bool.or_eq_true, decide_eq_true_eq, Bool.not_eq_true', decide_eq_false_iff_not, Bool.false_eq_true, Bool.true_eq_false, Bool.not_false, Bool.not_true, eq_self, iff_true, iff_false, true_iff, false_iff, false_or, true_or, or_false, or_true, true_and, and_true, false_and, and_false, not_true_eq_false, not_false_eq_true]); (first | done | omega)) | exact leaf_b (by (try simp only [Bool.and_eq_true, Bool.or_eq_true, decide_eq_true_eq, Bool.not_eq_true', decide_eq_false_iff_not, Bool.false_eq_true, Bool.true_eq_false, Bool.not_false, Bool.not_true, eq_self, iff_true, iff_false, true_iff, false_iff, false_or, true_or, or_false, or_true, true_and, and_true, false_and, and_false, not_true_eq_false, not_false_eq_true]); (first | done | omega)))
set_option maxRecDepth 100000 in
theorem both_at (a b c d : Int) (h : Heap) : D X (.fn 102 []) [.agg [.int .i64 a, .int .i64 b], .agg [.int .i64 c, .int .i64 d]] h = some (.agg [.int .i64 (max a c), .int .i64 (min b d)], h) := by
  refine Ok.eq ?_
  (refine Ok.body body102 pin102 ?_; simp only [c102, Try.f102, Option.getD_some, nslot102, List.append_nil, List.map, List.replicate, List.length_cons, List.length_nil, Nat.reduceAdd, Nat.reduceSub, List.cons_append, List.nil_append])
  (repeat' (first | (simp -implicitDefEqProofs (maxSteps := 1000000) (disch := first | assumption | omega | (simp only [ZDI]; omega)) only [*, minmaxV, G102, Za, Zb, Zc, Zd, Ze, Zf, Zg, Zh, Zi, Zj, Zk, Zl, Zm, Zn, Zo, Ja, Jb, Jc, J3, Jd, Je, J4, J5, Jf, Jg, Jh, Ji, Jj, Jk, J6, Jl, Jm, wr, Jn, J7, J8, Jo, Jp, Jq, Jr, Js, Jt, Ju, Jv, Jw, Jx, Jy, Jz, J0, J1, J2, reduceCtorEq, J9, JA, JB, JC, JD, JE, JF, JG]) | ((with_reducible (first | apply Ok.br | apply Ok.gd | apply Ok.ld)) <;> (intro g; (try simp only [ZGS] at g); try (exfalso; omega)))))
  have h1 : (if a < c then c else a) = max a c := by split <;> omega
  have h2 : (if d < b then d else b) = min b d := by split <;> omega
  rw [h1, h2]
set_option maxRecDepth 100000 in
theorem touch_at (a b c d : Int) (h : Heap) : D X (.fn 81 []) [.agg [.int .i64 a, .int .i64 b], .agg [.int .i64 c, .int .i64 d]] h = some (.bool (decide (a < b /\ c < d /\ a < d /\ c < b)), h) := by
  refine Ok.eq ?_
  (refine Ok.body body81 pin81 ?_; simp only [c81, Try.f81, Option.getD_some, nslot81, List.append_nil, List.map, List.replicate, List.length_cons, List.length_nil, Nat.reduceAdd, Nat.reduceSub, List.cons_append, List.nil_append])
  (repeat' (first | (simp -implicitDefEqProofs (maxSteps := 1000000) (disch := first | assumption | omega | (simp only [ZDI]; omega)) only [*, empty_at, both_at, G81, Za, Zb, Zc, Zd, Ze, Zf, Zg, Zh, Zi, Zj, Zk, Zl, Zm, Zn, Zo, Ja, Jb, Jc, J3, Jd, Je, J4, J5, Jf, Jg, Jh, Ji, Jj, Jk, J6, Jl, Jm, wr, Jn, J7, J8, Jo, Jp, Jq, Jr, Js, Jt, Ju, Jv, Jw, Jx, Jy, Jz, J0, J1, J2, reduceCtorEq, J9, JA, JB, JC, JD, JE, JF, JG]) | ((with_reducible (first | apply Ok.br | apply Ok.gd | apply Ok.ld)) <;> (intro g; (try simp only [ZGS] at g); try (exfalso; omega)))))
  all_goals try (first | rfl | (exfalso; omega) | exact leaf_t (by (try simp only [Bool.and_eq_true, Bool.or_eq_true, decide_eq_true_eq, Bool.not_eq_true', decide_eq_false_iff_not, Bool.false_eq_true, Bool.true_eq_false, Bool.not_false, Bool.not_true, eq_self, iff_true, iff_false, true_iff, false_iff, false_or, true_or, or_false, or_true, true_and, and_true, false_and, and_false, not_true_eq_false, not_false_eq_true]); (first | done | omega)) | exact leaf_f (by (try simp only [Bool.and_eq_true, Bool.or_eq_true, decide_eq_true_eq, Bool.not_eq_true', decide_eq_false_iff_not, Bool.false_eq_true, Bool.true_eq_false, Bool.not_false, Bool.not_true, eq_self, iff_true, iff_false, true_iff, false_iff, false_or, true_or, or_false, or_true, true_and, and_true, false_and, and_false, not_true_eq_false, not_false_eq_true]); (first | done | omega)) | exact leaf_b (by (try simp only [Bool.and_eq_true, Bool.or_eq_true, decide_eq_true_eq, Bool.not_eq_true', decide_eq_false_iff_not, Bool.false_eq_true, Bool.true_eq_false, Bool.not_false, Bool.not_true, eq_self, iff_true, iff_false, true_iff, false_iff, false_or, true_or, or_false, or_true, true_and, and_true, false_and, and_false, not_true_eq_false, not_false_eq_true]); (first | done | omega)))
end Go.Ev
namespace Go.Ev
open Go.Ev renaming exPure -> Ja, ofValue -> Jb, cellsV -> Jc, load -> Jd, store -> Je, binOp -> Jf, intOp -> Jg, rdV -> Jh, vsame -> Ji, vsames -> Jj, makeSliceV -> Jk, resV -> Jl, isCell -> Jm, nilCheckV -> Jn, allV -> Jo, builtinV -> Jp, lenV -> Jq, indexAddrV -> Jr, unOp -> Js, minmaxV -> Jt, minmax -> Ju, sliceV -> Jv, asInt -> Jw, appendV -> Jx, copyV -> Jy, clearV -> Jz, convV -> J0, sliceCells -> J1, shift -> J2
open Bool renaming true -> BT, false -> BF
open Nat renaming reduceEqDiff -> J3, reduceLT -> J4, reduceAdd -> J5, reduceBEq -> J6, reduceSub -> J7, reduceMul -> J8, reduceLeDiff -> JG
open Int renaming reduceLT -> J9, reduceLE -> JA, reduceAdd -> JB, reduceSub -> JC, reduceNeg -> JD, reduceToNat -> JE, reduceEq -> JF
open Go.Proofs
def meddleP (o c f t o' c' f' t' : Int) : Prop := ¬ (o = 0 \/ o' = 0) /\ ((o = 5 \/ o' = 5 \/ c = c') \/ ((f < t /\ f' < t' /\ f < t' /\ f' < t) /\ ¬ ((o = 1 \/ o = 4) /\ (o' = 1 \/ o' = 4))))
instance (o c f t o' c' f' t' : Int) : Decidable (meddleP o c f t o' c' f' t') := by unfold meddleP; infer_instance
set_option maxRecDepth 100000 in
theorem meddle_at (o c q f t o' c' q' f' t' : Int) (s s' : V) (h : Heap) : D X (.fn 55 []) [.agg [.int .i64 o, .int .i64 c, .int .i64 q, .int .i64 f, .int .i64 t, s], .agg [.int .i64 o', .int .i64 c', .int .i64 q', .int .i64 f', .int .i64 t', s']] h = some (.bool (decide (meddleP o c f t o' c' f' t')), h) := by
  refine Ok.eq ?_
  (refine Ok.body body55 pin55 ?_; simp only [c55, Try.f55, Option.getD_some, nslot55, List.append_nil, List.map, List.replicate, List.length_cons, List.length_nil, Nat.reduceAdd, Nat.reduceSub, List.cons_append, List.nil_append])
  (repeat' (first | (simp -implicitDefEqProofs (maxSteps := 1000000) (disch := first | assumption | omega | (simp only [ZDI]; omega)) only [*, touch_at, looks_at, G55, Za, Zb, Zc, Zd, Ze, Zf, Zg, Zh, Zi, Zj, Zk, Zl, Zm, Zn, Zo, Ja, Jb, Jc, J3, Jd, Je, J4, J5, Jf, Jg, Jh, Ji, Jj, Jk, J6, Jl, Jm, wr, Jn, J7, J8, Jo, Jp, Jq, Jr, Js, Jt, Ju, Jv, Jw, Jx, Jy, Jz, J0, J1, J2, reduceCtorEq, J9, JA, JB, JC, JD, JE, JF, JG]) | ((with_reducible (first | apply Ok.br | apply Ok.gd | apply Ok.ld)) <;> (intro g; (try simp only [ZGS] at g); try (exfalso; omega)))))
  all_goals try (unfold meddleP; (first | rfl | (exfalso; omega) | exact leaf_t (by (try simp only [Bool.and_eq_true, Bool.or_eq_true, decide_eq_true_eq, Bool.not_eq_true', decide_eq_false_iff_not, Bool.false_eq_true, Bool.true_eq_false, Bool.not_false, Bool.not_true, eq_self, iff_true, iff_false, true_iff, false_iff, false_or, true_or, or_false, or_true, true_and, and_true, false_and, and_false, not_true_eq_false, not_false_eq_true]); (first | done | omega)) | exact leaf_f (by (try simp only [Bool.and_eq_true, Bool.or_eq_true, decide_eq_true_eq, Bool.not_eq_true', decide_eq_false_iff_not, Bool.false_eq_true, Bool.true_eq_false, Bool.not_false, Bool.not_true, eq_self, iff_true, iff_false, true_iff, false_iff, false_or, true_or, or_false, or_true, true_and, and_true, false_and, and_false, not_true_eq_false, not_false_eq_true]); (first | done | omega)) | exact leaf_b (by (try simp only [Bool.and_eq_true, Bool.or_eq_true, decide_eq_true_eq, Bool.not_eq_true', decide_eq_false_iff_not, Bool.false_eq_true, Bool.true_eq_false, Bool.not_false, Bool.not_true, eq_self, iff_true, iff_false, true_iff, false_iff, false_or, true_or, or_false, or_true, true_and, and_true, false_and, and_false, not_true_eq_false, not_false_eq_true]); (first | done | omega))))
set_option maxRecDepth 100000 in
set_option maxHeartbeats 4000000 in
theorem rmeddle_at (o c q f t o' c' q' f' t' : Int) (s s' : V) (h : Heap) : D X (.fn 25 []) [.agg [.int .i64 o, .int .i64 c, .int .i64 q, .int .i64 f, .int .i64 t, s], .agg [.int .i64 o', .int .i64 c', .int .i64 q', .int .i64 f', .int .i64 t', s']] h = some (.bool (decide (meddleP o c f t o' c' f' t')), h) := by
  refine Ok.eq ?_
  (refine Ok.body body25 pin25 ?_; simp only [c25, Try.f25, Option.getD_some, nslot25, List.append_nil, List.map, List.replicate, List.length_cons, List.length_nil, Nat.reduceAdd, Nat.reduceSub, List.cons_append, List.nil_append])
  (repeat' (first | (simp -implicitDefEqProofs (maxSteps := 1000000) (disch := first | assumption | omega | (simp only [ZDI]; omega)) only [*, G25, Za, Zb, Zc, Zd, Ze, Zf, Zg, Zh, Zi, Zj, Zk, Zl, Zm, Zn, Zo, Ja, Jb, Jc, J3, Jd, Je, J4, J5, Jf, Jg, Jh, Ji, Jj, Jk, J6, Jl, Jm, wr, Jn, J7, J8, Jo, Jp, Jq, Jr, Js, Jt, Ju, Jv, Jw, Jx, Jy, Jz, J0, J1, J2, reduceCtorEq, J9, JA, JB, JC, JD, JE, JF, JG]) | ((with_reducible (first | apply Ok.br | apply Ok.gd | apply Ok.ld)) <;> (intro g; (try simp only [ZGS] at g); try (exfalso; omega)))))
  all_goals try (unfold meddleP; (first | rfl | (exfalso; omega) | exact leaf_t (by (try simp only [Bool.and_eq_true, Bool.or_eq_true, decide_eq_true_eq, Bool.not_eq_true', decide_eq_false_iff_not, Bool.false_eq_true, Bool.true_eq_false, Bool.not_false, Bool.not_true, eq_self, iff_true, iff_false, true_iff, false_iff, false_or, true_or, or_false, or_true, true_and, and_true, false_and, and_false, not_true_eq_false, not_false_eq_true]); (first | done | omega)) | exact leaf_f (by (try simp only [Bool.and_eq_true, Bool.or_eq_true, decide_eq_true_eq, Bool.not_eq_true', decide_eq_false_iff_not, Bool.false_eq_true, Bool.true_eq_false, Bool.not_false, Bool.not_true, eq_self, iff_true, iff_false, true_iff, false_iff, false_or, true_or, or_false, or_true, true_and, and_true, false_and, and_false, not_true_eq_false, not_false_eq_true]); (first | done | omega)) | exact leaf_b (by (try simp only [Bool.and_eq_true, Bool.or_eq_true, decide_eq_true_eq, Bool.not_eq_true', decide_eq_false_iff_not, Bool.false_eq_true, Bool.true_eq_false, Bool.not_false, Bool.not_true, eq_self, iff_true, iff_false, true_iff, false_iff, false_or, true_or, or_false, or_true, true_and, and_true, false_and, and_false, not_true_eq_false, not_false_eq_true]); (first | done | omega))))
end Go.Ev
set_option maxRecDepth 100000
namespace Go.Ev
open Go.Ev renaming exPure -> Ja, ofValue -> Jb, cellsV -> Jc, load -> Jd, store -> Je, binOp -> Jf, intOp -> Jg, rdV -> Jh, vsame -> Ji, vsames -> Jj, makeSliceV -> Jk, resV -> Jl, isCell -> Jm, nilCheckV -> Jn, allV -> Jo, builtinV -> Jp, lenV -> Jq, indexAddrV -> Jr, unOp -> Js, minmaxV -> Jt, minmax -> Ju, sliceV -> Jv, asInt -> Jw, appendV -> Jx, copyV -> Jy, clearV -> Jz, convV -> J0, sliceCells -> J1, shift -> J2
open Bool renaming true -> BT, false -> BF
open Nat renaming reduceEqDiff -> J3, reduceLT -> J4, reduceAdd -> J5, reduceBEq -> J6, reduceSub -> J7, reduceMul -> J8, reduceLeDiff -> JG
open Int renaming reduceLT -> J9, reduceLE -> JA, reduceAdd -> JB, reduceSub -> JC, reduceNeg -> JD, reduceToNat -> JE, reduceEq -> JF
open Go.Proofs
def flI : List In -> List V
  | [] => []
  | x :: l => .int .i64 x.l :: .int .i64 x.i :: .int .i64 x.bn :: .int .i64 x.bd :: .int .i64 x.vn :: .int .i64 x.vd :: .int .i64 x.st :: .bool x.sm :: .int .i64 x.o :: .int .i64 x.c :: .int .i64 x.q :: .int .i64 x.f :: .int .i64 x.t :: x.dv :: .int .i64 x.sq :: x.pv :: flI l
theorem flI_len : ∀ l : List In, (flI l).length = l.length * 16
  | [] => rfl
  | x :: l => by simp only [flI, List.length_cons, flI_len l]; omega
theorem flI_app : ∀ l m : List In, flI (l ++ m) = flI l ++ flI m
  | [], m => rfl
  | x :: l, m => by simp only [List.cons_append, flI, flI_app l m]
theorem flI_at : ∀ (l : List In) (i : Nat) (x : In), l[i]? = some x -> ((flI l).drop (i * 16)).take 16 = inV x
  | [], i, x, h => by simp at h
  | y :: l, 0, x, h => by simp at h; subst h; rfl
  | y :: l, i + 1, x, h => by
    have e : (i + 1) * 16 = i * 16 + 16 := by omega
    rw [e]
    show (((inV y ++ flI l)).drop (i * 16 + 16)).take 16 = _
    rw [Nat.add_comm, List.drop_append, show List.drop (16 + i * 16) (inV y) = [] from List.drop_eq_nil_of_le (by simp [inV]), List.nil_append, show 16 + i * 16 - (inV y).length = i * 16 by simp [inV]]
    exact flI_at l i x (by simpa using h)
theorem fl_snocI (l : List In) (x : In) : (flI l).take (l.length * 16) ++ [V.int .i64 x.l, .int .i64 x.i, .int .i64 x.bn, .int .i64 x.bd, .int .i64 x.vn, .int .i64 x.vd, .int .i64 x.st, .bool x.sm, .int .i64 x.o, .int .i64 x.c, .int .i64 x.q, .int .i64 x.f, .int .i64 x.t, x.dv, .int .i64 x.sq, x.pv] = flI (l ++ [x]) := by
  rw [flI_app, List.take_of_length_le (by rw [flI_len]; exact Nat.le_refl _)]; rfl
def InsAt (h : Heap) (v : V) (l : List In) : Prop :=
  ∃ a cap z, v = .sl a l.length cap z /\ l.length <= 9223372036854775807 /\ (∀ x ∈ l, InAt h x) /\ (l = [] \/ ∃ b g o rw full, a = .at b g o /\ hcells h b g = some (rw, full) /\ (∀ (i : Nat) (x : In), l[i]? = some x -> (full.drop (o + i * 16)).take 16 = inV x) /\ o + l.length * 16 <= full.length)
theorem InsAt.keep {h h' : Heap} {v : V} {l : List In} (hs : InsAt h v l) (k : KeepC h h') : InsAt h' v l := by
  obtain ⟨a, cap, z, h1, h2, h3, h4⟩ := hs
  refine ⟨a, cap, z, h1, h2, fun x hx => (h3 x hx).keep k, h4.imp id ?_⟩
  rintro ⟨b, g, o, rw, full, e1, e2, e3⟩
  exact ⟨b, g, o, rw, full, e1, k.2 _ _ _ e2, e3⟩
theorem InsAt.sl {h : Heap} {v : V} {l : List In} (hs : InsAt h v l) : ∃ a cap z, v = .sl a l.length cap z := let ⟨a, cap, z, e, _⟩ := hs; ⟨a, cap, z, e⟩
def GroI (h g : Heap) (w : V) (l : List In) : Prop :=
  (l = [] /\ w = .sl .nil 0 0 0) \/ ∃ b q, w = .sl (.at b q 0) l.length l.length 16 /\ h.length <= b /\ hcells g b q = some (true, flI l)
theorem GroI.row {h g : Heap} {w : V} {l : List In} (k : GroI h g w l) (hl : l.length <= 1000000) (ha : ∀ x ∈ l, InAt g x) : InsAt g w l := by
  rcases k with ⟨rfl, rfl⟩ | ⟨b, q, rfl, _, hc⟩
  · exact ⟨_, _, _, rfl, by decide, ha, .inl rfl⟩
  · refine ⟨_, _, _, rfl, by omega, ha, .inr ⟨b, q, 0, _, _, rfl, hc, fun i x hx => ?_, by rw [flI_len]; omega⟩⟩
    rw [Nat.zero_add]; exact flI_at l i x hx
end Go.Ev
set_option maxRecDepth 100000
namespace Go.Ev
open Go.Ev renaming exPure -> Ja, ofValue -> Jb, cellsV -> Jc, load -> Jd, store -> Je, binOp -> Jf, intOp -> Jg, rdV -> Jh, vsame -> Ji, vsames -> Jj, makeSliceV -> Jk, resV -> Jl, isCell -> Jm, nilCheckV -> Jn, allV -> Jo, builtinV -> Jp, lenV -> Jq, indexAddrV -> Jr, unOp -> Js, minmaxV -> Jt, minmax -> Ju, sliceV -> Jv, asInt -> Jw, appendV -> Jx, copyV -> Jy, clearV -> Jz, convV -> J0, sliceCells -> J1, shift -> J2
open Bool renaming true -> BT, false -> BF
open Nat renaming reduceEqDiff -> J3, reduceLT -> J4, reduceAdd -> J5, reduceBEq -> J6, reduceSub -> J7, reduceMul -> J8, reduceLeDiff -> JG
open Int renaming reduceLT -> J9, reduceLE -> JA, reduceAdd -> JB, reduceSub -> JC, reduceNeg -> JD, reduceToNat -> JE, reduceEq -> JF
open Go.Proofs
def lightB : Nat -> Nat -> List ByteArray -> Bool
  | _, _, [] => true
  | i, n, s :: r => cond (decide ((100 : Int) < i)) false (cond (decide ((10000 : Int) < s.size)) false (cond (decide ((100000 : Int) < n)) false (lightB (i + 1) (n + s.size) r)))
theorem lightB_drop {i n : Nat} {l : List ByteArray} {s : ByteArray} (h : l[i]? = some s) : lightB i n (l.drop i) = cond (decide ((100 : Int) < i)) false (cond (decide ((10000 : Int) < s.size)) false (cond (decide ((100000 : Int) < n)) false (lightB (i + 1) (n + s.size) (l.drop (i + 1))))) := by
  have hi := (List.getElem?_eq_some_iff.1 h).1
  rw [List.drop_eq_getElem_cons hi]
  have : l[i] = s := by rw [List.getElem?_eq_getElem hi] at h; exact Option.some.inj h
  rw [this, lightB]
theorem light_at {h : Heap} {x : In} (hx : InAt h x) : D X (.fn 12 []) [.agg (inV x)] h = some (.bool (lightB 0 0 x.dl && decide ((x.pl.length : Int) <= 5000)), h) := by
  refine Ok.eq ?_
  refine Ok.aim fun Q hQ => ?_
  have hQ' := Hid.mk hQ
  clear hQ
  obtain ⟨a, cap, z, e1, hl, _, ha⟩ := hx.1
  obtain ⟨a3, cap3, z3, e3, _⟩ := hx.2
  have hh := Hid.mk ha
  clear ha hx
  simp only [inV, e1, e3]
  clear e1 e3
  generalize x.dl = l at hl hh hQ' ⊢
  (refine Ok.body body12 pin12 ?_; simp only [c12, Try.f12, Option.getD_some, nslot12, List.append_nil, List.map, List.replicate, List.length_cons, List.length_nil, Nat.reduceAdd, Nat.reduceSub, List.cons_append, List.nil_append])
  simp -implicitDefEqProofs (maxSteps := 1000000) (disch := first | assumption | omega | (simp only [ZDI]; omega)) only [*, lenV, G12, Za, Zb, Zc, Zd, Ze, Zf, Zg, Zh, Zi, Zj, Zk, Zl, Zm, Zn, Zo, Ja, Jb, Jc, J3, Jd, Je, J4, J5, Jf, Jg, Jh, Ji, Jj, Jk, J6, Jl, Jm, wr, Jn, J7, J8, Jo, Jp, Jq, Jr, Js, Jt, Ju, Jv, Jw, Jx, Jy, Jz, J0, J1, J2, reduceCtorEq, J9, JA, JB, JC, JD, JE, JF, JG]
  refine Ok.loop [BF, BF, BT, BT, BT, BT, BF, BF, BF, BF, BT, BT, BT, BT, BT, BT, BT, BT, BT, BT, BT, BT, BT, BT, BT, BT, BT, BT, BT, BT, BT, BF, BF, BF, BF] (fun n s => ∃ i m : Nat, n = l.length - i /\ i <= l.length /\ m <= 110000 /\ tv s.e 10 = .v (.int .i64 i) /\ tv s.e 3 = .v (.int .i64 m) /\ s.l = [(1, [.int .i64 x.l, .int .i64 x.i, .int .i64 x.bn, .int .i64 x.bd, .int .i64 x.vn, .int .i64 x.vd, .int .i64 x.st, .bool x.sm, .int .i64 x.o, .int .i64 x.c, .int .i64 x.q, .int .i64 x.f, .int .i64 x.t, .sl a l.length cap z, .int .i64 x.sq, .sl a3 x.pl.length cap3 z3])] /\ s.h = h /\ lightB 0 0 l = lightB i m (l.drop i))
    (fun xx s => s.l = [(1, [.int .i64 x.l, .int .i64 x.i, .int .i64 x.bn, .int .i64 x.bd, .int .i64 x.vn, .int .i64 x.vd, .int .i64 x.st, .bool x.sm, .int .i64 x.o, .int .i64 x.c, .int .i64 x.q, .int .i64 x.f, .int .i64 x.t, .sl a l.length cap z, .int .i64 x.sq, .sl a3 x.pl.length cap3 z3])] /\ s.h = h /\ ((xx = .exit 0 /\ lightB 0 0 l = true) \/ (xx = .ret /\ lightB 0 0 l = false /\ tv s.e 2 = .v (.bool false)))) (l.length - 0) ⟨0, 0, rfl, by omega, by omega, rfl, rfl, rfl, rfl, rfl⟩ ?_ ?_
  · intro n ⟨e', l', h'⟩ hW ⟨i, m, hn, hi, hm, h9, h3, h1, h2, hno⟩
    dsimp only at hW h9 h3 h1 h2
    subst l' h'
    rw [hW.spread]
    simp only [spread_t, spread_f, spread_n, Nat.zero_add, Nat.reduceAdd, h9, h3]
    by_cases hlt : i < l.length
    · rcases hh.out with rfl | ⟨b, g, oo, rw, full, rfl, hb, hfull⟩
      · simp at hlt
      · obtain ⟨s, hs⟩ : ∃ s, l[i]? = some s := ⟨_, List.getElem?_eq_getElem hlt⟩
        have hf := hfull i s hs
        have hno' := hno
        rw [lightB_drop hs] at hno'
        have hno2 := Hid.mk hno'
        clear hno hno' hfull
        (repeat' (first | (simp -implicitDefEqProofs (maxSteps := 1000000) (disch := first | assumption | omega | (simp only [ZDI]; omega)) only [*, Int.ofNat_lt, Int.natCast_nonneg, lenV, Int.natCast_zero, G12, Za, Zb, Zc, Zd, Ze, Zf, Zg, Zh, Zi, Zj, Zk, Zl, Zm, Zn, Zo, Ja, Jb, Jc, J3, Jd, Je, J4, J5, Jf, Jg, Jh, Ji, Jj, Jk, J6, Jl, Jm, wr, Jn, J7, J8, Jo, Jp, Jq, Jr, Js, Jt, Ju, Jv, Jw, Jx, Jy, Jz, J0, J1, J2, reduceCtorEq, J9, JA, JB, JC, JD, JE, JF, JG]) | ((with_reducible (first | apply Ok.br | apply Ok.gd | apply Ok.ld)) <;> (intro g; (try simp only [ZGS] at g); try (exfalso; omega)))))
        all_goals first
          | (refine Turn.ret ⟨rfl, rfl, rfl, .inr ⟨rfl, ?_, rfl⟩⟩; rw [hno2.out]; simp only [*, decide_true, decide_false, cond_true, cond_false]; done)
          | (refine Turn.next (l.length - (i + 1)) (by omega) ⟨rfl, i + 1, m + s.size, rfl, by omega, by omega, rfl, rfl, rfl, rfl, ?_⟩; rw [hno2.out]; simp only [*, decide_false, cond_false])
    · simp -implicitDefEqProofs (maxSteps := 1000000) (disch := first | assumption | omega | (simp only [ZDI]; omega)) only [*, Int.ofNat_lt, G12, Za, Zb, Zc, Zd, Ze, Zf, Zg, Zh, Zi, Zj, Zk, Zl, Zm, Zn, Zo, Ja, Jb, Jc, J3, Jd, Je, J4, J5, Jf, Jg, Jh, Ji, Jj, Jk, J6, Jl, Jm, wr, Jn, J7, J8, Jo, Jp, Jq, Jr, Js, Jt, Ju, Jv, Jw, Jx, Jy, Jz, J0, J1, J2, reduceCtorEq, J9, JA, JB, JC, JD, JE, JF, JG]
      refine Turn.exit ⟨rfl, rfl, rfl, .inl ⟨rfl, ?_⟩⟩
      rw [List.drop_of_length_le (by omega), lightB]
  · intro xx ⟨e', l', h'⟩ hW ⟨h1, h2, hE⟩
    dsimp only at hW h1 h2 hE
    subst l' h'
    rw [hW.spread]
    rcases hE with ⟨rfl, hany⟩ | ⟨rfl, hany, h4⟩
    · simp only [spread_t, spread_f, spread_n, Nat.zero_add, Nat.reduceAdd]
      simp -implicitDefEqProofs (maxSteps := 1000000) (disch := first | assumption | omega | (simp only [ZDI]; omega)) only [*, lenV, G12, Za, Zb, Zc, Zd, Ze, Zf, Zg, Zh, Zi, Zj, Zk, Zl, Zm, Zn, Zo, Ja, Jb, Jc, J3, Jd, Je, J4, J5, Jf, Jg, Jh, Ji, Jj, Jk, J6, Jl, Jm, wr, Jn, J7, J8, Jo, Jp, Jq, Jr, Js, Jt, Ju, Jv, Jw, Jx, Jy, Jz, J0, J1, J2, reduceCtorEq, J9, JA, JB, JC, JD, JE, JF, JG]
      exact hQ'.out _ (by rw [hany]; simp)
    · simp only [spread_t, spread_f, spread_n, Nat.zero_add, Nat.reduceAdd, h4]
      simp -implicitDefEqProofs (maxSteps := 1000000) (disch := first | assumption | omega | (simp only [ZDI]; omega)) only [*, lenV, G12, Za, Zb, Zc, Zd, Ze, Zf, Zg, Zh, Zi, Zj, Zk, Zl, Zm, Zn, Zo, Ja, Jb, Jc, J3, Jd, Je, J4, J5, Jf, Jg, Jh, Ji, Jj, Jk, J6, Jl, Jm, wr, Jn, J7, J8, Jo, Jp, Jq, Jr, Js, Jt, Ju, Jv, Jw, Jx, Jy, Jz, J0, J1, J2, reduceCtorEq, J9, JA, JB, JC, JD, JE, JF, JG]
      exact hQ'.out _ (by rw [hany]; simp)
end Go.Ev
set_option maxRecDepth 100000
namespace Go.Ev
open Go.Ev renaming exPure -> Ja, ofValue -> Jb, cellsV -> Jc, load -> Jd, store -> Je, binOp -> Jf, intOp -> Jg, rdV -> Jh, vsame -> Ji, vsames -> Jj, makeSliceV -> Jk, resV -> Jl, isCell -> Jm, nilCheckV -> Jn, allV -> Jo, builtinV -> Jp, lenV -> Jq, indexAddrV -> Jr, unOp -> Js, minmaxV -> Jt, minmax -> Ju, sliceV -> Jv, asInt -> Jw, appendV -> Jx, copyV -> Jy, clearV -> Jz, convV -> J0, sliceCells -> J1, shift -> J2
open Bool renaming true -> BT, false -> BF
open Nat renaming reduceEqDiff -> J3, reduceLT -> J4, reduceAdd -> J5, reduceBEq -> J6, reduceSub -> J7, reduceMul -> J8, reduceLeDiff -> JG
open Int renaming reduceLT -> J9, reduceLE -> JA, reduceAdd -> JB, reduceSub -> JC, reduceNeg -> JD, reduceToNat -> JE, reduceEq -> JF
open Go.Proofs
theorem core_len {L M : List In} (h : L.map In.core = M.map In.core) : L.length = M.length := by have := congrArg List.length h; simpa using this
theorem core_keys {L M : List In} (h : L.map In.core = M.map In.core) : L.map In.key = M.map In.key := by
  have := congrArg (List.map In.key) h
  rw [List.map_map, List.map_map] at this
  exact this
structure Played (h g : Heap) (b m : Nat) (w : V) (L M : List In) : Prop where
  ext : Ext h g
  tab : TabAt g b m L
  new : h.length <= b /\ h.length <= m
  row : InsAt g w M
  same : L.map In.core = M.map In.core
  may : ∀ x ∈ M, mayB x = true
end Go.Ev
set_option maxRecDepth 100000
namespace Go.Ev
open Go.Ev renaming exPure -> Ja, ofValue -> Jb, cellsV -> Jc, load -> Jd, store -> Je, binOp -> Jf, intOp -> Jg, rdV -> Jh, vsame -> Ji, vsames -> Jj, makeSliceV -> Jk, resV -> Jl, isCell -> Jm, nilCheckV -> Jn, allV -> Jo, builtinV -> Jp, lenV -> Jq, indexAddrV -> Jr, unOp -> Js, minmaxV -> Jt, minmax -> Ju, sliceV -> Jv, asInt -> Jw, appendV -> Jx, copyV -> Jy, clearV -> Jz, convV -> J0, sliceCells -> J1, shift -> J2
open Bool renaming true -> BT, false -> BF
open Nat renaming reduceEqDiff -> J3, reduceLT -> J4, reduceAdd -> J5, reduceBEq -> J6, reduceSub -> J7, reduceMul -> J8, reduceLeDiff -> JG
open Int renaming reduceLT -> J9, reduceLE -> JA, reduceAdd -> JB, reduceSub -> JC, reduceNeg -> JD, reduceToNat -> JE, reduceEq -> JF
open Go.Proofs
def mxS (lead : Int) (a : Int) (k : RP) : Int := if k.1 = lead then (if a < k.2 then k.2 else a) else a
def mxR (lead : Int) (ks : List RP) : Int := ks.foldl (mxS lead) 0
theorem mxS_fold (lead : Int) : ∀ (ks : List RP) (a : Int), (a <= ks.foldl (mxS lead) a) /\ (∀ k ∈ ks, k.1 = lead -> k.2 <= ks.foldl (mxS lead) a) /\ (ks.foldl (mxS lead) a = a \/ ∃ k ∈ ks, k.1 = lead /\ k.2 = ks.foldl (mxS lead) a)
  | [], a => ⟨Int.le_refl _, fun k hk => (nomatch hk), .inl rfl⟩
  | x :: ks, a => by
    obtain ⟨h1, h2, h3⟩ := mxS_fold lead ks (mxS lead a x)
    have hs : a <= mxS lead a x /\ (x.1 = lead -> x.2 <= mxS lead a x) /\ (mxS lead a x = a \/ (x.1 = lead /\ mxS lead a x = x.2)) := by
      unfold mxS
      by_cases he : x.1 = lead
      · rw [if_pos he]
        by_cases hl : a < x.2
        · rw [if_pos hl]; exact ⟨by omega, fun _ => Int.le_refl _, .inr ⟨he, rfl⟩⟩
        · rw [if_neg hl]; exact ⟨Int.le_refl _, fun _ => by omega, .inl rfl⟩
      · rw [if_neg he]; exact ⟨Int.le_refl _, fun h => absurd h he, .inl rfl⟩
    rw [List.foldl_cons]
    refine ⟨by omega, fun k hk hl => ?_, ?_⟩
    · rcases List.mem_cons.1 hk with rfl | hk
      · have := hs.2.1 hl; omega
      · exact h2 k hk hl
    · rcases h3 with h3 | ⟨k, hk, hl, he⟩
      · rw [h3]
        rcases hs.2.2 with h4 | ⟨h4, h5⟩
        · exact .inl h4
        · exact .inr ⟨x, by simp, h4, h5.symm⟩
      · exact .inr ⟨k, by simp [hk], hl, he⟩
theorem mxR_eq {lead : Int} {p q : List RP} (h : ∀ x, x ∈ p ↔ x ∈ q) : mxR lead p = mxR lead q := by
  obtain ⟨a1, a2, a3⟩ := mxS_fold lead p 0
  obtain ⟨b1, b2, b3⟩ := mxS_fold lead q 0
  unfold mxR
  have h1 : p.foldl (mxS lead) 0 <= q.foldl (mxS lead) 0 := by
    rcases a3 with e | ⟨k, hk, hl, e⟩
    · omega
    · have := b2 k ((h k).1 hk) hl; omega
  have h2 : q.foldl (mxS lead) 0 <= p.foldl (mxS lead) 0 := by
    rcases b3 with e | ⟨k, hk, hl, e⟩
    · omega
    · have := a2 k ((h k).2 hk) hl; omega
  omega
theorem mxR_le {lead : Int} {p : List RP} {B : Int} (h0 : 0 <= B) (h : ∀ k ∈ p, k.2 <= B) : 0 <= mxR lead p /\ mxR lead p <= B := by
  obtain ⟨a1, a2, a3⟩ := mxS_fold lead p 0
  unfold mxR
  refine ⟨a1, ?_⟩
  rcases a3 with e | ⟨k, hk, hl, e⟩
  · omega
  · have := h k hk; omega
theorem mxR_snoc {lead : Int} {l : List RP} {i : Nat} {x : RP} (hx : l[i]? = some x) : mxR lead (l.take (i + 1)) = mxS lead (mxR lead (l.take i)) x := by
  unfold mxR
  rw [List.take_add_one, hx, List.foldl_append]; rfl
set_option maxHeartbeats 4000000 in
theorem next_at {h : Heap} {b m : Nat} {L : List In} (ht : TabAt h b m L) (hl : L.length <= 5000) (hb : ∀ k ∈ L.map In.key, k.2 <= 1073741824) (lead : Int) :
    Ev.Ok (D X (.fn 22 []) [.ptr b 0 0, .int .i64 lead] h) fun y => ∃ l, y = (.int .i64 (mxR lead (L.map In.key) + 1), h ++ l) := by
  refine Ok.aim fun Q hQ => ?_
  obtain ⟨v, l, hrefs, hrow⟩ := refs_at ht hl
  have hmem : ∀ x, x ∈ addsR [] (L.map In.key) ↔ x ∈ L.map In.key := fun x => by rw [addsR_mem]; simp
  have hQ2 : Q (.int .i64 (mxR lead (addsR [] (L.map In.key)) + 1), h ++ l) := by
    rw [mxR_eq hmem]; exact hQ _ ⟨l, rfl⟩
  have hbb : ∀ k ∈ addsR [] (L.map In.key), k.2 <= 1073741824 := fun k hk => hb k ((hmem k).1 hk)
  clear hQ hb ht hl hmem
  generalize addsR [] (L.map In.key) = r at hrow hQ2 hbb
  have hQ' := Hid.mk hQ2
  clear hQ2
  obtain ⟨a, cap, z, rfl, h1, h1', h2⟩ := hrow
  generalize h ++ l = H at hrefs h2 hQ'
  have hb' : ∀ i, 0 <= mxR lead (r.take i) /\ mxR lead (r.take i) <= 1073741824 := fun i => mxR_le (by decide) fun k hk => hbb k (List.mem_of_mem_take hk)
  have hb2 := Hid.mk hb'
  clear hbb hb'
  (refine Ok.body body22 pin22 ?_; simp only [c22, Try.f22, Option.getD_some, nslot22, List.append_nil, List.map, List.replicate, List.length_cons, List.length_nil, Nat.reduceAdd, Nat.reduceSub, List.cons_append, List.nil_append])
  (repeat' (first | (simp -implicitDefEqProofs (maxSteps := 1000000) (disch := first | assumption | omega | (simp only [ZDI]; omega)) only [*, lenV, G22, Za, Zb, Zc, Zd, Ze, Zf, Zg, Zh, Zi, Zj, Zk, Zl, Zm, Zn, Zo, Ja, Jb, Jc, J3, Jd, Je, J4, J5, Jf, Jg, Jh, Ji, Jj, Jk, J6, Jl, Jm, wr, Jn, J7, J8, Jo, Jp, Jq, Jr, Js, Jt, Ju, Jv, Jw, Jx, Jy, Jz, J0, J1, J2, reduceCtorEq, J9, JA, JB, JC, JD, JE, JF, JG]) | ((with_reducible (first | apply Ok.br | apply Ok.gd | apply Ok.ld)) <;> (intro g; (try simp only [ZGS] at g); try (exfalso; omega)))))
  clear hrefs
  refine Ok.loop [BF, BF, BF, BF, BF, BT, BF, BT, BF, BF, BF, BT, BT, BT, BT, BT, BT, BT, BT, BT, BT, BT, BT, BT, BF, BF] (fun n s2 => ∃ (i w1 : Nat) (q1 : List V), n = r.length - i /\ i <= r.length /\ tv s2.e 11 = .v (.int .i64 i) /\ tv s2.e 5 = .v (.int .i64 (mxR lead (r.take i))) /\ s2.l = [(w1, q1)] /\ s2.h = H)
    (fun y s2 => y = .exit 0 /\ (∃ (w1 : Nat) (q1 : List V), s2.l = [(w1, q1)]) /\ s2.h = H /\ tv s2.e 5 = .v (.int .i64 (mxR lead r))) (r.length - 0) ⟨0, 0, [], rfl, Nat.zero_le _, rfl, rfl, rfl, rfl⟩ ?_ ?_
  · intro n ⟨e', l', H'⟩ hW ⟨i, w1, q1, hm, hi, h9, h5, k2, k3⟩
    dsimp only at hW h9 h5 k2 k3
    subst l' H'
    rw [hW.spread]
    simp only [spread_t, spread_f, spread_n, Nat.zero_add, Nat.reduceAdd, h9, h5]
    clear hW hQ'
    by_cases hlt : i < r.length
    · have hlt' : (i : Int) < (r.length : Int) := by omega
      have g1 : 0 <= (i : Int) /\ (i : Int) < (r.length : Int) := by omega
      rcases h2 with rfl | ⟨bb, q, o, rw, full, rfl, hbc, hfull, ho⟩
      · simp at hlt
      · obtain ⟨⟨y1, y2⟩, hy⟩ : ∃ y, r[i]? = some y := ⟨_, List.getElem?_eq_getElem hlt⟩
        have hf := hfull i _ hy
        dsimp only at hf
        have ho2 : o + i * 2 + 2 <= full.length := by omega
        have hs := Hid.mk (mxR_snoc (lead := lead) hy)
        clear hy hfull ho
        generalize mxR lead (r.take i) = n0 at hs ⊢
        cases hd1 : decide (y1 = lead) with
        | true =>
          have he := of_decide_eq_true hd1
          by_cases hl2 : n0 < y2
          · have hs2 : mxS lead n0 (y1, y2) = y2 := by unfold mxS; rw [if_pos he, if_pos hl2]
            have hs3 := Hid.mk (hs.out.trans hs2)
            clear hs2 hs he
            (repeat' (first | (simp -implicitDefEqProofs (maxSteps := 1000000) (disch := first | assumption | omega | (simp only [ZDI]; omega)) only [*, lenV, minmaxV, minmax, itT, if_true, G22, Za, Zb, Zc, Zd, Ze, Zf, Zg, Zh, Zi, Zj, Zk, Zl, Zm, Zn, Zo, Ja, Jb, Jc, J3, Jd, Je, J4, J5, Jf, Jg, Jh, Ji, Jj, Jk, J6, Jl, Jm, wr, Jn, J7, J8, Jo, Jp, Jq, Jr, Js, Jt, Ju, Jv, Jw, Jx, Jy, Jz, J0, J1, J2, reduceCtorEq, J9, JA, JB, JC, JD, JE, JF, JG]) | ((with_reducible (first | apply Ok.br | apply Ok.gd | apply Ok.ld)) <;> (intro g; (try simp only [ZGS] at g); try (exfalso; omega)))))
            exact Turn.next (r.length - (i + 1)) (by omega) ⟨rfl, i + 1, _, _, rfl, by omega, rfl, by rw [hs3.out]; rfl, rfl, rfl⟩
          · have hs2 : mxS lead n0 (y1, y2) = n0 := by unfold mxS; rw [if_pos he, if_neg hl2]
            have hs3 := Hid.mk (hs.out.trans hs2)
            clear hs2 hs he
            (repeat' (first | (simp -implicitDefEqProofs (maxSteps := 1000000) (disch := first | assumption | omega | (simp only [ZDI]; omega)) only [*, lenV, minmaxV, minmax, itF, if_false, G22, Za, Zb, Zc, Zd, Ze, Zf, Zg, Zh, Zi, Zj, Zk, Zl, Zm, Zn, Zo, Ja, Jb, Jc, J3, Jd, Je, J4, J5, Jf, Jg, Jh, Ji, Jj, Jk, J6, Jl, Jm, wr, Jn, J7, J8, Jo, Jp, Jq, Jr, Js, Jt, Ju, Jv, Jw, Jx, Jy, Jz, J0, J1, J2, reduceCtorEq, J9, JA, JB, JC, JD, JE, JF, JG]) | ((with_reducible (first | apply Ok.br | apply Ok.gd | apply Ok.ld)) <;> (intro g; (try simp only [ZGS] at g); try (exfalso; omega)))))
            exact Turn.next (r.length - (i + 1)) (by omega) ⟨rfl, i + 1, _, _, rfl, by omega, rfl, by rw [hs3.out]; rfl, rfl, rfl⟩
        | false =>
          have he := of_decide_eq_false hd1
          have hs2 : mxS lead n0 (y1, y2) = n0 := by unfold mxS; rw [if_neg he]
          have hs3 := Hid.mk (hs.out.trans hs2)
          clear hs2 hs he
          (repeat' (first | (simp -implicitDefEqProofs (maxSteps := 1000000) (disch := first | assumption | omega | (simp only [ZDI]; omega)) only [*, lenV, G22, Za, Zb, Zc, Zd, Ze, Zf, Zg, Zh, Zi, Zj, Zk, Zl, Zm, Zn, Zo, Ja, Jb, Jc, J3, Jd, Je, J4, J5, Jf, Jg, Jh, Ji, Jj, Jk, J6, Jl, Jm, wr, Jn, J7, J8, Jo, Jp, Jq, Jr, Js, Jt, Ju, Jv, Jw, Jx, Jy, Jz, J0, J1, J2, reduceCtorEq, J9, JA, JB, JC, JD, JE, JF, JG]) | ((with_reducible (first | apply Ok.br | apply Ok.gd | apply Ok.ld)) <;> (intro g; (try simp only [ZGS] at g); try (exfalso; omega)))))
          exact Turn.next (r.length - (i + 1)) (by omega) ⟨rfl, i + 1, _, _, rfl, by omega, rfl, by rw [hs3.out]; rfl, rfl, rfl⟩
    · have hlt' : ¬ (i : Int) < (r.length : Int) := by omega
      rw [List.take_of_length_le (by omega)]
      (repeat' (first | (simp -implicitDefEqProofs (maxSteps := 1000000) (disch := first | assumption | omega | (simp only [ZDI]; omega)) only [*, lenV, G22, Za, Zb, Zc, Zd, Ze, Zf, Zg, Zh, Zi, Zj, Zk, Zl, Zm, Zn, Zo, Ja, Jb, Jc, J3, Jd, Je, J4, J5, Jf, Jg, Jh, Ji, Jj, Jk, J6, Jl, Jm, wr, Jn, J7, J8, Jo, Jp, Jq, Jr, Js, Jt, Ju, Jv, Jw, Jx, Jy, Jz, J0, J1, J2, reduceCtorEq, J9, JA, JB, JC, JD, JE, JF, JG]) | ((with_reducible (first | apply Ok.br | apply Ok.gd | apply Ok.ld)) <;> (intro g; (try simp only [ZGS] at g); try (exfalso; omega)))))
      exact Turn.exit ⟨rfl, rfl, ⟨_, _, rfl⟩, rfl, rfl⟩
  · intro y ⟨e', l', H'⟩ hW ⟨hy, ⟨w1, q1, k2⟩, k3, h5⟩
    dsimp only at hW h5 k2 k3
    subst l' hy H'
    rw [hW.spread]
    clear hW
    simp only [spread_t, spread_f, spread_n, Nat.zero_add, Nat.reduceAdd, h5]
    have hbd := hb2.out r.length
    rw [List.take_of_length_le (Nat.le_refl _)] at hbd
    (repeat' (first | (simp -implicitDefEqProofs (maxSteps := 1000000) (disch := first | assumption | omega | (simp only [ZDI]; omega)) only [*, G22, Za, Zb, Zc, Zd, Ze, Zf, Zg, Zh, Zi, Zj, Zk, Zl, Zm, Zn, Zo, Ja, Jb, Jc, J3, Jd, Je, J4, J5, Jf, Jg, Jh, Ji, Jj, Jk, J6, Jl, Jm, wr, Jn, J7, J8, Jo, Jp, Jq, Jr, Js, Jt, Ju, Jv, Jw, Jx, Jy, Jz, J0, J1, J2, reduceCtorEq, J9, JA, JB, JC, JD, JE, JF, JG]) | ((with_reducible (first | apply Ok.br | apply Ok.gd | apply Ok.ld)) <;> (intro g; (try simp only [ZGS] at g); try (exfalso; omega)))))
    exact hQ'.out
end Go.Ev
