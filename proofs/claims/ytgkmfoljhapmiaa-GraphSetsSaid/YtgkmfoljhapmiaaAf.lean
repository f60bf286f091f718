/-
Texts of this claim, one behind the other.
-/
import Derived.Test.YtgkmfoljhapmiaaAe
import Derived.KernelRfl
set_option linter.unusedSimpArgs false
set_option linter.unusedVariables false
set_option linter.unusedSectionVars false
set_option maxRecDepth 100000
set_option maxRecDepth 100000
namespace Go.Ev
open Go.Proofs
structure KE (κ : Type) where
 ek : κ -> V
 t : Nat
 kt : Nat
 ty : X.ty t = ⟨.map kt 3, 1, 8, [.nilm], true⟩
 same : ∀ a b, vsame (ek a) (ek b) = true ↔ a = b
 ok : ∀ (k : κ) (es : List ME), (∀ e ∈ es, ∃ a, e.1 = ek a) -> keyOk X.ty kt (ek k) es = true
def MapAt {κ : Type} (K : KE κ) (H : Heap) (m : Nat) (f : κ -> Option Int) : Prop :=
 ∃ es clk, H[m]? = some (.map true es clk) /\ (∀ e ∈ es, (∃ a, e.1 = K.ek a) /\ e.2.2 < clk) /\ (es.map (·.2.2)).Nodup /\ ∀ k, match f k with
  | some v => ∃ st, findM (K.ek k) es = some (K.ek k, .int .i64 v, st)
  | none => findM (K.ek k) es = none
section
variable {κ : Type} [DecidableEq κ] {K : KE κ} {H H' : Heap} {m : Nat} {f : κ -> Option Int}
def updM (f : κ -> Option Int) (k : κ) (v : Int) : κ -> Option Int := fun j => if j = k then some v else f j
theorem MapAt.keep {F : List Nat} (h : MapAt K H m f) (k : Keeps F H H') (hF : m ∉ F) : MapAt K H' m f := by
 obtain ⟨es, clk, h1, h2⟩ := h
 exact ⟨es, clk, by rw [k.2 m (List.getElem?_eq_some_iff.1 h1).1 hF]; exact h1, h2⟩
theorem MapAt.lt (h : MapAt K H m f) : m < H.length := by
 obtain ⟨es, clk, h1, h2⟩ := h
 exact (List.getElem?_eq_some_iff.1 h1).1
theorem MapAt.empty (H : Heap) (l : List Blk) : MapAt K (H ++ .map true [] 0 :: l) H.length (fun _ => none) :=
 ⟨[], 0, by rw [List.getElem?_append_right (Nat.le_refl _), Nat.sub_self]; rfl, (fun e he => nomatch he), List.nodup_nil, fun k => rfl⟩
theorem MapAt.lookup (h : MapAt K H m f) (k : κ) (ok : Bool) (e : List TV) (l : Locs) :
  lookupV X.ty K.t (.v (.map m)) (.v (K.ek k)) ok ⟨e, l, H⟩ = some (.v (outV ok (.int .i64 ((f k).getD 0)) (f k).isSome)) := by
 obtain ⟨es, clk, h1, h2, h3, h4⟩ := h
 have hk := K.ok k es fun e he => (h2 e he).1
 have hz : zeroV (X.ty 3) = some (.int .i64 0) := by rw [ty3]; rfl
 unfold lookupV
 rw [K.ty]
 simp only [h1]
 unfold lookupIn
 rw [hz]
 simp only [bnd,hk]
 have h5 := h4 k
 cases hf : f k with
 | none =>
  rw [hf] at h5
  dsimp only at h5
  rw [h5]; rfl
 | some v =>
  rw [hf] at h5
  obtain ⟨st, h5⟩ := h5
  rw [h5]; rfl
theorem findM_map {es : List ME} {g : ME -> ME} {k : V} (hg : ∀ e, (g e).1 = e.1) : findM k (es.map g) = (findM k es).map g := by
 unfold findM
 induction es with
 | nil => rfl
 | cons e es ih =>
  rw [List.map_cons, List.find?_cons, List.find?_cons, hg]
  cases vsame k e.1 with
  | true => rfl
  | false => exact ih
theorem MapAt.update (h : MapAt K H m f) (k : κ) (v : Int) : ∃ B, (∀ (e : List TV) (l : Locs), updateV X.ty K.t (.v (.map m)) (.v (K.ek k)) (.v (.int .i64 v)) ⟨e, l, H⟩ = some ⟨e, l, H.set m B⟩) /\ MapAt K (H.set m B) m (updM f k v) := by
 obtain ⟨es, clk, h1, h2, h3, h4⟩ := h
 have hk := K.ok k es fun e he => (h2 e he).1
 have hm := (List.getElem?_eq_some_iff.1 h1).1
 refine ⟨.map true (putM (K.ek k) (.int .i64 v) es clk).1 (putM (K.ek k) (.int .i64 v) es clk).2, fun e l => ?_, ?_⟩
 ·unfold updateV
  rw [K.ty]
  simp only [h1]
  rw [grd_t hk]
 ·have h5 := h4 k
  refine ⟨_, _, List.getElem?_set_self hm, ?_⟩
  unfold putM
  cases hf : f k with
  | none =>
   rw [hf] at h5
   dsimp only at h5
   rw [h5]
   dsimp only
   refine ⟨fun e he => ?_, ?_, fun j => ?_⟩
   ·rcases List.mem_append.1 he with he | he
    ·have := h2 e he; exact ⟨this.1, by omega⟩
    ·have : e = (K.ek k, .int .i64 v, clk) := by simpa using he
     rw [this]; exact ⟨⟨k, rfl⟩, by dsimp only; omega⟩
   ·rw [List.map_append, List.nodup_append]
    refine ⟨h3, by simp, fun a ha b hb e => ?_⟩
    obtain ⟨x, hx, rfl⟩ := List.mem_map.1 ha
    have : b = clk := by simpa using hb
    have := (h2 x hx).2
    omega
   ·unfold updM
    have ha : findM (K.ek j) (es ++ [(K.ek k, V.int .i64 v, clk)]) = (findM (K.ek j) es).or (if vsame (K.ek j) (K.ek k) = true then some (K.ek k, .int .i64 v, clk) else none) := by
     unfold findM
     rw [List.find?_append]
     congr 1
     rw [List.find?_cons]
     cases hv : vsame (K.ek j) (K.ek k) with
     | true => rw [if_pos rfl]
     | false => rw [if_neg (by simp)]; rfl
    by_cases e : j = k
    ·subst e
     rw [if_pos rfl]
     refine ⟨clk, ?_⟩
     rw [ha, h5, if_pos ((K.same _ _).2 rfl)]; rfl
    ·rw [if_neg e]
     have h6 := h4 j
     rw [ha, if_neg (fun h => e ((K.same _ _).1 h)), Option.or_none]
     exact h6
  | some w =>
   rw [hf] at h5
   obtain ⟨st, h5⟩ := h5
   rw [h5]
   dsimp only
   refine ⟨fun e he => ?_, ?_, fun j => ?_⟩
   ·obtain ⟨x, hx, rfl⟩ := List.mem_map.1 he
    have := h2 x hx
    cases vsame (K.ek k) x.1 <;> exact this
   ·rw [List.map_map]
    have : ((fun x : ME => x.2.2) ∘ fun e : ME => _root_.cond (vsame (K.ek k) e.1) (e.1, V.int .i64 v, e.2.2) e) = fun x : ME => x.2.2 := by
     funext x
     simp only [Function.comp]
     cases vsame (K.ek k) x.1 <;> rfl
    rw [this]; exact h3
   ·unfold updM
    rw [findM_map (fun e => by cases vsame (K.ek k) e.1 <;> rfl)]
    by_cases e : j = k
    ·subst e
     rw [if_pos rfl]
     refine ⟨st, ?_⟩
     rw [h5]
     have : vsame (K.ek j) (K.ek j) = true := (K.same _ _).2 rfl
     simp only [Option.map_some,this,cond_true]
    ·rw [if_neg e]
     have h6 := h4 j
     have hjk : vsame (K.ek k) (K.ek j) = false := by
      cases hv : vsame (K.ek k) (K.ek j) with
      | true => exact absurd ((K.same _ _).1 hv).symm e
      | false => rfl
     cases hfj : f j with
     | none => rw [hfj] at h6; dsimp only at h6 ⊢; rw [h6]; rfl
     | some u =>
      rw [hfj] at h6
      obtain ⟨st2, h6⟩ := h6
      refine ⟨st2, ?_⟩
      rw [h6]
      simp only [Option.map_some,hjk,cond_false]
theorem MapAt.entry (h : MapAt K H m f) (k : κ) : ∃ (B : Blk) (st : Int) (old : Int), (∀ (e : List TV) (l : Locs), entryV X.ty K.t (.v (.map m)) (.v (K.ek k)) ⟨e, l, H⟩ = some (.v (.tup [.int .i64 old, .int .i64 st]), ⟨e, l, H.set m B⟩)) /\
  ∀ v : Int, ∃ B', (∀ (e : List TV) (l : Locs), entryStoreV (.v (.map m)) (.v (.int .i64 st)) (.v (.int .i64 v)) ⟨e, l, H.set m B⟩ = some ⟨e, l, (H.set m B).set m B'⟩) /\ MapAt K ((H.set m B).set m B') m (updM f k v) := by
 obtain ⟨es, clk, h1, h2, h3, h4⟩ := h
 have hk := K.ok k es fun e he => (h2 e he).1
 have hm := (List.getElem?_eq_some_iff.1 h1).1
 have hz : zeroV (X.ty 3) = some (.int .i64 0) := by rw [ty3]; rfl
 have h5 := h4 k
 have key : ∀ (es : List ME) (clk st : Nat) (g : κ -> Option Int) (v : Int), (∀ e ∈ es, (∃ a, e.1 = K.ek a) /\ e.2.2 < clk) -> (es.map (·.2.2)).Nodup -> (∀ j, match g j with | some v => ∃ st, findM (K.ek j) es = some (K.ek j, .int .i64 v, st) | none => findM (K.ek j) es = none) ->
   (∃ w, findM (K.ek k) es = some (K.ek k, w, st)) -> (∀ j, j ≠ k -> g j = f j) -> ∀ G : Heap, G[m]? = some (.map true es clk) -> ∃ B', (∀ (e : List TV) (l : Locs), entryStoreV (.v (.map m)) (.v (.int .i64 st)) (.v (.int .i64 v)) ⟨e, l, G⟩ = some ⟨e, l, G.set m B'⟩) /\ MapAt K (G.set m B') m (updM f k v) := by
  intro es clk st g v h2 h3 h4 ⟨w, hw⟩ hg G hG
  have hGl := (List.getElem?_eq_some_iff.1 hG).1
  have hmem := List.mem_of_find?_eq_some hw
  refine ⟨.map true (es.map fun e => _root_.cond (decide ((e.2.2 : Int) = (st : Int))) (e.1, .int .i64 v, e.2.2) e) clk, fun e l => ?_, _, _, List.getElem?_set_self hGl, fun e he => ?_, ?_, fun j => ?_⟩
  ·unfold entryStoreV
   simp only [hG]
   exact grd_t (List.any_eq_true.2 ⟨_, hmem, by simp⟩) _
  ·obtain ⟨x, hx, rfl⟩ := List.mem_map.1 he
   have := h2 x hx
   cases decide ((x.2.2 : Int) = (st : Int)) <;> exact this
  ·rw [List.map_map]
   have : ((fun x : ME => x.2.2) ∘ fun e : ME => _root_.cond (decide ((e.2.2 : Int) = (st : Int))) (e.1, V.int .i64 v, e.2.2) e) = fun x : ME => x.2.2 := by
    funext x
    simp only [Function.comp]
    cases decide ((x.2.2 : Int) = (st : Int)) <;> rfl
   rw [this]; exact h3
  ·unfold updM
   rw [findM_map (fun e => by cases decide ((e.2.2 : Int) = (st : Int)) <;> rfl)]
   by_cases e : j = k
   ·subst e
    rw [if_pos rfl]
    exact ⟨st, by rw [hw]; simp only [Option.map_some,decide_true,cond_true]⟩
   ·rw [if_neg e]
    have h6 := h4 j
    rw [hg j e] at h6
    cases hfj : f j with
    | none => rw [hfj] at h6; dsimp only at h6 ⊢; rw [h6]; rfl
    | some u =>
     rw [hfj] at h6
     obtain ⟨st2, h6⟩ := h6
     refine ⟨st2, ?_⟩
     rw [h6]
     have hne : st2 ≠ st := by
      rintro rfl
      have m1 := List.mem_of_find?_eq_some h6
      obtain ⟨i1, hi1, e1⟩ := List.mem_iff_getElem.1 m1
      obtain ⟨i2, hi2, e2⟩ := List.mem_iff_getElem.1 hmem
      have hp := List.pairwise_iff_getElem.1 h3
      have hpe : ∀ (i : Nat) (hi : i < es.length) (h' : i < (es.map (·.2.2)).length), (es.map (·.2.2))[i] = es[i].2.2 := fun i hi h' => by simp
      have : i1 = i2 := by
       have l1 : i1 < (es.map (·.2.2)).length := by simpa using hi1
       have l2 : i2 < (es.map (·.2.2)).length := by simpa using hi2
       rcases Nat.lt_trichotomy i1 i2 with k | k | k
       ·exact absurd (by rw [hpe i1 hi1, hpe i2 hi2, e1, e2]) (hp i1 i2 l1 l2 k)
       ·exact k
       ·exact absurd (by rw [hpe i1 hi1, hpe i2 hi2, e1, e2]) (hp i2 i1 l2 l1 k)
      subst this
      rw [e1] at e2
      have := congrArg (·.1) e2
      exact e ((K.same j k).1 (by dsimp only at this; rw [this]; exact (K.same _ _).2 rfl))
     have hd : decide ((st2 : Int) = (st : Int)) = false := decide_eq_false (by omega)
     simp only [Option.map_some,hd,cond_false]
 cases hf : f k with
 | some w =>
  rw [hf] at h5
  obtain ⟨st, h5⟩ := h5
  refine ⟨.map true es clk, st, w, fun e l => ?_, fun v => key es clk st f v h2 h3 h4 ⟨_, h5⟩ (fun j _ => rfl) _ (List.getElem?_set_self hm)⟩
  unfold entryV
  rw [K.ty]
  simp only [h1]
  rw [hz]
  simp only [bnd_s]
  rw [grd_t hk, h5]
  have : H.set m (.map true es clk) = H := by
   obtain ⟨h6, h7⟩ := List.getElem?_eq_some_iff.1 h1
   rw [<- h7]; exact List.set_getElem_self h6
  rw [this]
 | none =>
  rw [hf] at h5
  dsimp only at h5
  refine ⟨.map true (es ++ [(K.ek k, .int .i64 0, clk)]) (clk + 1), clk, 0, fun e l => ?_, fun v => key _ _ clk (updM f k 0) v ?_ ?_ ?_ ?_ ?_ _ (List.getElem?_set_self hm)⟩
  ·unfold entryV
   rw [K.ty]
   simp only [h1]
   rw [hz]
   simp only [bnd_s]
   rw [grd_t hk, h5]
  ·intro e he
   rcases List.mem_append.1 he with he | he
   ·have := h2 e he; exact ⟨this.1, by omega⟩
   ·have : e = (K.ek k, .int .i64 0, clk) := by simpa using he
    rw [this]; exact ⟨⟨k, rfl⟩, by dsimp only; omega⟩
  ·rw [List.map_append, List.nodup_append]
   refine ⟨h3, by simp, fun a ha b hb e => ?_⟩
   obtain ⟨x, hx, rfl⟩ := List.mem_map.1 ha
   have : b = clk := by simpa using hb
   have := (h2 x hx).2
   omega
  ·intro j
   have ha : findM (K.ek j) (es ++ [(K.ek k, V.int .i64 0, clk)]) = (findM (K.ek j) es).or (if vsame (K.ek j) (K.ek k) = true then some (K.ek k, .int .i64 0, clk) else none) := by
    unfold findM
    rw [List.find?_append]
    congr 1
    rw [List.find?_cons]
    cases hv : vsame (K.ek j) (K.ek k) with
    | true => rw [if_pos rfl]
    | false => rw [if_neg (by simp)]; rfl
   unfold updM
   by_cases e : j = k
   ·subst e
    rw [if_pos rfl]
    exact ⟨clk, by rw [ha, h5, if_pos ((K.same _ _).2 rfl)]; rfl⟩
   ·rw [if_neg e, ha, if_neg (fun h => e ((K.same _ _).1 h)), Option.or_none]
    exact h4 j
  ·refine ⟨.int .i64 0, ?_⟩
   unfold findM at h5 ⊢
   rw [List.find?_append, h5, List.find?_cons, (K.same k k).2 rfl]; rfl
  ·intro j e
   unfold updM; rw [if_neg e]
end
theorem veq_ref (x y : RP) : veq X.ty 6 25 (elt x) (elt y) = some (decide (x = y)) := by
 obtain ⟨a, b⟩ := x
 obtain ⟨c, d⟩ := y
 have h : veq X.ty 6 25 (elt (a, b)) (elt (c, d)) = bnd (some (decide (a = c))) fun r => cnd r (bnd (some (decide (b = d))) fun r => cnd r (some true) (some false)) (some false) := by
  simp only [veq_eq,elt,ty25,veqM_struct,veqF_cons,veqF_nil,rd,ty3,TI.kind,bnd_s,cnd_f,List.getElem?_cons_zero,List.getElem?_cons_succ,partK_eq,veqM_int,grd_t]
 rw [h]
 by_cases h1 : a = c <;> by_cases h2 : b = d <;> simp [h1, h2, bnd, cnd]
theorem vsame_ref (x y : RP) : vsame (elt x) (elt y) = decide (x = y) := by
 obtain ⟨a, b⟩ := x
 obtain ⟨c, d⟩ := y
 simp only [elt,vsame,vsames,decide_true,Bool.true_and,Bool.and_true]
 by_cases h1 : a = c <;> by_cases h2 : b = d <;> simp [h1, h2]
noncomputable def refKE : KE RP where
 ek := elt
 t := 59
 kt := 25
 ty := ty59
 same a b := by rw [vsame_ref, decide_eq_true_eq]
 ok k es h := by
  unfold keyOk
  rw [show keyTD X.ty 3 25 = true by kernel_rfl, veq_ref]
  simp only [decide_true,Bool.and_true,Bool.and_eq_true,List.all_eq_true,decide_eq_true_eq]
  refine ⟨rfl, fun e he => ?_⟩
  obtain ⟨y, hy⟩ := h e he
  rw [hy, veq_ref, vsame_ref]
theorem veq_int (x y : Int) : veq X.ty 6 3 (.int .i64 x) (.int .i64 y) = some (decide (x = y)) := by
 simp only [veq_eq,ty3,veqM_int,grd_t]
noncomputable def intKE : KE Int where
 ek x := .int .i64 x
 t := 87
 kt := 3
 ty := ty87
 same a b := by simp [vsame]
 ok k es h := by
  unfold keyOk
  rw [show keyTD X.ty 3 3 = true by kernel_rfl, veq_int]
  simp only [decide_true,Bool.and_true,Bool.and_eq_true,List.all_eq_true,decide_eq_true_eq]
  refine ⟨rfl, fun e he => ?_⟩
  obtain ⟨y, hy⟩ := h e he
  rw [hy, veq_int]
  simp [vsame]
end Go.Ev
set_option maxRecDepth 100000
namespace Go.Ev
open Go.Ev renaming exPure -> Ja, ofValue -> Jb, cellsV -> Jc, load -> Jd, store -> Je, binOp -> Jf, intOp -> Jg, rdV -> Jh, vsame -> Ji, vsames -> Jj, makeSliceV -> Jk, resV -> Jl, isCell -> Jm, nilCheckV -> Jn, allV -> Jo, builtinV -> Jp, lenV -> Jq, indexAddrV -> Jr, unOp -> Js, minmaxV -> Jt, minmax -> Ju, sliceV -> Jv, asInt -> Jw, appendV -> Jx, forkB -> Jy, roY -> Jz, rwB -> J0, copyV -> J1, clearV -> J2, convV -> J3, sliceCells -> J4, shift -> J5
open Bool renaming true -> BT, false -> BF
open Nat renaming reduceEqDiff -> J6, reduceLT -> J7, reduceAdd -> J8, reduceBEq -> J9, reduceSub -> JA, reduceMul -> JB, reduceLeDiff -> JJ
open Int renaming reduceLT -> JC, reduceLE -> JD, reduceAdd -> JE, reduceSub -> JF, reduceNeg -> JG, reduceToNat -> JH, reduceEq -> JI
open Go.Proofs Go.Sort
structure NW (H : Heap) (nb b g N : Nat) (S : NS) (mt lw : Nat -> Nat) (cp : Nat -> Option Nat) (mv cv : V) (cl : List V) (nd : Nat -> List Nat) (cs : List (List Nat)) : Prop where
 net : NetAt H nb b g N S mt lw cp mv cv
 cvs : VecAt H cv 1 cs.length cl
 cls : ∀ (i : Nat) (v : V), cl[i]? = some v -> ∃ l, cs[i]? = some l /\ NatsAt H v l
 nds : ∀ u, u < N -> NatsAt H (S.v u) (nd u)
 ltN : ∀ l ∈ cs, ∀ i ∈ l, i < N
 ndN : ∀ u, u < N -> ∀ k ∈ nd u, k < N
 cpa : ∀ u, u < N -> ∃ d, cp u = some d
 cpl : ∀ u d, cp u = some d -> d < cs.length
 csl : cs.length <= 100000
 nl : N <= 100000
section
variable {H H' : Heap} {nb b g N : Nat} {S : NS} {mt lw : Nat -> Nat} {cp : Nat -> Option Nat} {mv cv : V} {cl : List V} {nd : Nat -> List Nat} {cs : List (List Nat)}
theorem NW.keep (h : NW H nb b g N S mt lw cp mv cv cl nd cs) (k : Keeps [] H H') : NW H' nb b g N S mt lw cp mv cv cl nd cs where
 net := h.net.keep k (by simp) (by simp)
 cvs := h.cvs.keep k (by simp)
 cls i v hv := let ⟨l, h1, h2⟩ := h.cls i v hv; ⟨l, h1, h2.keep k (by simp)⟩
 nds u hu := (h.nds u hu).keep k (by simp)
 ltN := h.ltN
 ndN := h.ndN
 cpa := h.cpa
 cpl := h.cpl
 csl := h.csl
 nl := h.nl
theorem NW.comp (h : NW H nb b g N S mt lw cp mv cv cl nd cs) {c : Nat} {l : List Nat} (hc : cs[c]? = some l) :
  ∃ kb kg cap full v, cv = .sl (.at kb kg 0) cs.length cap 1 /\ hcells H kb kg = some (true, full) /\ full[c]? = some v /\ NatsAt H v l := by
 have hcl := (List.getElem?_eq_some_iff.1 hc).1
 obtain ⟨kb, kg, cap, full, e, h1, h2, h3, h4, h5⟩ := h.cvs.at (by omega)
 have hlen := h.cvs.len
 obtain ⟨v, hv⟩ : ∃ v, cl[c]? = some v := ⟨_, List.getElem?_eq_getElem (by omega)⟩
 obtain ⟨l', hl', hn⟩ := h.cls c v hv
 rw [hc] at hl'
 obtain rfl := Option.some.inj hl'
 refine ⟨kb, kg, cap, full, v, e, h1, ?_, hn⟩
 rw [h5, List.getElem?_take] at hv
 split at hv
 ·exact hv
 ·cases hv
end
def seenF (c : Nat) (l : List Nat) : Int -> Option Int := fun j => if j = c \/ ∃ d ∈ l, (d : Int) = j then some 1 else none
theorem seenF_get (c d : Nat) (l : List Nat) : (seenF c l d).getD 0 = if d = c \/ d ∈ l then 1 else 0 := by
 unfold seenF
 have : ((d : Int) = c \/ ∃ x ∈ l, (x : Int) = d) ↔ (d = c \/ d ∈ l) := by
  constructor
  ·rintro (h | ⟨x, hx, h⟩)
   ·exact .inl (by omega)
   ·have : x = d := by omega
    rw [<- this]; exact .inr hx
  ·rintro (h | h)
   ·exact .inl (by omega)
   ·exact .inr ⟨d, h, rfl⟩
 by_cases h : d = c \/ d ∈ l
 ·rw [if_pos h, if_pos (this.2 h)]; rfl
 ·rw [if_neg h, if_neg (fun k => h (this.1 k))]; rfl
theorem seenF_upd (c d : Nat) (l : List Nat) : updM (seenF c l) (d : Int) 1 = seenF c (l ++ [d]) := by
 funext j
 unfold updM seenF
 by_cases h : j = d
 ·rw [if_pos h, if_pos (.inr ⟨d, by simp, h.symm⟩)]
 ·rw [if_neg h]
  congr 1
  refine propext ⟨fun k => k.imp id fun ⟨x, hx, e⟩ => ⟨x, by simp [hx], e⟩, fun k => k.imp id fun ⟨x, hx, e⟩ => ⟨x, ?_, e⟩⟩
  rcases List.mem_append.1 hx with hx | hx
  ·exact hx
  ·have : x = d := by simpa using hx
   rw [this] at e; exact absurd e.symm h
set_option maxHeartbeats 8000000 in
theorem needs_at {H : Heap} {nb b g N : Nat} {S : NS} {mt lw : Nat -> Nat} {cp : Nat -> Option Nat} {mv cv : V} {cl : List V} {nd : Nat -> List Nat} {cs : List (List Nat)}
  (hN : NW H nb b g N S mt lw cp mv cv cl nd cs) {c : Nat} {lc : List Nat} (hc : cs[c]? = some lc) :
  Ev.Ok (D X (.fn 36 []) [.ptr nb 0 0, .int .i64 c] H) fun y => ∃ H' w l, y = (w, H') /\ Keeps [] H H' /\ VecAt H' w 1 l.length (ofN l) /\ (∀ x ∈ own w, H.length <= x) /\ l.Nodup /\ (∀ d, d ∈ l ↔ d ≠ c /\ ∃ i ∈ lc, ∃ k ∈ nd i, cp k = some d) := by
 refine Ok.aim fun Q hQ => ?_
 have hQ' := Hid.mk hQ
 clear hQ
 obtain ⟨kb, kg, kcap, kfull, v, rfl, hk1, hk2, hk3⟩ := hN.comp hc
 have hn1 := hN.net.net
 have hcl := (List.getElem?_eq_some_iff.1 hc).1
 obtain ⟨va, vc, vz, rfl, hvl, hvf⟩ := hk3
 have g1 : 0 <= (c : Int) /\ (c : Int) < (cs.length : Int) := by omega
 have hnbl := hcells_lt hn1
 have hkbl := hcells_lt hk1
 have hlt := hN.ltN lc (List.mem_of_getElem? hc)
 have happ := appendV_vec (t := 70) ty70 ty3 (by decide) (by decide) rfl
 dsimp only at happ
 have hmm := MapAt.empty (K := intKE) H []
 obtain ⟨B, hup, hmB⟩ := hmm.update (c : Int) 1
 have hup' : ∀ (e : List TV) (l : Locs), updateV X.ty 87 (.v (.map H.length)) (.v (.int .i64 c)) (.v (.int .i64 1)) ⟨e, l, H ++ [Blk.map true [] 0]⟩ = some ⟨e, l, (H ++ [Blk.map true [] 0]).set H.length B⟩ := hup
 have hsf : updM (fun _ => none) (c : Int) 1 = seenF c [] := by funext j; unfold updM seenF; simp
 rw [hsf] at hmB
 have hkH : Keeps [] H ((H ++ [Blk.map true [] 0]).set H.length B) := (Keeps.app _ _ _).set (.inr (Nat.le_refl _)) _
 have hml : H.length < ((H ++ [Blk.map true [] 0]).set H.length B).length := by simp
 have hset : (H ++ [Blk.map true [] 0]).set H.length B = H ++ [B] := by rw [heap_set_ge (Nat.le_refl _), Nat.sub_self]; rfl
 rw [hset] at hkH hml hmB hup'
 have hn1' := hkH.cells hn1 (by simp)
 have hk1' := hkH.cells hk1 (by simp)
 have hmB' := Hid.mk hmB
 have hN' := Hid.mk hN
 have hkH' := Hid.mk hkH
 have hvf' := Hid.mk hvf
 have hlt2 := Hid.mk hlt
 have happ' := Hid.mk happ
 clear hmB hN hkH hvf hup hmm hsf hc hlt happ
 (refine Ok.body body36 pin36 ?_; simp only [c36,Try.f36,Option.getD_some,nslot36,List.append_nil,List.map,List.replicate,List.length_cons,List.length_nil,Nat.reduceAdd,Nat.reduceSub,List.cons_append,List.nil_append])
 (repeat' (first | (simp -implicitDefEqProofs (maxSteps := 1000000) (disch := first | assumption | omega | (simp only [ZDI]; omega)) only [*,lenV,exOp_makeMap,makeMapV,exOp_insert,G36,Za,Zb,Zc,Zd,Ze,Zf,Zg,Zh,Zi,Zj,Zk,Zl,Zm,Zn,Zo,Ja,Jb,Jc,J6,Jd,Je,rd,J7,J8,Jf,Jg,Jh,Ji,Jj,Jk,J9,Jl,Jm,wr,Jn,JA,JB,Jo,Jp,Jq,Jr,Js,Jt,Ju,Jv,Jw,Jx,Jy,Jz,J0,J1,J2,J3,J4,J5,reduceCtorEq,JC,JD,JE,JF,JG,JH,JI,JJ]) | ((with_reducible (first | apply Ok.br | apply Ok.gd | apply Ok.ld)) <;> (intro g; (try simp only [ZGS] at g); try (exfalso; omega)))))
 have hHl : H.length < (H ++ [B]).length := hml
 generalize H ++ [B] = HB at hkH' hmB' hHl hn1' hk1' ⊢
 clear hn1 hk1 hup' hml hset hn1' hk1'
 have hvf := hvf'.out
 obtain ⟨m, hm⟩ : ∃ m, H.length = m := ⟨_, rfl⟩
 rw [hm] at hmB' hHl ⊢
 refine Ok.loop [BF, BF, BF, BF, BT, BF, BF, BT, BF, BT, BT, BF, BF, BF, BF, BF, BF, BF, BF, BF, BF, BF, BT, BT, BT, BT, BT, BT, BT, BT, BT, BT, BT, BT, BT, BT, BT, BT, BT, BT, BT, BT, BT, BT, BT, BT, BT, BT, BT, BT, BT, BT, BT, BT, BT, BT, BT, BT, BT, BT, BT, BF] (fun q s2 => ∃ (i : Nat) (w : V) (l : List Nat) (k1 : Nat) (c1 : List V), q = lc.length - i /\ i <= lc.length /\ tv s2.e 22 = .v (.int .i64 i) /\ tv s2.e 4 = .v w /\ s2.l = [(k1, c1)] /\ Keeps [] H s2.h /\ MapAt intKE s2.h m (seenF c l) /\ VecAt s2.h w 1 l.length (ofN l) /\ (∀ x ∈ own w, m < x) /\ l.Nodup /\ (∀ d, d ∈ l ↔ d ≠ c /\ ∃ i' ∈ lc.take i, ∃ k ∈ nd i', cp k = some d))
  (fun y s2 => y = .exit 0 /\ ∃ (w : V) (l : List Nat) (k1 : Nat) (c1 : List V), tv s2.e 4 = .v w /\ s2.l = [(k1, c1)] /\ Keeps [] H s2.h /\ VecAt s2.h w 1 l.length (ofN l) /\ (∀ x ∈ own w, m < x) /\ l.Nodup /\ (∀ d, d ∈ l ↔ d ≠ c /\ ∃ i' ∈ lc, ∃ k ∈ nd i', cp k = some d)) (lc.length - 0)
  ⟨0, _, [], _, _, rfl, Nat.zero_le _, rfl, rfl, rfl, hkH'.out, hmB'.out, .zero _ _, (by simp [own]), List.nodup_nil, by simp⟩ ?_ ?_
 ·intro q ⟨e', l', G⟩ hW ⟨i, w, l, k1, c1, hq, hi, h22, h4, hl, hkG, hmG, hw, how, hnd, hmem⟩
  dsimp only at hW h22 h4 hl hkG hmG hw
  subst l'
  rw [hW.spread]
  simp only [spread_t,spread_f,spread_n,Nat.zero_add,Nat.reduceAdd,h22,h4]
  clear hW hQ' hmB' hkH' hHl
  have hNG := hN'.out.keep hkG
  have hn1 := hNG.net.net
  have hn2 := hNG.net.nodes
  by_cases hlt : i < lc.length
  ·have hlt' : (i : Int) < (lc.length : Int) := by omega
   have g2 : 0 <= (i : Int) /\ (i : Int) < (lc.length : Int) := by omega
   rcases hvf with rfl | ⟨b1, q1, o1, rw1, full1, rfl, hb1, hf1⟩
   ·simp at hlt
   obtain ⟨u, hu⟩ : ∃ u, lc[i]? = some u := ⟨_, List.getElem?_eq_getElem hlt⟩
   have hfu := hf1 i u hu
   have huN := hlt2.out u (List.mem_of_getElem? hu)
   have g3 : 0 <= (u : Int) /\ (u : Int) < (N : Int) := by omega
   have hb1G := hkG.cells hb1 (by simp)
   obtain ⟨va2, vc2, vz2, hv2, hvl2, hvf2⟩ := hNG.nds u huN
   have htk : lc.take (i + 1) = lc.take i ++ [u] := by rw [List.take_add_one, hu]; rfl
   have htk' := Hid.mk htk
   have hvf2' := Hid.mk hvf2
   have hNG' := Hid.mk hNG
   have hkG' := Hid.mk hkG
   have hmG' := Hid.mk hmG
   have hw' := Hid.mk hw
   have how' := Hid.mk how
   have hnd' := Hid.mk hnd
   have hmem' := Hid.mk hmem
   clear hkG hmG hw how hnd hmem hNG hvf2 htk hb1 hf1 hu
   (repeat' (first | (simp -implicitDefEqProofs (maxSteps := 1000000) (disch := first | assumption | omega | (simp only [ZDI]; omega)) only [*,lenV,nfl_v,G36,Za,Zb,Zc,Zd,Ze,Zf,Zg,Zh,Zi,Zj,Zk,Zl,Zm,Zn,Zo,Ja,Jb,Jc,J6,Jd,Je,rd,J7,J8,Jf,Jg,Jh,Ji,Jj,Jk,J9,Jl,Jm,wr,Jn,JA,JB,Jo,Jp,Jq,Jr,Js,Jt,Ju,Jv,Jw,Jx,Jy,Jz,J0,J1,J2,J3,J4,J5,reduceCtorEq,JC,JD,JE,JF,JG,JH,JI,JJ]) | ((with_reducible (first | apply Ok.br | apply Ok.gd | apply Ok.ld)) <;> (intro g; (try simp only [ZGS] at g); try (exfalso; omega)))))
   clear hfu hb1G hn1 hn2
   refine Ok.loop [BF, BF, BF, BF, BT, BF, BF, BF, BF, BT, BT, BF, BF, BF, BF, BF, BF, BF, BF, BF, BF, BF, BF, BF, BF, BF, BF, BF, BF, BF, BF, BF, BF, BF, BF, BT, BT, BT, BT, BT, BT, BT, BT, BT, BT, BT, BT, BT, BT, BT, BT, BT, BT, BT, BT, BT, BT, BT, BT, BT, BF, BF] (fun q s2 => ∃ (j : Nat) (w : V) (l : List Nat) (k1 : Nat) (c1 : List V), q = (nd u).length - j /\ j <= (nd u).length /\ tv s2.e 35 = .v (.int .i64 j) /\ tv s2.e 4 = .v w /\ s2.l = [(k1, c1)] /\ Keeps [] H s2.h /\ MapAt intKE s2.h m (seenF c l) /\ VecAt s2.h w 1 l.length (ofN l) /\ (∀ x ∈ own w, m < x) /\ l.Nodup /\ (∀ d, d ∈ l ↔ d ≠ c /\ ((∃ i' ∈ lc.take i, ∃ k ∈ nd i', cp k = some d) \/ ∃ k ∈ (nd u).take j, cp k = some d)))
    (fun y s2 => y = .exit 2 /\ ∃ (w : V) (l : List Nat) (k1 : Nat) (c1 : List V), tv s2.e 4 = .v w /\ s2.l = [(k1, c1)] /\ Keeps [] H s2.h /\ MapAt intKE s2.h m (seenF c l) /\ VecAt s2.h w 1 l.length (ofN l) /\ (∀ x ∈ own w, m < x) /\ l.Nodup /\ (∀ d, d ∈ l ↔ d ≠ c /\ ((∃ i' ∈ lc.take i, ∃ k ∈ nd i', cp k = some d) \/ ∃ k ∈ nd u, cp k = some d))) ((nd u).length - 0)
    ⟨0, _, l, _, _, rfl, Nat.zero_le _, rfl, rfl, rfl, hkG'.out, hmG'.out, hw'.out, how'.out, hnd'.out, by simpa using hmem'.out⟩ ?_ ?_
   ·intro q2 ⟨e2, l2, G2⟩ hW ⟨j, w, l, k1, c1, hq2, hj, h35, h4, hl, hkG, hmG, hw, how, hnd, hmem⟩
    dsimp only at hW h35 h4 hl hkG hmG hw
    subst l2
    rw [hW.spread]
    simp only [spread_t,spread_f,spread_n,Nat.zero_add,Nat.reduceAdd,h35,h4]
    clear hW hkG' hmG' hw' how' hnd' hmem' hNG'
    have hNG := hN'.out.keep hkG
    have hn1 := hNG.net.net
    have hn2 := hNG.net.nodes
    by_cases hlt2 : j < (nd u).length
    ·have hlt3 : (j : Int) < ((nd u).length : Int) := by omega
     have g5 : 0 <= (j : Int) /\ (j : Int) < ((nd u).length : Int) := by omega
     obtain ⟨vaG, vcG, vzG, hvG, _, hvfG⟩ := hNG.nds u huN
     rw [hv2] at hvG
     obtain ⟨rfl, _, rfl, rfl⟩ := V.sl.inj hvG
     rcases hvfG with e | ⟨b4, q4, o4, rw4, full4, rfl, hb4, hf4⟩
     ·rw [e] at hlt2; simp at hlt2
     obtain ⟨k, hk⟩ : ∃ k, (nd u)[j]? = some k := ⟨_, List.getElem?_eq_getElem hlt2⟩
     have hfk := hf4 j k hk
     have hkN := hNG.ndN u huN k (List.mem_of_getElem? hk)
     have g6 : 0 <= (k : Int) /\ (k : Int) < (N : Int) := by omega
     obtain ⟨d, hd⟩ := hNG.cpa k hkN
     have hdl := hNG.cpl k d hd
     have hcI : cpI (cp k) = (d : Int) := by rw [hd]; rfl
     have htk2 : (nd u).take (j + 1) = (nd u).take j ++ [k] := by rw [List.take_add_one, hk]; rfl
     have hlk := fun e l => hmG.lookup (d : Int) false e l
     have hsg := seenF_get c d l
     have hll : l.length <= 100000 := by
      have := nodup_le cs.length l hnd fun x hx => by
       rcases (hmem x).1 hx with ⟨_, ⟨i', _, k', _, hck⟩ | ⟨k', _, hck⟩⟩
       ·exact hNG.cpl k' x hck
       ·exact hNG.cpl k' x hck
      have := hNG.csl
      omega
     by_cases hin : d = c \/ d ∈ l
     ·rw [if_pos hin] at hsg
      rw [hsg] at hlk
      have hlk2 : ∀ (e : List TV) (l : Locs), lookupV X.ty 87 (.v (.map m)) (.v (.int .i64 d)) false ⟨e, l, G2⟩ = some (.v (.int .i64 1)) := hlk
      have hmem2 : ∀ d, d ∈ l ↔ d ≠ c /\ ((∃ i' ∈ lc.take i, ∃ k ∈ nd i', cp k = some d) \/ ∃ k ∈ (nd u).take (j + 1), cp k = some d) := by
       intro x
       rw [hmem x, htk2]
       simp only [List.mem_append,List.mem_singleton]
       constructor
       ·rintro ⟨h1, h2⟩
        exact ⟨h1, h2.imp id fun ⟨k, hk, e⟩ => ⟨k, .inl hk, e⟩⟩
       ·rintro ⟨h1, h2 | ⟨k', hk' | rfl, e⟩⟩
        ·exact ⟨h1, .inl h2⟩
        ·exact ⟨h1, .inr ⟨k', hk', e⟩⟩
        ·rw [hd] at e
         obtain rfl := Option.some.inj e
         rcases hin with k | k
         ·exact absurd k h1
         ·exact (hmem _).1 k
      have hkG' := Hid.mk hkG
      have hmG' := Hid.mk hmG
      have hw' := Hid.mk hw
      have how' := Hid.mk how
      have hnd' := Hid.mk hnd
      have hmem' := Hid.mk hmem2
      clear hkG hmG hw how hnd hmem hNG hmem2 hlk htk2 hk hf4 hd hsg hin
      (repeat' (first | (simp -implicitDefEqProofs (maxSteps := 1000000) (disch := first | assumption | omega | (simp only [ZDI]; omega)) only [*,lenV,nfl_c,exOp_lookup,G36,Za,Zb,Zc,Zd,Ze,Zf,Zg,Zh,Zi,Zj,Zk,Zl,Zm,Zn,Zo,Ja,Jb,Jc,J6,Jd,Je,rd,J7,J8,Jf,Jg,Jh,Ji,Jj,Jk,J9,Jl,Jm,wr,Jn,JA,JB,Jo,Jp,Jq,Jr,Js,Jt,Ju,Jv,Jw,Jx,Jy,Jz,J0,J1,J2,J3,J4,J5,reduceCtorEq,JC,JD,JE,JF,JG,JH,JI,JJ]) | ((with_reducible (first | apply Ok.br | apply Ok.gd | apply Ok.ld)) <;> (intro g; (try simp only [ZGS] at g); try (exfalso; omega)))))
      exact Turn.next ((nd u).length - (j + 1)) (by omega) ⟨rfl, j + 1, w, l, _, _, rfl, by omega, rfl, rfl, rfl, hkG'.out, hmG'.out, hw'.out, how'.out, hnd'.out, hmem'.out⟩
     ·rw [if_neg hin] at hsg
      rw [hsg] at hlk
      have hlk2 : ∀ (e : List TV) (l : Locs), lookupV X.ty 87 (.v (.map m)) (.v (.int .i64 d)) false ⟨e, l, G2⟩ = some (.v (.int .i64 0)) := hlk
      obtain ⟨B2, hup, hmB⟩ := hmG.update (d : Int) 1
      have hup2 : ∀ (e : List TV) (l : Locs), updateV X.ty 87 (.v (.map m)) (.v (.int .i64 d)) (.v (.int .i64 1)) ⟨e, l, G2⟩ = some ⟨e, l, G2.set m B2⟩ := hup
      rw [seenF_upd] at hmB
      have hmn : m ∉ own w := fun h => by have := how m h; omega
      have hkM : Keeps [m] G2 (G2.set m B2) := (Keeps.refl _ _).set (.inl (by simp)) _
      have hwM := hw.keep hkM fun x hx => by have : x ≠ m := fun e => hmn (e ▸ hx); simpa using this
      have hok : VecOk (G2.set m B2) w 1 := hwM.ok (by omega)
      have hP := hwM.push (q := [V.int .i64 d]) (by omega) rfl
      obtain ⟨a9, c9, y9, hsh⟩ := hP.sl
      have hoP := own_push (G2.set m B2) w 1 [V.int .i64 d]
      rw [hsh] at hP hoP
      have hkP := vpush_keeps (G2.set m B2) w 1 [V.int .i64 d]
      have hgl := hkG.1
      have hown2 : ∀ x ∈ own (V.sl a9 (l.length + 1) c9 y9), m < x := fun x hx => by
       rcases hoP x hx with k | k
       ·exact how x k
       ·rw [List.length_set] at k; have := hmG.lt; omega
      have hkeep2 : Keeps [] H (vpush (G2.set m B2) w 1 [V.int .i64 d]).2 := by
       refine (hkG.wide hkM fun j hj hlt => ?_).wide hkP fun j hj hlt => ?_
       ·have : j = m := by simpa using hj
        omega
       ·have := how j hj; omega
      have hmap2 := hmB.keep hkP hmn
      have hnd2 : (l ++ [d]).Nodup := by
       rw [List.nodup_append]
       refine ⟨hnd, by simp, fun a ha b hb e => ?_⟩
       have : b = d := by simpa using hb
       rw [e, this] at ha
       exact hin (.inr ha)
      have hmem2 : ∀ x, x ∈ l ++ [d] ↔ x ≠ c /\ ((∃ i' ∈ lc.take i, ∃ k ∈ nd i', cp k = some x) \/ ∃ k ∈ (nd u).take (j + 1), cp k = some x) := by
       intro x
       rw [List.mem_append, hmem x, htk2]
       simp only [List.mem_append,List.mem_singleton,List.not_mem_nil,or_false]
       constructor
       ·rintro (⟨h1, h2⟩ | h)
        ·exact ⟨h1, h2.imp id fun ⟨k, hk, e⟩ => ⟨k, .inl hk, e⟩⟩
        ·rw [h]
         exact ⟨fun e => hin (.inl e), .inr ⟨k, .inr rfl, hd⟩⟩
       ·rintro ⟨h1, h2 | ⟨k', hk' | hk', e⟩⟩
        ·exact .inl ⟨h1, .inl h2⟩
        ·exact .inl ⟨h1, .inr ⟨k', hk', e⟩⟩
        ·rw [hk', hd] at e
         exact .inr (Option.some.inj e).symm
      have hP2 : VecAt (vpush (G2.set m B2) w 1 [V.int .i64 d]).2 (V.sl a9 (l.length + 1) c9 y9) 1 (l ++ [d]).length (ofN (l ++ [d])) := by
       rw [ofN_app, List.length_append]; exact hP
      have hkG' := Hid.mk hkeep2
      have hmG' := Hid.mk hmap2
      have hw' := Hid.mk hP2
      have how' := Hid.mk hown2
      have hnd' := Hid.mk hnd2
      have hmem' := Hid.mk hmem2
      have happ := happ'.out
      clear hkG hmG hw how hnd hmem hNG hmem2 hlk htk2 hk hf4 hd hsg hin hup hmB hkM hwM hP hoP hkP hown2 hkeep2 hmap2 hnd2 hP2 hgl
      (repeat' (first | (simp -implicitDefEqProofs (maxSteps := 1000000) (disch := first | assumption | omega | exact hgA _ | exact hgB _ | (simp only [ZDI]; omega)) only [*,lenV,nfl_c,exOp_lookup,exOp_mapUpdate,List.drop_zero,List.take_succ_cons,List.take_zero,G36,Za,Zb,Zc,Zd,Ze,Zf,Zg,Zh,Zi,Zj,Zk,Zl,Zm,Zn,Zo,Ja,Jb,Jc,J6,Jd,Je,rd,J7,J8,Jf,Jg,Jh,Ji,Jj,Jk,J9,Jl,Jm,wr,Jn,JA,JB,Jo,Jp,Jq,Jr,Js,Jt,Ju,Jv,Jw,hcells_push,Jy,Jz,J0,J1,J2,J3,J4,J5,reduceCtorEq,JC,JD,JE,JF,JG,JH,JI,JJ]) | ((with_reducible (first | apply Ok.br | apply Ok.gd | apply Ok.ld)) <;> (intro g; (try simp only [ZGS] at g); try (exfalso; omega)))))
      exact Turn.next ((nd u).length - (j + 1)) (by omega) ⟨rfl, j + 1, _, l ++ [d], _, _, rfl, by omega, rfl, rfl, rfl, hkG'.out, hmG'.out, hw'.out, how'.out, hnd'.out, hmem'.out⟩
    ·have hlt3 : ¬ (j : Int) < ((nd u).length : Int) := by omega
     rw [List.take_of_length_le (l := nd u) (by omega)] at hmem
     have hkG' := Hid.mk hkG
     have hmG' := Hid.mk hmG
     have hw' := Hid.mk hw
     have how' := Hid.mk how
     have hnd' := Hid.mk hnd
     have hmem' := Hid.mk hmem
     clear hkG hmG hw how hnd hmem hNG
     (repeat' (first | (simp -implicitDefEqProofs (maxSteps := 1000000) (disch := first | assumption | omega | (simp only [ZDI]; omega)) only [*,lenV,G36,Za,Zb,Zc,Zd,Ze,Zf,Zg,Zh,Zi,Zj,Zk,Zl,Zm,Zn,Zo,Ja,Jb,Jc,J6,Jd,Je,rd,J7,J8,Jf,Jg,Jh,Ji,Jj,Jk,J9,Jl,Jm,wr,Jn,JA,JB,Jo,Jp,Jq,Jr,Js,Jt,Ju,Jv,Jw,Jx,Jy,Jz,J0,J1,J2,J3,J4,J5,reduceCtorEq,JC,JD,JE,JF,JG,JH,JI,JJ]) | ((with_reducible (first | apply Ok.br | apply Ok.gd | apply Ok.ld)) <;> (intro g; (try simp only [ZGS] at g); try (exfalso; omega)))))
     exact Turn.exit ⟨rfl, rfl, w, l, _, _, rfl, rfl, hkG'.out, hmG'.out, hw'.out, how'.out, hnd'.out, hmem'.out⟩
   ·intro y ⟨e2, l2, G2⟩ hW ⟨hy, w, l, k1, c1, h4, hl, hkG, hmG, hw, how, hnd, hmem⟩
    dsimp only at hW h4 hl hkG hmG hw
    subst l2 hy
    rw [hW.spread]
    clear hW hkG' hmG' hw' how' hnd' hmem' hNG'
    simp only [spread_t,spread_f,spread_n,Nat.zero_add,Nat.reduceAdd,h4]
    have hmem2 : ∀ d, d ∈ l ↔ d ≠ c /\ ∃ i' ∈ lc.take (i + 1), ∃ k ∈ nd i', cp k = some d := by
     intro x
     rw [hmem x, htk'.out]
     simp only [List.mem_append,List.mem_singleton]
     constructor
     ·rintro ⟨h1, ⟨i', hi', h2⟩ | h2⟩
      ·exact ⟨h1, i', .inl hi', h2⟩
      ·exact ⟨h1, u, .inr rfl, h2⟩
     ·rintro ⟨h1, i', hi' | hi', h2⟩
      ·exact ⟨h1, .inl ⟨i', hi', h2⟩⟩
      ·rw [hi'] at h2; exact ⟨h1, .inr h2⟩
    have hkG' := Hid.mk hkG
    have hmG' := Hid.mk hmG
    have hw' := Hid.mk hw
    have how' := Hid.mk how
    have hnd' := Hid.mk hnd
    have hmem' := Hid.mk hmem2
    clear hkG hmG hw how hnd hmem hmem2
    (repeat' (first | (simp -implicitDefEqProofs (maxSteps := 1000000) (disch := first | assumption | omega | (simp only [ZDI]; omega)) only [*,lenV,G36,Za,Zb,Zc,Zd,Ze,Zf,Zg,Zh,Zi,Zj,Zk,Zl,Zm,Zn,Zo,Ja,Jb,Jc,J6,Jd,Je,rd,J7,J8,Jf,Jg,Jh,Ji,Jj,Jk,J9,Jl,Jm,wr,Jn,JA,JB,Jo,Jp,Jq,Jr,Js,Jt,Ju,Jv,Jw,Jx,Jy,Jz,J0,J1,J2,J3,J4,J5,reduceCtorEq,JC,JD,JE,JF,JG,JH,JI,JJ]) | ((with_reducible (first | apply Ok.br | apply Ok.gd | apply Ok.ld)) <;> (intro g; (try simp only [ZGS] at g); try (exfalso; omega)))))
    exact Turn.next (lc.length - (i + 1)) (by omega) ⟨rfl, i + 1, w, l, _, _, rfl, by omega, rfl, rfl, rfl, hkG'.out, hmG'.out, hw'.out, how'.out, hnd'.out, hmem'.out⟩
  ·have hlt' : ¬ (i : Int) < (lc.length : Int) := by omega
   rw [List.take_of_length_le (by omega)] at hmem
   have hkG' := Hid.mk hkG
   have hw' := Hid.mk hw
   have how' := Hid.mk how
   have hnd' := Hid.mk hnd
   have hmem' := Hid.mk hmem
   clear hkG hmG hw how hnd hmem hNG
   (repeat' (first | (simp -implicitDefEqProofs (maxSteps := 1000000) (disch := first | assumption | omega | (simp only [ZDI]; omega)) only [*,lenV,G36,Za,Zb,Zc,Zd,Ze,Zf,Zg,Zh,Zi,Zj,Zk,Zl,Zm,Zn,Zo,Ja,Jb,Jc,J6,Jd,Je,rd,J7,J8,Jf,Jg,Jh,Ji,Jj,Jk,J9,Jl,Jm,wr,Jn,JA,JB,Jo,Jp,Jq,Jr,Js,Jt,Ju,Jv,Jw,Jx,Jy,Jz,J0,J1,J2,J3,J4,J5,reduceCtorEq,JC,JD,JE,JF,JG,JH,JI,JJ]) | ((with_reducible (first | apply Ok.br | apply Ok.gd | apply Ok.ld)) <;> (intro g; (try simp only [ZGS] at g); try (exfalso; omega)))))
   exact Turn.exit ⟨rfl, rfl, w, l, _, _, rfl, rfl, hkG'.out, hw'.out, how'.out, hnd'.out, hmem'.out⟩
 ·intro y ⟨e', l', G⟩ hW ⟨hy, w, l, k1, c1, h4, hl, hkG, hw, how, hnd, hmem⟩
  dsimp only at hW h4 hl hkG hw
  subst l' hy
  rw [hW.spread]
  clear hW
  simp only [spread_t,spread_f,spread_n,Nat.zero_add,Nat.reduceAdd,h4]
  have hkG' := Hid.mk hkG
  have hw' := Hid.mk hw
  have how' := Hid.mk how
  have hnd' := Hid.mk hnd
  have hmem' := Hid.mk hmem
  clear hkG hw how hnd hmem
  (repeat' (first | (simp -implicitDefEqProofs (maxSteps := 1000000) (disch := first | assumption | omega | (simp only [ZDI]; omega)) only [*,lenV,G36,Za,Zb,Zc,Zd,Ze,Zf,Zg,Zh,Zi,Zj,Zk,Zl,Zm,Zn,Zo,Ja,Jb,Jc,J6,Jd,Je,rd,J7,J8,Jf,Jg,Jh,Ji,Jj,Jk,J9,Jl,Jm,wr,Jn,JA,JB,Jo,Jp,Jq,Jr,Js,Jt,Ju,Jv,Jw,Jx,Jy,Jz,J0,J1,J2,J3,J4,J5,reduceCtorEq,JC,JD,JE,JF,JG,JH,JI,JJ]) | ((with_reducible (first | apply Ok.br | apply Ok.gd | apply Ok.ld)) <;> (intro g; (try simp only [ZGS] at g); try (exfalso; omega)))))
  exact hQ'.out _ ⟨_, w, l, rfl, hkG'.out, hw'.out, fun x hx => by have := how'.out x hx; omega, hnd'.out, hmem'.out⟩
end Go.Ev
set_option maxRecDepth 100000
namespace Go.Ev
def arr (M : Nat) (F : Nat -> V) : List V := (List.range M).map F
section
variable {M i : Nat} {F G : Nat -> V}
theorem arr_len : (arr M F).length = M := by simp [arr]
theorem arr_get (h : i < M) : (arr M F)[i]? = some (F i) := by simp [arr, h]
theorem arr_set (h : i < M) (x : V) : (arr M F).set i x = arr M (upd F i x) := by
 apply List.ext_getElem?
 intro j
 by_cases hj : j < M
 ·rw [arr_get hj]
  by_cases e : j = i
  ·rw [e, List.getElem?_set_self (by rw [arr_len]; exact h), upd_eq]
  ·rw [List.getElem?_set_ne (Ne.symm e), arr_get hj, upd_ne _ _ e]
 ·rw [List.getElem?_eq_none (by rw [List.length_set, arr_len]; omega), List.getElem?_eq_none (by rw [arr_len]; omega)]
theorem arr_reps (z : V) : ∀ n : Nat, reps n [z] = arr n (fun _ => z)
 | 0 => rfl
 | n + 1 => by
  have ih := arr_reps z n
  unfold reps arr at *
  rw [List.replicate_succ, List.flatten_cons, ih, List.range_succ_eq_map, List.map_cons, List.map_map]
  rfl
end
structure Fam (n0 : Nat) (R : List Nat) (H : Heap) (fv : Nat -> V) (z fn : Nat -> Nat) (fc : Nat -> List V) : Prop where
 vec : ∀ a, VecAt H (fv a) (z a) (fn a) (fc a)
 dis : ∀ a b, a ≠ b -> ∀ x ∈ own (fv a), x ∉ own (fv b)
 new : ∀ a, ∀ x ∈ own (fv a), n0 <= x /\ x ∉ R
section
variable {n0 : Nat} {R : List Nat} {H H' : Heap} {fv : Nat -> V} {z fn : Nat -> Nat} {fc : Nat -> List V}
theorem Fam.zero (n0 : Nat) (R : List Nat) (H : Heap) (z : Nat -> Nat) : Fam n0 R H (fun _ => .sl .nil 0 0 0) z (fun _ => 0) (fun _ => []) :=
 ⟨fun a => .zero _ _, fun a b _ x hx => by simp [own] at hx, fun a x hx => by simp [own] at hx⟩
theorem Fam.lt (h : Fam n0 R H fv z fn fc) (a : Nat) : ∀ x ∈ own (fv a), x < H.length := (h.vec a).own_lt
theorem Fam.keep {F : List Nat} (h : Fam n0 R H fv z fn fc) (k : Keeps F H H') (hF : ∀ x ∈ F, x < n0 \/ x ∈ R \/ H.length <= x) : Fam n0 R H' fv z fn fc :=
 ⟨fun a => (h.vec a).keep k fun x hx hm => by
  have h1 := h.new a x hx
  have h2 := h.lt a x hx
  rcases hF x hm with e | e | e
  ·omega
  ·exact h1.2 e
  ·omega, h.dis, h.new⟩
theorem Fam.push (h : Fam n0 R H fv z fn fc) (a : Nat) {q : List V} (hq : q.length = z a) (hn : fn a < 100000000) (h0 : n0 <= H.length) (hR : ∀ x ∈ R, x < H.length) :
  Fam n0 R (vpush H (fv a) (z a) q).2 (upd fv a (vpush H (fv a) (z a) q).1) z (upd fn a (fn a + 1)) (upd fc a (fc a ++ q)) := by
 have hk := vpush_keeps H (fv a) (z a) q
 have ho := own_push H (fv a) (z a) q
 refine ⟨fun b => ?_, fun b c hbc x hx => ?_, fun b x hx => ?_⟩
 ·by_cases e : b = a
  ·rw [e, upd_eq, upd_eq, upd_eq]; exact (h.vec a).push hn hq
  ·rw [upd_ne _ _ e, upd_ne _ _ e, upd_ne _ _ e]
   exact (h.vec b).keep hk fun x hx hm => h.dis b a e x hx hm
 ·by_cases eb : b = a
  ·have ec : c ≠ a := fun e => hbc (eb.trans e.symm)
   rw [eb, upd_eq] at hx
   rw [upd_ne _ _ ec]
   rcases ho x hx with k | k
   ·exact h.dis a c (Ne.symm ec) x k
   ·intro hm; have := h.lt c x hm; omega
  ·rw [upd_ne _ _ eb] at hx
   by_cases ec : c = a
   ·rw [ec, upd_eq]
    intro hm
    rcases ho x hm with k | k
    ·exact h.dis b a eb x hx k
    ·have := h.lt b x hx; omega
   ·rw [upd_ne _ _ ec]; exact h.dis b c hbc x hx
 ·by_cases e : b = a
  ·rw [e, upd_eq] at hx
   rcases ho x hx with k | k
   ·exact h.new a x k
   ·exact ⟨by omega, fun hm => by have := hR x hm; omega⟩
  ·rw [upd_ne _ _ e] at hx; exact h.new b x hx
theorem Fam.turn (h : Fam n0 R H fv z fn fc) (a : Nat) {v : V} {n : Nat} {c : List V} (hv : VecAt H v (z a) n c) (ho : ∀ x ∈ own v, x ∈ own (fv a)) : Fam n0 R H (upd fv a v) z (upd fn a n) (upd fc a c) := by
 refine ⟨fun b => ?_, fun b d hbd x hx => ?_, fun b x hx => ?_⟩
 ·by_cases e : b = a
  ·rw [e, upd_eq, upd_eq, upd_eq]; exact hv
  ·rw [upd_ne _ _ e, upd_ne _ _ e, upd_ne _ _ e]; exact h.vec b
 ·by_cases eb : b = a
  ·have ec : d ≠ a := fun e => hbd (eb.trans e.symm)
   rw [eb, upd_eq] at hx
   rw [upd_ne _ _ ec]
   exact h.dis a d (Ne.symm ec) x (ho x hx)
  ·rw [upd_ne _ _ eb] at hx
   by_cases ec : d = a
   ·rw [ec, upd_eq]
    exact fun hm => h.dis b a eb x hx (ho x hm)
   ·rw [upd_ne _ _ ec]; exact h.dis b d hbd x hx
 ·by_cases e : b = a
  ·rw [e, upd_eq] at hx; exact h.new a x (ho x hx)
  ·rw [upd_ne _ _ e] at hx; exact h.new b x hx
theorem Fam.put (h : Fam n0 R H fv z fn fc) (a : Nat) (k : Keeps (own (fv a)) H H') {v : V} {n : Nat} {c : List V} (hv : VecAt H' v (z a) n c) (ho : ∀ x ∈ own v, x ∈ own (fv a)) : Fam n0 R H' (upd fv a v) z (upd fn a n) (upd fc a c) := by
 refine ⟨fun b => ?_, fun b d hbd x hx => ?_, fun b x hx => ?_⟩
 ·by_cases e : b = a
  ·rw [e, upd_eq, upd_eq, upd_eq]; exact hv
  ·rw [upd_ne _ _ e, upd_ne _ _ e, upd_ne _ _ e]; exact (h.vec b).keep k fun x hx hm => h.dis b a e x hx hm
 ·by_cases eb : b = a
  ·have ec : d ≠ a := fun e => hbd (eb.trans e.symm)
   rw [eb, upd_eq] at hx
   rw [upd_ne _ _ ec]
   exact h.dis a d (Ne.symm ec) x (ho x hx)
  ·rw [upd_ne _ _ eb] at hx
   by_cases ec : d = a
   ·rw [ec, upd_eq]
    exact fun hm => h.dis b a eb x hx (ho x hm)
   ·rw [upd_ne _ _ ec]; exact h.dis b d hbd x hx
 ·by_cases e : b = a
  ·rw [e, upd_eq] at hx; exact h.new a x (ho x hx)
  ·rw [upd_ne _ _ e] at hx; exact h.new b x hx
end
end Go.Ev
set_option maxRecDepth 100000
namespace Go.Ev
open Go.Ev renaming exPure -> Ja, ofValue -> Jb, cellsV -> Jc, load -> Jd, store -> Je, binOp -> Jf, intOp -> Jg, rdV -> Jh, vsame -> Ji, vsames -> Jj, makeSliceV -> Jk, resV -> Jl, isCell -> Jm, nilCheckV -> Jn, allV -> Jo, builtinV -> Jp, lenV -> Jq, indexAddrV -> Jr, unOp -> Js, minmaxV -> Jt, minmax -> Ju, sliceV -> Jv, asInt -> Jw, appendV -> Jx, forkB -> Jy, roY -> Jz, rwB -> J0, copyV -> J1, clearV -> J2, convV -> J3, sliceCells -> J4, shift -> J5
open Bool renaming true -> BT, false -> BF
open Nat renaming reduceEqDiff -> J6, reduceLT -> J7, reduceAdd -> J8, reduceBEq -> J9, reduceSub -> JA, reduceMul -> JB, reduceLeDiff -> JJ
open Int renaming reduceLT -> JC, reduceLE -> JD, reduceAdd -> JE, reduceSub -> JF, reduceNeg -> JG, reduceToNat -> JH, reduceEq -> JI
open Go.Proofs
theorem optArr_s {α : Type} (a : α) : (some a).toArray = #[a] := rfl
theorem optArr_n {α : Type} : (none : Option α).toArray = #[] := rfl
theorem ofN_erase (l : List Nat) (i : Nat) : (ofN l).eraseIdx i = ofN (l.eraseIdx i) := by
 unfold ofN
 induction l generalizing i with
 | nil => rfl
 | cons x l ih =>
  cases i with
  | zero => rfl
  | succ i => simp only [List.map_cons,List.eraseIdx_cons_succ,ih]
set_option maxHeartbeats 2000000 in
theorem delete_at {H : Heap} {b g n cap i : Nat} {L : List Nat} (hv : VecAt H (.sl (.at b g 0) n cap 1) 1 n (ofN L)) (hL : L.length = n) (hi : i < n) :
  Ev.Ok (D X (.fn 47 []) [.sl (.at b g 0) n cap 1, .int .i64 i, .int .i64 ((i + 1 : Nat) : Int)] H) fun y => ∃ H', y = (.sl (.at b g 0) (n - 1) cap 1, H') /\ Keeps [b] H H' /\ VecAt H' (.sl (.at b g 0) (n - 1) cap 1) 1 (n - 1) (ofN (L.eraseIdx i)) := by
 refine Ok.aim fun Q hQ => ?_
 have hQ' := Hid.mk hQ
 clear hQ
 obtain ⟨b', g', cap', full, e, h1, h2, h3, h4, h5⟩ := hv.at (by omega)
 cases e
 obtain ⟨n, rfl⟩ : ∃ n', n = n' + 1 := ⟨n - 1, by omega⟩
 have hbl := hcells_lt h1
 have h2' : full.length = cap := by omega
 have h5' : ofN L = full.take (n + 1) := by rw [h5, Nat.mul_one]
 clear hv h5 h2
 have g1 : 0 <= (i : Int) /\ (i : Int) <= (cap : Int) := by omega
 have g2 : 0 <= ((i + 1 : Nat) : Int) /\ ((i + 1 : Nat) : Int) <= (cap : Int) := by omega
 have g3 : 0 <= ((n + 1 : Nat) : Int) /\ ((n + 1 : Nat) : Int) <= (cap : Int) := by omega
 have g4 : 0 <= ((i + 1 : Nat) : Int) /\ ((i + 1 : Nat) : Int) <= ((n + 1 : Nat) : Int) := by omega
 have g5 : 0 <= (i : Int) /\ (i : Int) <= ((i + 1 : Nat) : Int) := by omega
 have g6 : 0 <= (n : Int) /\ (n : Int) <= ((n + 1 : Nat) : Int) := by omega
 have g7 : 0 <= ((i + 1 : Nat) : Int) /\ ((i + 1 : Nat) : Int) <= ((n + 1 : Nat) : Int) := by omega
 have e1 : ¬ (i : Int) = ((i + 1 : Nat) : Int) := by omega
 have z1 : ¬ n + 1 = i := by omega
 have z2 : n + 1 - (i + 1) = n - i := by omega
 have z3 : i + (n - i) = n := by omega
 have z4 : n + 1 - n = 1 := by omega
 have z5 : n < cap := by omega
 have z6 : i <= cap := by omega
 have z7 : n <= cap := by omega
 have z8 : i + 1 + (n - i) <= full.length := by omega
 have g8 : 0 <= (n : Int) /\ (n : Int) <= (cap : Int) := by omega
 have hE : ofN (L.eraseIdx i) = full.take i ++ (full.drop (i + 1)).take (n - i) := by
  rw [<- ofN_erase, List.eraseIdx_eq_take_drop_succ, h5', List.take_take, Nat.min_eq_left (by omega), List.drop_take, z2]
 have hlq : (List.take (n - i) (List.drop (i + 1) full)).length = n - i := by rw [List.length_take, List.length_drop]; omega
 have hfin : ∀ full', full'.length = full.length -> full'.take n = full.take i ++ (full.drop (i + 1)).take (n - i) -> Q (.sl (.at b g 0) n cap 1, H.set b (.cells g true full')) := by
  intro full' e1 e2
  refine hQ'.out _ ⟨_, rfl, (Keeps.refl _ _).set (.inl (by simp)) _, .inr ⟨b, g, cap, full', rfl, hcells_set_eq hbl, by omega, by omega, by omega, ?_⟩⟩
  rw [Nat.add_sub_cancel, Nat.mul_one, e2, hE]
 have hfin' := Hid.mk hfin
 have h5'' := Hid.mk h5'
 have h2'' := Hid.mk h2'
 have hE' := Hid.mk hE
 clear hfin hQ' h5' hE
 by_cases hr : n - i = 0
 ·have hin : i = n := by omega
  subst hin
  by_cases hn0 : i = 0
  ·subst hn0
   by_cases hc : 1 < cap
   all_goals
    (refine Ok.body body47 pin47 ?_; simp only [c47,Try.f47,Option.getD_some,nslot47,List.append_nil,List.map,List.replicate,List.length_cons,List.length_nil,Nat.reduceAdd,Nat.reduceSub,List.cons_append,List.nil_append])
    (repeat' (first | (simp -implicitDefEqProofs (maxSteps := 1000000) (disch := first | assumption | omega | (simp only [ZDI]; omega)) only [*,lenV,SA.add,Nat.mul_one,Nat.zero_add,optArr_s,optArr_n,Array.append_empty,Array.empty_append,Array.toList_append,G47,Za,Zb,Zc,Zd,Ze,Zf,Zg,Zh,Zi,Zj,Zk,Zl,Zm,Zn,Zo,Ja,Jb,Jc,J6,Jd,Je,rd,J7,J8,Jf,Jg,Jh,Ji,Jj,Jk,J9,Jl,Jm,wr,Jn,JA,JB,Jo,Jp,Jq,Jr,Js,Jt,Ju,Jv,Jw,Jx,Jy,Jz,J0,J1,J2,J3,J4,J5,reduceCtorEq,JC,JD,JE,JF,JG,JH,JI,JJ]) | ((with_reducible (first | apply Ok.br | apply Ok.gd | apply Ok.ld)) <;> (intro g; (try simp only [ZGS] at g); try (exfalso; omega)))))
    exact hfin'.out _ (by simp; omega) (by simp)
  ·by_cases hc : i + 1 < cap
   all_goals
    (refine Ok.body body47 pin47 ?_; simp only [c47,Try.f47,Option.getD_some,nslot47,List.append_nil,List.map,List.replicate,List.length_cons,List.length_nil,Nat.reduceAdd,Nat.reduceSub,List.cons_append,List.nil_append])
    (repeat' (first | (simp -implicitDefEqProofs (maxSteps := 1000000) (disch := first | assumption | omega | (simp only [ZDI]; omega)) only [*,lenV,SA.add,Nat.mul_one,Nat.zero_add,optArr_s,optArr_n,Array.append_empty,Array.empty_append,Array.toList_append,G47,Za,Zb,Zc,Zd,Ze,Zf,Zg,Zh,Zi,Zj,Zk,Zl,Zm,Zn,Zo,Ja,Jb,Jc,J6,Jd,Je,rd,J7,J8,Jf,Jg,Jh,Ji,Jj,Jk,J9,Jl,Jm,wr,Jn,JA,JB,Jo,Jp,Jq,Jr,Js,Jt,Ju,Jv,Jw,Jx,Jy,Jz,J0,J1,J2,J3,J4,J5,reduceCtorEq,JC,JD,JE,JF,JG,JH,JI,JJ]) | ((with_reducible (first | apply Ok.br | apply Ok.gd | apply Ok.ld)) <;> (intro g; (try simp only [ZGS] at g); try (exfalso; omega)))))
    exact hfin'.out _ (by simp; omega) (by rw [hr, List.take_zero, List.append_nil]; exact List.take_left' (by rw [List.length_take]; omega))
 ·have hn0 : ¬ n = 0 := by omega
  have hc : i + 1 < cap := by omega
  have lt1 : (List.take i full).length = i := by rw [List.length_take]; omega
  have ld1 : (List.drop n full).length = cap - n := by rw [List.length_drop]; omega
  have hT : List.take n (List.take i full ++ (List.take (n - i) (List.drop (i + 1) full) ++ List.drop n full)) = full.take i ++ (full.drop (i + 1)).take (n - i) := by
   rw [<- List.append_assoc]
   exact List.take_left' (by rw [List.length_append, lt1, hlq]; omega)
  have hD : (List.drop (n + 1) (List.take i full ++ (List.take (n - i) (List.drop (i + 1) full) ++ List.drop n full))).length = cap - (n + 1) := by
   rw [List.length_drop, List.length_append, List.length_append, lt1, hlq, ld1]; omega
  (refine Ok.body body47 pin47 ?_; simp only [c47,Try.f47,Option.getD_some,nslot47,List.append_nil,List.map,List.replicate,List.length_cons,List.length_nil,Nat.reduceAdd,Nat.reduceSub,List.cons_append,List.nil_append])
  (repeat' (first | (simp -implicitDefEqProofs (maxSteps := 1000000) (disch := first | assumption | omega | (simp only [ZDI]; omega)) only [*,lenV,SA.add,Nat.mul_one,Nat.zero_add,optArr_s,optArr_n,Array.append_empty,Array.empty_append,Array.toList_append,G47,Za,Zb,Zc,Zd,Ze,Zf,Zg,Zh,Zi,Zj,Zk,Zl,Zm,Zn,Zo,Ja,Jb,Jc,J6,Jd,Je,rd,J7,J8,Jf,Jg,Jh,Ji,Jj,Jk,J9,Jl,Jm,wr,Jn,JA,JB,Jo,Jp,Jq,Jr,Js,Jt,Ju,Jv,Jw,Jx,Jy,Jz,J0,J1,J2,J3,J4,J5,reduceCtorEq,JC,JD,JE,JF,JG,JH,JI,JJ]) | ((with_reducible (first | apply Ok.br | apply Ok.gd | apply Ok.ld)) <;> (intro g; (try simp only [ZGS] at g); try (exfalso; omega)))))
  refine hfin'.out _ ?_ ?_
  ·simp only [List.length_append,List.length_cons,lt1,hlq,hD,h2''.out]; omega
  ·rw [<- List.append_assoc]
   exact List.take_left' (by rw [List.length_append, lt1, hlq]; omega)
end Go.Ev
namespace Go.Ev
open Classical
section
variable (M : Nat) (bl : Nat -> Bool) (Nd : Nat -> Nat -> Prop)
def Ready (o : List Nat) (c : Nat) : Prop := c < M /\ bl c = false /\ c ∉ o /\ ∀ d, Nd c d -> d ∈ o
noncomputable def cnt (o : List Nat) (c : Nat) : Nat := ((List.range M).filter fun d => decide (Nd c d /\ d ∉ o)).length
def Greedy (lt : Nat -> Nat -> Bool) (o : List Nat) : Prop := ∀ t c, o[t]? = some c -> Ready M bl Nd (o.take t) c /\ ∀ c', Ready M bl Nd (o.take t) c' -> lt c' c = false
structure KInv (lt : Nat -> Nat -> Bool) (o fr : List Nat) (lf : Nat -> Nat) : Prop where
 ond : o.Nodup
 ook : ∀ c ∈ o, c < M /\ bl c = false
 ocl : ∀ c ∈ o, ∀ d, Nd c d -> d ∈ o
 fnd : fr.Nodup
 fmem : ∀ c, c ∈ fr ↔ Ready M bl Nd o c
 lfe : ∀ c, c < M -> bl c = false -> lf c = cnt M Nd o c
 gr : Greedy M bl Nd lt o
structure KMid (lt : Nat -> Nat -> Bool) (o : List Nat) (c : Nat) (us : List Nat) (j : Nat) (fr : List Nat) (lf : Nat -> Nat) : Prop where
 fnd : fr.Nodup
 fmem : ∀ x, x ∈ fr ↔ (Ready M bl Nd o x /\ x ≠ c) \/ (x ∈ us.take j /\ cnt M Nd (o ++ [c]) x = 0)
 lfe : ∀ u, u < M -> bl u = false -> lf u = if u ∈ us.take j then cnt M Nd (o ++ [c]) u else cnt M Nd o u
end
theorem filter_cut {P : Nat -> Bool} {c : Nat} : ∀ {l : List Nat}, l.Nodup -> c ∈ l -> P c = true -> (l.filter fun d => P d && !decide (d = c)).length + 1 = (l.filter P).length
 | [], _, h, _ => nomatch h
 | x :: l, hn, h, hp => by
  rw [List.nodup_cons] at hn
  rw [List.filter_cons, List.filter_cons]
  by_cases e : x = c
  ·have hq : (l.filter fun d => P d && !decide (d = c)) = l.filter P := List.filter_congr fun d hd => by
    have : d ≠ c := fun e2 => hn.1 (by rw [e, <- e2]; exact hd)
    simp [this]
   rw [hq, if_neg (by simp [e]), if_pos (by rw [e]; exact hp)]
   rfl
  ·have hm : c ∈ l := (List.mem_cons.1 h).resolve_left fun e2 => e e2.symm
   have ih := filter_cut hn.2 hm hp
   by_cases hx : P x = true
   ·rw [if_pos (by simp [hx, e]), if_pos hx]
    simp only [List.length_cons]; omega
   ·rw [if_neg (by simp [hx]), if_neg hx]; exact ih
variable {M : Nat} {bl : Nat -> Bool} {Nd : Nat -> Nat -> Prop} {lt : Nat -> Nat -> Bool} {o fr us : List Nat} {lf : Nat -> Nat} {c j : Nat}
theorem cnt_zero (hdom : ∀ c d, Nd c d -> d < M) : cnt M Nd o c = 0 ↔ ∀ d, Nd c d -> d ∈ o := by
 unfold cnt
 rw [List.length_eq_zero_iff, List.filter_eq_nil_iff]
 constructor
 ·intro h d hd
  have := h d (List.mem_range.2 (hdom c d hd))
  simp only [decide_eq_true_eq,not_and,Classical.not_not] at this
  exact this hd
 ·intro h d _
  simp only [decide_eq_true_eq,not_and,Classical.not_not]
  exact h d
theorem cnt_cut {u : Nat} (h : Nd u c) (hc : c < M) (ho : c ∉ o) : cnt M Nd (o ++ [c]) u + 1 = cnt M Nd o u := by
 unfold cnt
 rw [<- filter_cut (P := fun d => decide (Nd u d /\ d ∉ o)) List.nodup_range (List.mem_range.2 hc) (by simp [h, ho])]
 congr 2
 apply List.filter_congr
 intro d _
 simp only [List.mem_append,List.mem_singleton,not_or,Bool.decide_and,Bool.and_assoc,decide_not]
theorem cnt_same {u : Nat} (h : ¬ Nd u c) : cnt M Nd (o ++ [c]) u = cnt M Nd o u := by
 unfold cnt
 congr 1
 apply List.filter_congr
 intro d _
 refine decide_eq_decide.2 ⟨fun k => ⟨k.1, fun m => k.2 (List.mem_append.2 (.inl m))⟩, fun k => ⟨k.1, fun m => ?_⟩⟩
 rcases List.mem_append.1 m with m | m
 ·exact k.2 m
 ·have e : d = c := by simpa using m
  rw [e] at k; exact h k.1
theorem cnt_le (o : List Nat) (c : Nat) : cnt M Nd o c <= M := by
 unfold cnt
 exact Nat.le_trans (List.length_filter_le _ _) (by rw [List.length_range]; exact Nat.le_refl _)
theorem nodup_sub : ∀ {l m : List Nat}, l.Nodup -> (∀ x ∈ l, x ∈ m) -> l.length <= m.length
 | [], m, _, _ => Nat.zero_le _
 | x :: l, m, hn, h => by
  rw [List.nodup_cons] at hn
  have hx := h x List.mem_cons_self
  have := nodup_sub (l := l) (m := m.erase x) hn.2 fun y hy => by
   have hne : y ≠ x := fun e => hn.1 (e ▸ hy)
   exact (List.mem_erase_of_ne hne).2 (h y (List.mem_cons_of_mem _ hy))
  rw [List.length_erase_of_mem hx] at this
  have hp := List.length_pos_of_mem hx
  simp only [List.length_cons]; omega
theorem cnt_len {l : List Nat} (hdom : ∀ c d, Nd c d -> d < M) (hn : l.Nodup) (hl : ∀ d, d ∈ l ↔ Nd c d) : l.length = cnt M Nd [] c := by
 unfold cnt
 apply Nat.le_antisymm
 ·refine nodup_sub hn fun x hx => List.mem_filter.2 ⟨List.mem_range.2 (hdom c x ((hl x).1 hx)), ?_⟩
  simp [(hl x).1 hx]
 ·refine nodup_sub (List.nodup_range.filter _) fun x hx => (hl x).2 ?_
  have := (List.mem_filter.1 hx).2
  simpa using this
theorem KInv.start (hfn : fr.Nodup) (hfm : ∀ c, c ∈ fr ↔ c < M /\ bl c = false /\ ∀ d, ¬ Nd c d) (hlf : ∀ c, c < M -> bl c = false -> lf c = cnt M Nd [] c) : KInv M bl Nd lt [] fr lf where
 ond := List.nodup_nil
 ook c h := nomatch h
 ocl c h := nomatch h
 fnd := hfn
 fmem c := by
  rw [hfm c]
  unfold Ready
  simp
 lfe := hlf
 gr t c h := by simp at h
theorem KInv.take (h : KInv M bl Nd lt o fr lf) {i : Nat} (hi : fr[i]? = some c) : KMid M bl Nd lt o c us 0 (fr.eraseIdx i) lf where
 fnd := h.fnd.sublist (List.eraseIdx_sublist fr i)
 fmem x := by
  have hil := (List.getElem?_eq_some_iff.1 hi).1
  have hic := (List.getElem?_eq_some_iff.1 hi).2
  rw [<- h.fmem x, List.mem_eraseIdx_iff_getElem]
  simp only [List.take_zero,List.not_mem_nil,false_and,or_false]
  constructor
  ·rintro ⟨k, hk, hne, rfl⟩
   refine ⟨List.getElem_mem _, fun e => ?_⟩
   have hp := List.pairwise_iff_getElem.1 h.fnd
   rcases Nat.lt_trichotomy k i with q | q | q
   ·exact hp k i hk hil q (by rw [e, hic])
   ·exact hne q
   ·exact hp i k hil hk q (by rw [e, hic])
  ·rintro ⟨hx, hne⟩
   obtain ⟨k, hk, rfl⟩ := List.mem_iff_getElem.1 hx
   exact ⟨k, hk, fun e => hne (by subst e; exact hic), rfl⟩
 lfe u hu hb := by simp [h.lfe u hu hb]
theorem KMid.step (h : KMid M bl Nd lt o c us j fr lf) (hI : ∀ x ∈ o, ∀ d, Nd x d -> d ∈ o) (hc : c < M) (hco : c ∉ o) (hus : us.Nodup) (hum : ∀ u, u ∈ us ↔ u < M /\ bl u = false /\ Nd u c) {u : Nat} (hu : us[j]? = some u) :
  lf u = cnt M Nd (o ++ [c]) u + 1 /\ KMid M bl Nd lt o c us (j + 1) (if cnt M Nd (o ++ [c]) u = 0 then fr ++ [u] else fr) (fun x => if x = u then cnt M Nd (o ++ [c]) u else lf x) := by
 have huu := (hum u).1 (List.mem_of_getElem? hu)
 have hjl := (List.getElem?_eq_some_iff.1 hu).1
 have hnt : u ∉ us.take j := fun hm => by
  obtain ⟨k, hk, e⟩ := List.mem_iff_getElem.1 hm
  have hk2 : k < j := by simp at hk; omega
  have hp := List.pairwise_iff_getElem.1 hus
  refine hp k j (by omega) hjl hk2 ?_
  rw [List.getElem_take] at e
  rw [e]
  exact ((List.getElem?_eq_some_iff.1 hu).2).symm
 have htk : us.take (j + 1) = us.take j ++ [u] := by rw [List.take_add_one, hu]; rfl
 have hlu := h.lfe u huu.1 huu.2.1
 rw [if_neg hnt, <- cnt_cut huu.2.2 hc hco] at hlu
 refine ⟨hlu, ?_, fun x => ?_, fun x hx hb => ?_⟩
 ·split
  ·rw [List.nodup_append]
   refine ⟨h.fnd, by simp, fun a ha b hb e => ?_⟩
   have eb : b = u := by simpa using hb
   rw [e, eb] at ha
   rcases (h.fmem u).1 ha with ⟨k, _⟩ | ⟨k, _⟩
   ·exact hco (k.2.2.2 c huu.2.2)
   ·exact hnt k
  ·exact h.fnd
 ·rw [htk]
  by_cases hz : cnt M Nd (o ++ [c]) u = 0
  ·rw [if_pos hz, List.mem_append, h.fmem x]
   simp only [List.mem_append,List.mem_singleton]
   constructor
   ·rintro ((k | ⟨k, l⟩) | k)
    ·exact .inl k
    ·exact .inr ⟨.inl k, l⟩
    ·rw [k]; exact .inr ⟨.inr rfl, hz⟩
   ·rintro (k | ⟨k | k, l⟩)
    ·exact .inl (.inl k)
    ·exact .inl (.inr ⟨k, l⟩)
    ·exact .inr k
  ·rw [if_neg hz, h.fmem x]
   simp only [List.mem_append,List.mem_singleton]
   constructor
   ·rintro (k | ⟨k, l⟩)
    ·exact .inl k
    ·exact .inr ⟨.inl k, l⟩
   ·rintro (k | ⟨k | k, l⟩)
    ·exact .inl k
    ·exact .inr ⟨k, l⟩
    ·rw [k] at l; exact absurd l hz
 ·rw [htk]
  simp only [List.mem_append,List.mem_singleton]
  by_cases e : x = u
  ·rw [if_pos e, if_pos (.inr e), e]
  ·rw [if_neg e, h.lfe x hx hb]
   congr 1
   simp [e]
theorem KMid.done {fr' : List Nat} {lf' : Nat -> Nat} (h : KMid M bl Nd lt o c us j fr lf) (hj : us.length <= j) (hI : KInv M bl Nd lt o fr' lf') (hc : Ready M bl Nd o c) (hleast : ∀ c', Ready M bl Nd o c' -> lt c' c = false) (hum : ∀ u, u ∈ us ↔ u < M /\ bl u = false /\ Nd u c) (hdom : ∀ c d, Nd c d -> d < M) (hirr : ∀ c, ¬ Nd c c) :
  KInv M bl Nd lt (o ++ [c]) fr lf := by
 have htk : us.take j = us := List.take_of_length_le hj
 have h1 := h.fmem
 have h2 := h.lfe
 rw [htk] at h1 h2
 refine ⟨?_, fun x hx => ?_, fun x hx d hd => ?_, h.fnd, fun x => ?_, fun x hx hb => ?_, fun t x ht => ?_⟩
 ·rw [List.nodup_append]
  refine ⟨hI.ond, by simp, fun a ha b hb e => ?_⟩
  have eb : b = c := by simpa using hb
  rw [e, eb] at ha
  exact hc.2.2.1 ha
 ·rcases List.mem_append.1 hx with k | k
  ·exact hI.ook x k
  ·have e : x = c := by simpa using k
   rw [e]; exact ⟨hc.1, hc.2.1⟩
 ·rcases List.mem_append.1 hx with k | k
  ·exact List.mem_append.2 (.inl (hI.ocl x k d hd))
  ·have e : x = c := by simpa using k
   rw [e] at hd
   exact List.mem_append.2 (.inl (hc.2.2.2 d hd))
 ·rw [h1 x]
  constructor
  ·rintro (⟨k, l⟩ | ⟨k, l⟩)
   ·refine ⟨k.1, k.2.1, fun hm => ?_, fun d hd => List.mem_append.2 (.inl (k.2.2.2 d hd))⟩
    rcases List.mem_append.1 hm with m | m
    ·exact k.2.2.1 m
    ·exact l (by simpa using m)
   ·have hu := (hum x).1 k
    refine ⟨hu.1, hu.2.1, fun hm => ?_, (cnt_zero hdom).1 l⟩
    rcases List.mem_append.1 hm with m | m
    ·exact hc.2.2.1 (hI.ocl x m c hu.2.2)
    ·have e : x = c := by simpa using m
     rw [e] at hu; exact hirr c hu.2.2
  ·rintro ⟨k1, k2, k3, k4⟩
   by_cases hn : Nd x c
   ·exact .inr ⟨(hum x).2 ⟨k1, k2, hn⟩, (cnt_zero hdom).2 k4⟩
   ·refine .inl ⟨⟨k1, k2, fun m => k3 (List.mem_append.2 (.inl m)), fun d hd => ?_⟩, fun e => k3 (List.mem_append.2 (.inr (by simp [e])))⟩
    rcases List.mem_append.1 (k4 d hd) with m | m
    ·exact m
    ·have e : d = c := by simpa using m
     rw [e] at hd; exact absurd hd hn
 ·rw [h2 x hx hb]
  split
  ·rfl
  ·rename_i hn
   exact (cnt_same fun k => hn ((hum x).2 ⟨hx, hb, k⟩)).symm
 ·by_cases hl : t < o.length
  ·rw [List.getElem?_append_left hl] at ht
   rw [List.take_append_of_le_length (by omega)]
   exact hI.gr t x ht
  ·have hlt := (List.getElem?_eq_some_iff.1 ht).1
   simp only [List.length_append,List.length_cons,List.length_nil] at hlt
   have e : t = o.length := by omega
   rw [e, List.getElem?_append_right (Nat.le_refl _), Nat.sub_self] at ht
   have ec : c = x := Option.some.inj ht
   rw [e, List.take_left, <- ec]
   exact ⟨hc, hleast⟩
theorem KInv.all (h : KInv M bl Nd lt o [] lf) (hlt : ∀ c d, Nd c d -> d < c) (hbl : ∀ c d, bl c = false -> Nd c d -> bl d = false) : ∀ c, c ∈ o ↔ c < M /\ bl c = false := by
 have key : ∀ n c, c <= n -> c < M -> bl c = false -> c ∈ o := by
  intro n
  induction n with
  | zero =>
   intro c hc hM hb
   refine Classical.byContradiction fun hno => ?_
   have : Ready M bl Nd o c := ⟨hM, hb, hno, fun d hd => by have := hlt c d hd; omega⟩
   exact nomatch (h.fmem c).2 this
  | succ n ih =>
   intro c hc hM hb
   refine Classical.byContradiction fun hno => ?_
   have : Ready M bl Nd o c := ⟨hM, hb, hno, fun d hd => ih d (by have := hlt c d hd; omega) (by have := hlt c d hd; omega) (hbl c d hb hd)⟩
   exact nomatch (h.fmem c).2 this
 exact fun c => ⟨h.ook c, fun k => key c c (Nat.le_refl _) k.1 k.2⟩
theorem KInv.len (h : KInv M bl Nd lt o fr lf) : o.length <= M := by
 have := nodup_sub h.ond fun x hx => List.mem_range.2 (h.ook x hx).1
 simpa using this
end Go.Ev
set_option maxRecDepth 100000
namespace Go.Ev
open Go.Ev renaming exPure -> Ja, ofValue -> Jb, cellsV -> Jc, load -> Jd, store -> Je, binOp -> Jf, intOp -> Jg, rdV -> Jh, vsame -> Ji, vsames -> Jj, makeSliceV -> Jk, resV -> Jl, isCell -> Jm, nilCheckV -> Jn, allV -> Jo, builtinV -> Jp, lenV -> Jq, indexAddrV -> Jr, unOp -> Js, minmaxV -> Jt, minmax -> Ju, sliceV -> Jv, asInt -> Jw, appendV -> Jx, forkB -> Jy, roY -> Jz, rwB -> J0, copyV -> J1, clearV -> J2, convV -> J3, sliceCells -> J4, shift -> J5
open Bool renaming true -> BT, false -> BF
open Nat renaming reduceEqDiff -> J6, reduceLT -> J7, reduceAdd -> J8, reduceBEq -> J9, reduceSub -> JA, reduceMul -> JB, reduceLeDiff -> JJ
open Int renaming reduceLT -> JC, reduceLE -> JD, reduceAdd -> JE, reduceSub -> JF, reduceNeg -> JG, reduceToNat -> JH, reduceEq -> JI
open Go.Proofs Go.Sort
def NdR (cp : Nat -> Option Nat) (nd : Nat -> List Nat) (cs : List (List Nat)) (c d : Nat) : Prop := d ≠ c /\ ∃ lc, cs[c]? = some lc /\ ∃ i ∈ lc, ∃ k ∈ nd i, cp k = some d
def hdc (cs : List (List Nat)) (c : Nat) : Nat := (cs.getD c []).headD 0
def ltC (S : NS) (cs : List (List Nat)) (x y : Nat) : Bool := aheadB S (hdc cs x) (hdc cs y)
def refsOf (S : NS) (l : List Nat) : List RP := l.map fun i => (S.l i, S.i i)
theorem aheadB_irr (S : NS) (i : Nat) : aheadB S i i = false := by unfold aheadB ltR; simp
theorem aheadB_tr (S : NS) {i j k : Nat} (h : aheadB S i j = true) (h2 : aheadB S j k = true) : aheadB S i k = true := by
 unfold aheadB ltR at *
 generalize S.q i = a1 at *; generalize S.q j = b1 at *; generalize S.q k = c1 at *
 generalize S.l i = a2 at *; generalize S.l j = b2 at *; generalize S.l k = c2 at *
 generalize S.i i = a3 at *; generalize S.i j = b3 at *; generalize S.i k = c3 at *
 split at h <;> split at h2 <;> split <;> simp at h h2 ⊢ <;> omega
theorem VecAt.row {H : Heap} {v : V} {l : List RP} (h : VecAt H v 2 l.length (flL l)) : RowAt H v l := by
 rcases h with ⟨h0, rfl, hc⟩ | ⟨b, g, cap, full, rfl, h1, h2, h3, h4, hc⟩
 ·obtain rfl : l = [] := List.length_eq_zero_iff.1 h0
  exact ⟨_, _, _, rfl, Nat.le_refl _, by decide, .inl rfl⟩
 ·refine ⟨_, _, _, rfl, h3, by omega, .inr ⟨b, g, 0, _, full, rfl, h1, fun i x hx => ?_, by omega⟩⟩
  have := flL_at l i x hx
  rw [hc, List.drop_take, List.take_take] at this
  have hi := (List.getElem?_eq_some_iff.1 hx).1
  rw [Nat.min_eq_left (by omega)] at this
  rw [Nat.zero_add]; exact this
theorem RowAt.keepF {F : List Nat} {H H' : Heap} {v : V} {l : List RP} (h : RowAt H v l) (k : Keeps F H H') (hF : ∀ b ∈ own v, b ∉ F) : RowAt H' v l := by
 obtain ⟨a, cap, z, rfl, h2, h3, h4⟩ := h
 refine ⟨a, cap, z, rfl, h2, h3, h4.imp id ?_⟩
 rintro ⟨b, g, o, rw, full, rfl, e2, e3⟩
 exact ⟨b, g, o, rw, full, rfl, k.cells e2 (hF b (by simp [own])), e3⟩
theorem flL_snoc1 (l : List RP) (x : RP) : flL (l ++ [x]) = flL l ++ [.int .i64 x.1, .int .i64 x.2] := by rw [flL_app]; rfl
def zS : Nat -> Nat := fun a => if a = 2 then 2 else 1
structure SM (H G : Heap) (lb ub M : Nat) (lf : Nat -> Nat) (fv : Nat -> V) (fn : Nat -> Nat) (fc : Nat -> List V) : Prop where
 keep : Keeps [] H G
 fam : Fam H.length [lb, ub] G fv zS fn fc
 left : hcells G lb 0 = some (true, arr M (fun c => .int .i64 (lf c)))
 usr : hcells G ub 0 = some (true, arr M (fun d => fv (d + 3)))
 ne : lb ≠ ub
 lbn : H.length <= lb
 ubn : H.length <= ub
section
variable {H G G' : Heap} {lb ub M : Nat} {lf : Nat -> Nat} {fv : Nat -> V} {fn : Nat -> Nat} {fc : Nat -> List V}
theorem SM.R (h : SM H G lb ub M lf fv fn fc) : ∀ x ∈ [lb, ub], x < G.length := by
 intro x hx
 simp only [List.mem_cons,List.not_mem_nil,or_false] at hx
 rcases hx with rfl | rfl
 ·exact hcells_lt h.left
 ·exact hcells_lt h.usr
theorem SM.nl (h : SM H G lb ub M lf fv fn fc) (a : Nat) : lb ∉ own (fv a) /\ ub ∉ own (fv a) := ⟨fun hm => (h.fam.new a lb hm).2 (by simp), fun hm => (h.fam.new a ub hm).2 (by simp)⟩
theorem SM.keepN (h : SM H G lb ub M lf fv fn fc) (k : Keeps [] G G') : SM H G' lb ub M lf fv fn fc :=
 ⟨h.keep.trans k, h.fam.keep k (fun x hx => nomatch hx), k.cells h.left (by simp), k.cells h.usr (by simp), h.ne, h.lbn, h.ubn⟩
theorem SM.setL (h : SM H G lb ub M lf fv fn fc) (i x : Nat) : SM H (G.set lb (.cells 0 true (arr M (fun c => .int .i64 (upd lf i x c : Nat))))) lb ub M (upd lf i x) fv fn fc := by
 have k : Keeps [lb] G (G.set lb (.cells 0 true (arr M (fun c => .int .i64 (upd lf i x c : Nat))))) := (Keeps.refl _ _).set (.inl (by simp)) _
 refine ⟨h.keep.wide k fun j hj hlt => ?_, h.fam.keep k (fun x hx => ?_), hcells_set_eq (hcells_lt h.left), (hcells_set_ne h.ne.symm).trans h.usr, h.ne, h.lbn, h.ubn⟩
 ·have := h.lbn; have : j = lb := by simpa using hj
  omega
 ·have : x = lb := by simpa using hx
  rw [this]; exact .inr (.inl (by simp))
theorem SM.push (h : SM H G lb ub M lf fv fn fc) {a : Nat} (ha : a < 3) {q : List V} (hq : q.length = zS a) (hn : fn a < 100000000) :
  SM H (vpush G (fv a) (zS a) q).2 lb ub M lf (upd fv a (vpush G (fv a) (zS a) q).1) (upd fn a (fn a + 1)) (upd fc a (fc a ++ q)) := by
 have hk := vpush_keeps G (fv a) (zS a) q
 refine ⟨h.keep.wide hk fun j hj hlt => ?_, h.fam.push a hq hn h.keep.1 h.R, hk.cells h.left (h.nl a).1, ?_, h.ne, h.lbn, h.ubn⟩
 ·have := (h.fam.new a j hj).1; omega
 ·have e : (fun d => upd fv a (vpush G (fv a) (zS a) q).1 (d + 3)) = fun d => fv (d + 3) := by
   funext d; exact upd_ne _ _ (by omega)
  rw [e]; exact hk.cells h.usr (h.nl a).2
theorem SM.pushU (h : SM H G lb ub M lf fv fn fc) (d : Nat) {q : List V} (hq : q.length = 1) (hn : fn (d + 3) < 100000000) :
  SM H ((vpush G (fv (d + 3)) 1 q).2.set ub (.cells 0 true (arr M (upd (fun e => fv (e + 3)) d (vpush G (fv (d + 3)) 1 q).1)))) lb ub M lf (upd fv (d + 3) (vpush G (fv (d + 3)) 1 q).1) (upd fn (d + 3) (fn (d + 3) + 1)) (upd fc (d + 3) (fc (d + 3) ++ q)) := by
 have hz : zS (d + 3) = 1 := by unfold zS; rw [if_neg (by omega)]
 have hk := vpush_keeps G (fv (d + 3)) 1 q
 have hf := h.fam.push (d + 3) (q := q) (by rw [hz]; exact hq) hn h.keep.1 h.R
 rw [hz] at hf
 have hub : ub < (vpush G (fv (d + 3)) 1 q).2.length := Nat.lt_of_lt_of_le (hcells_lt h.usr) hk.1
 have k2 : Keeps [ub] (vpush G (fv (d + 3)) 1 q).2 ((vpush G (fv (d + 3)) 1 q).2.set ub (.cells 0 true (arr M (upd (fun e => fv (e + 3)) d (vpush G (fv (d + 3)) 1 q).1)))) := (Keeps.refl _ _).set (.inl (by simp)) _
 refine ⟨(h.keep.wide hk fun j hj hlt => ?_).wide k2 fun j hj hlt => ?_, hf.keep k2 (fun x hx => ?_), (hcells_set_ne h.ne).trans (hk.cells h.left (h.nl _).1), ?_, h.ne, h.lbn, h.ubn⟩
 ·have := (h.fam.new _ j hj).1; omega
 ·have := h.ubn; have : j = ub := by simpa using hj
  omega
 ·have : x = ub := by simpa using hx
  rw [this]; exact .inr (.inl (by simp))
 ·rw [hcells_set_eq hub]
  congr 2
  congr 1
  funext e
  by_cases he : e = d
  ·rw [he, upd_eq, upd_eq]
  ·rw [upd_ne _ _ he, upd_ne _ _ (by omega)]
theorem SM.put (h : SM H G lb ub M lf fv fn fc) {a : Nat} (ha : a < 3) (k : Keeps (own (fv a)) G G') {v : V} {n : Nat} {c : List V} (hv : VecAt G' v (zS a) n c) (ho : ∀ x ∈ own v, x ∈ own (fv a)) : SM H G' lb ub M lf (upd fv a v) (upd fn a n) (upd fc a c) := by
 refine ⟨h.keep.wide k fun j hj hlt => ?_, h.fam.put a k hv ho, k.cells h.left (h.nl a).1, ?_, h.ne, h.lbn, h.ubn⟩
 ·have := (h.fam.new a j hj).1; omega
 ·have e : (fun d => upd fv a v (d + 3)) = fun d => fv (d + 3) := by funext d; exact upd_ne _ _ (by omega)
  rw [e]; exact k.cells h.usr (h.nl a).2
end
theorem arrN_set {M i : Nat} {f : Nat -> Nat} (h : i < M) (x : Nat) : (arr M (fun c => V.int .i64 (f c : Nat))).set i (.int .i64 (x : Nat)) = arr M (fun c => V.int .i64 (upd f i x c : Nat)) := by
 rw [arr_set h]
 congr 1
 funext c
 by_cases e : c = i
 ·rw [e, upd_eq, upd_eq]
 ·rw [upd_ne _ _ e, upd_ne _ _ e]
def RowsOk (G : Heap) (S : NS) (cs : List (List Nat)) (lb ub : Nat) (fv : Nat -> V) (o : List Nat) (ol : List V) : Prop :=
 ∀ (t : Nat) (v : V), ol[t]? = some v -> (∃ (c : Nat) (lc : List Nat), o[t]? = some c /\ cs[c]? = some lc /\ RowAt G v (refsOf S lc)) /\ ∀ x ∈ own v, x < G.length /\ x ∉ [lb, ub] /\ ∀ a, x ∉ own (fv a)
theorem RowsOk.step {G G' : Heap} {S : NS} {cs : List (List Nat)} {lb ub : Nat} {fv fv' : Nat -> V} {o : List Nat} {ol : List V} (h : RowsOk G S cs lb ub fv o ol) {F : List Nat} (k : Keeps F G G') (hF : ∀ x ∈ F, x ∈ [lb, ub] \/ ∃ a, x ∈ own (fv a)) (hv : ∀ a, ∀ x ∈ own (fv' a), (∃ b, x ∈ own (fv b)) \/ G.length <= x) : RowsOk G' S cs lb ub fv' o ol := by
 intro t v ht
 obtain ⟨⟨c, lc, h1, h2, h3⟩, h4⟩ := h t v ht
 refine ⟨⟨c, lc, h1, h2, h3.keepF k fun x hx hm => ?_⟩, fun x hx => ⟨Nat.lt_of_lt_of_le (h4 x hx).1 k.1, (h4 x hx).2.1, fun a hm => ?_⟩⟩
 ·rcases hF x hm with e | ⟨a, e⟩
  ·exact (h4 x hx).2.1 e
  ·exact (h4 x hx).2.2 a e
 ·rcases hv a x hm with ⟨b, e⟩ | e
  ·exact (h4 x hx).2.2 b e
  ·have := (h4 x hx).1; omega
theorem upd_own {fv : Nat -> V} {a : Nat} {v : V} {n : Nat} (h : ∀ x ∈ own v, x ∈ own (fv a) \/ x = n) : ∀ b, ∀ x ∈ own (upd fv a v b), (∃ c, x ∈ own (fv c)) \/ n <= x := by
 intro b x hx
 by_cases e : b = a
 ·rw [e, upd_eq] at hx
  exact (h x hx).imp (fun k => ⟨a, k⟩) fun k => by omega
 ·rw [upd_ne _ _ e] at hx; exact .inl ⟨b, hx⟩
set_option maxHeartbeats 16000000 in
theorem sorted_at {H : Heap} {nb b g N : Nat} {S : NS} {mt lw : Nat -> Nat} {cp : Nat -> Option Nat} {mv cv : V} {cl : List V} {nd : Nat -> List Nat} {cs : List (List Nat)}
    (hN : NW H nb b g N S mt lw cp mv cv cl nd cs) (hne : ∀ l ∈ cs, l ≠ []) (hll : ∀ l ∈ cs, l.length <= 100000) (hM : 0 < cs.length) {bb : Nat} {bl : Nat -> Bool} (hb : hcells H bb 0 = some (true, arr cs.length (fun c => .bool (bl c))))
    (hlt : ∀ c d, NdR cp nd cs c d -> d < c) (hbl : ∀ c d, bl c = false -> NdR cp nd cs c d -> bl d = false) :
    Ev.Ok (D X (.fn 37 []) [.ptr nb 0 0, .sl (.at bb 0 0) cs.length cs.length 0] H) fun y => ∃ H' w o ol, y = (w, H') /\ Keeps [] H H' /\ VecAt H' w 1 o.length ol /\ o.Nodup /\ (∀ c, c ∈ o ↔ c < cs.length /\ bl c = false) /\ Greedy cs.length bl (NdR cp nd cs) (ltC S cs) o /\
      (∀ (t : Nat) (v : V), ol[t]? = some v -> ∃ (c : Nat) (lc : List Nat), o[t]? = some c /\ cs[c]? = some lc /\ RowAt H' v (refsOf S lc)) := by
  refine Ok.aim fun Q hQ => ?_
  have hQ' := Hid.mk hQ
  clear hQ
  obtain ⟨kb, kg, kcap, kfull, rfl, hk1, hk2, hk3, hk4, hk5⟩ := hN.cvs.at hM
  have hclen := hN.cvs.len
  have hrow : ∀ (c : Nat) (lc : List Nat), cs[c]? = some lc -> ∃ b1 g1 o1 c1 z1 rw1 full1, kfull[c]? = some (V.sl (.at b1 g1 o1) lc.length c1 z1) /\ hcells H b1 g1 = some (rw1, full1) /\ ∀ (i x : Nat), lc[i]? = some x -> full1[o1 + i]? = some (.int .i64 x) := by
    intro c lc hc
    have hcl := (List.getElem?_eq_some_iff.1 hc).1
    obtain ⟨v, hv⟩ : ∃ v, cl[c]? = some v := ⟨_, List.getElem?_eq_getElem (by omega)⟩
    obtain ⟨l', hl', hn⟩ := hN.cls c v hv
    rw [hc] at hl'
    obtain rfl := Option.some.inj hl'
    have hkv : kfull[c]? = some v := by
      rw [hk5, List.getElem?_take] at hv
      split at hv
      · exact hv
      · cases hv
    obtain ⟨a1, c1, z1, rfl, _, h2⟩ := hn
    rcases h2 with e | ⟨b1, g1, o1, rw1, full1, rfl, e2, e3⟩
    · exact absurd e (hne lc (List.mem_of_getElem? hc))
    · exact ⟨b1, g1, o1, c1, z1, rw1, full1, hkv, e2, e3⟩
  have hn1 := hN.net.net
  have hdom : ∀ c d, NdR cp nd cs c d -> d < cs.length := fun c d h => by
    obtain ⟨_, lc, _, i, _, k, _, hk⟩ := h
    exact hN.cpl k d hk
  have hirr : ∀ c, ¬ NdR cp nd cs c c := fun c h => h.1 rfl
  have hcsl := hN.csl
  have hnbl := hcells_lt hn1
  have hbbl := hcells_lt hb
  have hkbl := hcells_lt hk1
  have hNl := hN.nl
  have happI := appendV_vec (t := 70) ty70 ty3 (by decide) (by decide) rfl
  have happR := appendV_vec (t := 22) ty22 ty25 (by decide) (by decide) rfl
  have happO := appendV_vec (t := 50) ty50 ty22 (by decide) (by decide) rfl
  dsimp only at happI happR happO
  have hN' := Hid.mk hN
  have hrow' := Hid.mk hrow
  have hdom' := Hid.mk hdom
  have hirr' := Hid.mk hirr
  have hlt' := Hid.mk hlt
  have hbl' := Hid.mk hbl
  have hll' := Hid.mk hll
  have hne' := Hid.mk hne
  have happI' := Hid.mk happI
  have happR' := Hid.mk happR
  have happO' := Hid.mk happO
  have hb' := Hid.mk hb
  have hk1' := Hid.mk hk1
  have hkl : kfull.length = kcap * 1 := hk2
  clear hN hrow hdom hirr hlt hbl hll hne happI happR happO hk5 hclen hb hk2
  (refine Ok.body body37 pin37 ?_; simp only [c37,Try.f37,Option.getD_some,nslot37,List.append_nil,List.map,List.replicate,List.length_cons,List.length_nil,Nat.reduceAdd,Nat.reduceSub,List.cons_append,List.nil_append])
  (repeat' (first | (simp -implicitDefEqProofs (maxSteps := 1000000) (disch := first | assumption | omega | (simp only [ZDI]; omega)) only [*,lenV,G37,Za,Zb,Zc,Zd,Ze,Zf,Zg,Zh,Zi,Zj,Zk,Zl,Zm,Zn,Zo,Ja,Jb,Jc,J6,Jd,Je,rd,J7,J8,Jf,Jg,Jh,Ji,Jj,Jk,J9,Jl,Jm,wr,Jn,JA,JB,Jo,Jp,Jq,Jr,Js,Jt,Ju,Jv,Jw,Jx,Jy,Jz,J0,J1,J2,J3,J4,J5,reduceCtorEq,JC,JD,JE,JF,JG,JH,JI,JJ]) | ((with_reducible (first | apply Ok.br | apply Ok.gd | apply Ok.ld)) <;> (intro g; (try simp only [ZGS] at g); try (exfalso; omega)))))
  rw [arr_reps, arr_reps]
  have hSM0 : SM H (H ++ [Blk.cells 0 true (arr cs.length fun _ => .int .i64 0), Blk.cells 0 true (arr cs.length fun _ => .sl .nil 0 0 0)]) H.length (H.length + 1) cs.length (fun _ => 0) (fun _ => .sl .nil 0 0 0) (fun _ => 0) (fun _ => []) := by
    refine ⟨.app _ _ _, .zero _ _ _ _, ?_, ?_, by omega, Nat.le_refl _, by omega⟩
    · rw [hcells_ge (Nat.le_refl _), Nat.sub_self]; exact grd_t rfl _
    · rw [hcells_ge (by omega), show H.length + 1 - H.length = 1 by omega]; exact grd_t rfl _
  generalize H ++ [Blk.cells 0 true (arr cs.length fun _ => .int .i64 0), Blk.cells 0 true (arr cs.length fun _ => .sl .nil 0 0 0)] = H1 at hSM0 ⊢
  have hlb : H.length = H.length := rfl
  obtain ⟨lb, hlbe⟩ : ∃ lb, H.length = lb := ⟨_, rfl⟩
  obtain ⟨ub, hube⟩ : ∃ ub, lb + 1 = ub := ⟨_, rfl⟩
  rw [hlbe] at hSM0 ⊢
  rw [hube] at hSM0 ⊢
  have hSM0' := Hid.mk hSM0
  clear hSM0 hlb hn1
  refine Ok.loop [BF, BF, BF, BF, BF, BF, BF, BT, BT, BT, BF, BT, BF, BF, BF, BF, BF, BF, BF, BF, BF, BF, BF, BF, BF, BF, BF, BF, BF, BF, BF, BF, BF, BF, BF, BF, BF, BT, BT, BT, BT, BT, BT, BT, BT, BT, BT, BT, BT, BT, BT, BT, BT, BT, BT, BT, BT, BT, BT, BT, BT, BT, BT, BT, BT, BT, BT, BT, BT, BT, BT, BT, BT, BT, BT, BT, BT, BT, BT, BF, BF, BF, BF, BF, BF, BF, BF, BF, BF, BF, BF, BF, BF, BF, BF, BF, BF, BF, BF, BF, BF, BF, BF, BF, BF, BF, BF, BF, BF, BF, BF, BF, BF, BF, BF, BF, BF, BF, BF, BF, BF, BF, BF, BF, BF, BF, BF, BF, BF, BF, BF, BF, BF, BF, BF, BF, BF, BF, BF, BF, BF, BF, BF, BF, BF, BF, BF, BF, BF, BF, BF, BF, BF, BF, BF, BF, BF, BF, BF, BF, BF, BF, BF, BF, BF, BF, BF, BF, BF, BF, BF, BF, BF, BF, BF, BF, BF, BF, BF, BF, BF, BF, BF, BF, BF, BF, BF] (fun q s2 => ∃ (i : Nat) (lf : Nat -> Nat) (fv : Nat -> V) (fn : Nat -> Nat) (fc : Nat -> List V) (fr : List Nat) (U : Nat -> List Nat) (w : List (Nat × List V)), q = cs.length - i /\ i <= cs.length /\ tv s2.e 37 = .v (.int .i64 i) /\ tv s2.e 7 = .v (fv 0) /\ s2.l = w /\ w.length = 5 /\ SM H s2.h lb ub cs.length lf fv fn fc /\
      (fn 0 = fr.length /\ fc 0 = ofN fr /\ (∀ d, fn (d + 3) = (U d).length /\ fc (d + 3) = ofN (U d)) /\ fv 1 = .sl .nil 0 0 0 /\ fv 2 = .sl .nil 0 0 0) /\
      fr.Nodup /\ (∀ c, c ∈ fr ↔ c < i /\ bl c = false /\ ∀ d, ¬ NdR cp nd cs c d) /\ (∀ d, (U d).Nodup /\ ∀ c, c ∈ U d ↔ c < i /\ bl c = false /\ NdR cp nd cs c d) /\ (∀ c, c < i -> bl c = false -> lf c = cnt cs.length (NdR cp nd cs) [] c))
    (fun y s2 => y = .exit 0 /\ ∃ (lf : Nat -> Nat) (fv : Nat -> V) (fn : Nat -> Nat) (fc : Nat -> List V) (fr : List Nat) (U : Nat -> List Nat) (w : List (Nat × List V)), tv s2.e 7 = .v (fv 0) /\ s2.l = w /\ w.length = 5 /\ SM H s2.h lb ub cs.length lf fv fn fc /\
      (fn 0 = fr.length /\ fc 0 = ofN fr /\ (∀ d, fn (d + 3) = (U d).length /\ fc (d + 3) = ofN (U d)) /\ fv 1 = .sl .nil 0 0 0 /\ fv 2 = .sl .nil 0 0 0) /\
      (∀ d, (U d).Nodup /\ ∀ c, c ∈ U d ↔ c < cs.length /\ bl c = false /\ NdR cp nd cs c d) /\ KInv cs.length bl (NdR cp nd cs) (ltC S cs) [] fr lf) (cs.length - 0)
    ⟨0, fun _ => 0, fun _ => .sl .nil 0 0 0, fun _ => 0, fun _ => [], [], fun _ => [], _, rfl, Nat.zero_le _, rfl, rfl, rfl, rfl, hSM0'.out, ⟨rfl, rfl, fun d => ⟨rfl, rfl⟩, rfl, rfl⟩, List.nodup_nil, (by simp), fun d => ⟨List.nodup_nil, by simp⟩, fun c hc => absurd hc (Nat.not_lt_zero _)⟩ ?_ ?_
  · intro q ⟨e', l', G⟩ hW ⟨i, lf, fv, fn, fc, fr, U, w, hq, hi, h37, h7, hl, hwl, hSM, ⟨hf0, hf1, hfU, hf2, hf3⟩, hfrn, hfrm, hU, hlf⟩
    dsimp only at hW h37 h7 hl hSM
    subst l'
    match w, hwl with
    | [(k1, c1), (k2, c2), (k3, c3), (k4, c4), (k5, c5)], _ =>
    rw [hW.spread]
    simp only [spread_t,spread_f,spread_n,Nat.zero_add,Nat.reduceAdd,h37,h7]
    clear hW hQ' hSM0'
    have hNG := hN'.out.keep hSM.keep
    have hbG := hSM.keep.cells hb'.out (by simp)
    have hn1 := hNG.net.net
    by_cases hi2 : i < cs.length
    · have hi3 : (i : Int) < (cs.length : Int) := by omega
      have g1 : 0 <= (i : Int) /\ (i : Int) < (cs.length : Int) := by omega
      have hbi := arr_get (F := fun c => V.bool (bl c)) hi2
      cases hbb : bl i with
      | true =>
        rw [hbb] at hbi
        have hfrm2 : ∀ c, c ∈ fr ↔ c < i + 1 /\ bl c = false /\ ∀ d, ¬ NdR cp nd cs c d := fun c => by
          rw [hfrm c]
          refine ⟨fun h => ⟨by omega, h.2⟩, fun h => ⟨?_, h.2⟩⟩
          have : c ≠ i := fun e => by rw [e, hbb] at h; cases h.2.1
          omega
        have hU2 : ∀ d, (U d).Nodup /\ ∀ c, c ∈ U d ↔ c < i + 1 /\ bl c = false /\ NdR cp nd cs c d := fun d => ⟨(hU d).1, fun c => by
          rw [(hU d).2 c]
          refine ⟨fun h => ⟨by omega, h.2⟩, fun h => ⟨?_, h.2⟩⟩
          have : c ≠ i := fun e => by rw [e, hbb] at h; cases h.2.1
          omega⟩
        have hlf2 : ∀ c, c < i + 1 -> bl c = false -> lf c = cnt cs.length (NdR cp nd cs) [] c := fun c hc hbc => by
          have : c ≠ i := fun e => by rw [e, hbb] at hbc; cases hbc
          exact hlf c (by omega) hbc
        have hSM' := Hid.mk hSM
        have hfr' := Hid.mk hfrn
        have hfm' := Hid.mk hfrm2
        have hU' := Hid.mk hU2
        have hlf' := Hid.mk hlf2
        have hF' := Hid.mk (And.intro hf0 (And.intro hf1 (And.intro hfU (And.intro hf2 hf3))))
        clear hSM hfrn hfrm hU hlf hNG hfrm2 hU2 hlf2 hf0 hf1 hfU hf2 hf3 hbb
        (repeat' (first | (simp -implicitDefEqProofs (maxSteps := 1000000) (disch := first | assumption | omega | (simp only [ZDI]; omega)) only [*,lenV,G37,Za,Zb,Zc,Zd,Ze,Zf,Zg,Zh,Zi,Zj,Zk,Zl,Zm,Zn,Zo,Ja,Jb,Jc,J6,Jd,Je,rd,J7,J8,Jf,Jg,Jh,Ji,Jj,Jk,J9,Jl,Jm,wr,Jn,JA,JB,Jo,Jp,Jq,Jr,Js,Jt,Ju,Jv,Jw,Jx,Jy,Jz,J0,J1,J2,J3,J4,J5,reduceCtorEq,JC,JD,JE,JF,JG,JH,JI,JJ]) | ((with_reducible (first | apply Ok.br | apply Ok.gd | apply Ok.ld)) <;> (intro g; (try simp only [ZGS] at g); try (exfalso; omega)))))
        exact Turn.next (cs.length - (i + 1)) (by omega) ⟨rfl, i + 1, lf, fv, fn, fc, fr, U, _, rfl, by omega, rfl, rfl, rfl, rfl, hSM'.out, hF'.out, hfr'.out, hfm'.out, hU'.out, hlf'.out⟩
      | false =>
        rw [hbb] at hbi
        obtain ⟨lc, hlc⟩ : ∃ lc, cs[i]? = some lc := ⟨_, List.getElem?_eq_getElem hi2⟩
        have hneeds := needs_at hNG hlc
        have hSM' := Hid.mk hSM
        have hfr' := Hid.mk hfrn
        have hfm' := Hid.mk hfrm
        have hU' := Hid.mk hU
        have hlf' := Hid.mk hlf
        have hF' := Hid.mk (And.intro hf0 (And.intro hf1 (And.intro hfU (And.intro hf2 hf3))))
        have hlc' := Hid.mk hlc
        have hbb' := Hid.mk hbb
        clear hSM hfrn hfrm hU hlf hNG hf0 hf1 hfU hf2 hf3 hbb hlc
        (repeat' (first | (simp -implicitDefEqProofs (maxSteps := 1000000) (disch := first | assumption | omega | (simp only [ZDI]; omega)) only [*,lenV,G37,Za,Zb,Zc,Zd,Ze,Zf,Zg,Zh,Zi,Zj,Zk,Zl,Zm,Zn,Zo,Ja,Jb,Jc,J6,Jd,Je,rd,J7,J8,Jf,Jg,Jh,Ji,Jj,Jk,J9,Jl,Jm,wr,Jn,JA,JB,Jo,Jp,Jq,Jr,Js,Jt,Ju,Jv,Jw,Jx,Jy,Jz,J0,J1,J2,J3,J4,J5,reduceCtorEq,JC,JD,JE,JF,JG,JH,JI,JJ]) | ((with_reducible (first | apply Ok.br | apply Ok.gd | apply Ok.ld)) <;> (intro g; (try simp only [ZGS] at g); try (exfalso; omega)))))
        refine Ok.bnd2 hneeds fun y3 G' ⟨H', nw, nl, hy3, hkG', hnv, hnown, hnnd, hnmem⟩ => ?_
        cases hy3
        have hnl : ∀ d, d ∈ nl ↔ NdR cp nd cs i d := fun d => by
          rw [hnmem d]
          unfold NdR
          rw [hlc'.out]
          simp
        have hcnt := cnt_len (M := cs.length) (Nd := NdR cp nd cs) (c := i) hdom'.out hnnd hnl
        have hnll : nl.length <= cs.length := nodup_le cs.length nl hnnd fun x hx => hdom'.out i x ((hnl x).1 hx)
        have hSM1 := (hSM'.out.keepN hkG').setL i nl.length
        have hleft := (hSM'.out.keepN hkG').left
        have hGl := hkG'.1
        have hkL : Keeps [lb] G' (G'.set lb (.cells 0 true (arr cs.length (fun c => .int .i64 (upd lf i nl.length c : Nat))))) := (Keeps.refl _ _).set (.inl (by simp)) _
        have hlbG : lb < G.length := hcells_lt hSM'.out.left
        have hubG : ub < G.length := hcells_lt hSM'.out.usr
        have hnv2 := hnv.keep hkL fun x hx => by have := hnown x hx; have : x ≠ lb := by omega
                                                 simpa using this
        have hnd0 : ∀ a, ∀ x ∈ own y3, x ∉ own (fv a) := fun a x hx hm => by have := hnown x hx; have := hSM'.out.fam.lt a x hm; omega
        have hnlb : ∀ x ∈ own y3, x ∉ [lb, ub] := fun x hx => by have := hnown x hx; simp only [List.mem_cons,List.not_mem_nil,or_false]; omega
        obtain ⟨va, vc, vz, rfl⟩ := hnv.sl
        have hSM1' := Hid.mk hSM1
        have hnv' := Hid.mk hnv2
        have hnd0' := Hid.mk hnd0
        have hnlb' := Hid.mk hnlb
        have hnl' := Hid.mk hnl
        have hcnt' := Hid.mk hcnt
        have hnnd' := Hid.mk hnnd
        clear hSM1 hnv2 hnd0 hnlb hnl hnmem hnv hnown hcnt hnnd hkL hkG' hbi hbG hn1
        (repeat' (first | (simp -implicitDefEqProofs (maxSteps := 1000000) (disch := first | assumption | omega | (simp only [ZDI]; omega)) only [*,lenV,arrN_set,arr_len,G37,Za,Zb,Zc,Zd,Ze,Zf,Zg,Zh,Zi,Zj,Zk,Zl,Zm,Zn,Zo,Ja,Jb,Jc,J6,Jd,Je,rd,J7,J8,Jf,Jg,Jh,Ji,Jj,Jk,J9,Jl,Jm,wr,Jn,JA,JB,Jo,Jp,Jq,Jr,Js,Jt,Ju,Jv,Jw,Jx,Jy,Jz,J0,J1,J2,J3,J4,J5,reduceCtorEq,JC,JD,JE,JF,JG,JH,JI,JJ]) | ((with_reducible (first | apply Ok.br | apply Ok.gd | apply Ok.ld)) <;> (intro g; (try simp only [ZGS] at g); try (exfalso; omega)))))
        clear hleft
        refine Ok.loop [BF, BF, BF, BF, BF, BF, BF, BF, BF, BF, BF, BT, BF, BF, BF, BF, BF, BF, BF, BF, BF, BF, BF, BF, BF, BF, BF, BF, BF, BF, BF, BF, BF, BF, BF, BF, BF, BF, BF, BF, BF, BF, BF, BF, BF, BF, BF, BF, BF, BF, BF, BF, BF, BF, BT, BT, BT, BT, BT, BT, BT, BT, BT, BT, BT, BT, BT, BT, BT, BF, BF, BF, BF, BF, BF, BF, BF, BF, BF, BF, BF, BF, BF, BF, BF, BF, BF, BF, BF, BF, BF, BF, BF, BF, BF, BF, BF, BF, BF, BF, BF, BF, BF, BF, BF, BF, BF, BF, BF, BF, BF, BF, BF, BF, BF, BF, BF, BF, BF, BF, BF, BF, BF, BF, BF, BF, BF, BF, BF, BF, BF, BF, BF, BF, BF, BF, BF, BF, BF, BF, BF, BF, BF, BF, BF, BF, BF, BF, BF, BF, BF, BF, BF, BF, BF, BF, BF, BF, BF, BF, BF, BF, BF, BF, BF, BF, BF, BF, BF, BF, BF, BF, BF, BF, BF, BF, BF, BF, BF, BF, BF, BF, BF, BF, BF, BF, BF] (fun q s2 => ∃ (j : Nat) (fv' : Nat -> V) (fn' : Nat -> Nat) (fc' : Nat -> List V) (U' : Nat -> List Nat) (w : List (Nat × List V)), q = nl.length - j /\ j <= nl.length /\ tv s2.e 54 = .v (.int .i64 j) /\ s2.l = w /\ w.length = 5 /\ SM H s2.h lb ub cs.length (upd lf i nl.length) fv' fn' fc' /\
            (fn' 0 = fr.length /\ fc' 0 = ofN fr /\ (∀ d, fn' (d + 3) = (U' d).length /\ fc' (d + 3) = ofN (U' d)) /\ fv' 1 = .sl .nil 0 0 0 /\ fv' 2 = .sl .nil 0 0 0) /\ fv' 0 = fv 0 /\
            VecAt s2.h (.sl va nl.length vc vz) 1 nl.length (ofN nl) /\ (∀ a, ∀ x ∈ own (.sl va nl.length vc vz), x ∉ own (fv' a)) /\ ∀ d, U' d = if d ∈ nl.take j then U d ++ [i] else U d)
          (fun y s2 => y = .exit 2 /\ ∃ (fv' : Nat -> V) (fn' : Nat -> Nat) (fc' : Nat -> List V) (U' : Nat -> List Nat) (w : List (Nat × List V)), s2.l = w /\ w.length = 5 /\ SM H s2.h lb ub cs.length (upd lf i nl.length) fv' fn' fc' /\
            (fn' 0 = fr.length /\ fc' 0 = ofN fr /\ (∀ d, fn' (d + 3) = (U' d).length /\ fc' (d + 3) = ofN (U' d)) /\ fv' 1 = .sl .nil 0 0 0 /\ fv' 2 = .sl .nil 0 0 0) /\ fv' 0 = fv 0 /\ ∀ d, U' d = if d ∈ nl then U d ++ [i] else U d) (nl.length - 0)
          ⟨0, fv, fn, fc, U, _, rfl, Nat.zero_le _, rfl, rfl, rfl, hSM1'.out, hF'.out, rfl, hnv'.out, hnd0'.out, fun d => by simp⟩ ?_ ?_
        · intro q2 ⟨e2, l2, G2⟩ hW ⟨j, fv', fn', fc', U', w, hq2, hj, h54, hl, hwl, hSM, ⟨hf0, hf1, hfU, hf2, hf3⟩, hfv0, hnv, hnd0, hU2⟩
          dsimp only at hW h54 hl hSM hnv
          subst l2
          match w, hwl with
          | [(k1, c1), (k2, c2), (k3, c3), (k4, c4), (k5, c5)], _ =>
          rw [hW.spread]
          simp only [spread_t,spread_f,spread_n,Nat.zero_add,Nat.reduceAdd,h54]
          clear hW hSM' hSM1' hF' hnv' hnd0'
          by_cases hj2 : j < nl.length
          · have hj3 : (j : Int) < (nl.length : Int) := by omega
            have g2 : 0 <= (j : Int) /\ (j : Int) < (nl.length : Int) := by omega
            obtain ⟨b4, q4, cap4, full4, e4, hb4, _, _, _, h44⟩ := hnv.at (by omega)
            cases e4
            obtain ⟨d, hd⟩ : ∃ d, nl[j]? = some d := ⟨_, List.getElem?_eq_getElem hj2⟩
            have hfd : full4[j]? = some (.int .i64 d) := by
              have := ofN_get hd
              rw [h44, List.getElem?_take] at this
              split at this
              · exact this
              · cases this
            have hdN := (hnl'.out d).1 (List.mem_of_getElem? hd)
            have hdM := hdom'.out i d hdN
            have g3 : 0 <= (d : Int) /\ (d : Int) < (cs.length : Int) := by omega
            have husr := hSM.usr
            have hget := arr_get (F := fun d => fv' (d + 3)) hdM
            have hdnt : d ∉ nl.take j := fun hm => by
              obtain ⟨k, hk, e⟩ := List.mem_iff_getElem.1 hm
              have hk2 : k < j := by simp at hk; omega
              have hp := List.pairwise_iff_getElem.1 hnnd'.out
              refine hp k j (by omega) hj2 hk2 ?_
              rw [List.getElem_take] at e
              rw [e]
              exact ((List.getElem?_eq_some_iff.1 hd).2).symm
            have hUd : U' d = U d := by rw [hU2 d, if_neg hdnt]
            have hUl : (U d).length <= cs.length := nodup_le _ _ (hU'.out d).1 fun x hx => by have := (((hU'.out d).2 x).1 hx).1; omega
            have hfnd : fn' (d + 3) < 100000000 := by rw [(hfU d).1, hUd]; omega
            have hz : zS (d + 3) = 1 := by unfold zS; rw [if_neg (by omega)]
            have hvd := hSM.fam.vec (d + 3)
            rw [hz] at hvd
            have hok : VecOk G2 (fv' (d + 3)) 1 := hvd.ok hfnd
            have hP := hvd.push (q := [V.int .i64 i]) hfnd rfl
            obtain ⟨a9, c9, y9, hsh⟩ := hP.sl
            have hSM2 := hSM.pushU d (q := [V.int .i64 i]) rfl hfnd
            have hkP := vpush_keeps G2 (fv' (d + 3)) 1 [V.int .i64 i]
            have hoP := own_push G2 (fv' (d + 3)) 1 [V.int .i64 i]
            rw [hsh] at hSM2 hoP
            have hubn := (hSM.nl (d + 3)).2
            have hubG2 := hcells_lt husr
            have hknv : Keeps (own (fv' (d + 3)) ++ [ub]) G2 ((vpush G2 (fv' (d + 3)) 1 [V.int .i64 i]).2.set ub (.cells 0 true (arr cs.length (upd (fun e => fv' (e + 3)) d (V.sl a9 (fn' (d + 3) + 1) c9 y9))))) :=
              (hkP.mono fun x _ h => List.mem_append.2 (.inl h)).set (.inl (List.mem_append.2 (.inr (by simp)))) _
            have hnv2 := hnv.keep hknv fun x hx hm => by
              rcases List.mem_append.1 hm with k | k
              · exact hnd0 (d + 3) x hx k
              · have : x = ub := by simpa using k
                exact hnlb'.out x hx (by simp [this])
            have hnd2 : ∀ a, ∀ x ∈ own (V.sl (.at b4 q4 0) nl.length vc 1), x ∉ own (upd fv' (d + 3) (V.sl a9 (fn' (d + 3) + 1) c9 y9) a) := fun a x hx => by
              by_cases e : a = d + 3
              · rw [e, upd_eq]
                intro hm
                rcases hoP x hm with k | k
                · exact hnd0 (d + 3) x hx k
                · have := hnv.own_lt x hx; omega
              · rw [upd_ne _ _ e]; exact hnd0 a x hx
            have htk : nl.take (j + 1) = nl.take j ++ [d] := by rw [List.take_add_one, hd]; rfl
            have hU3 : ∀ x, upd U' d (U d ++ [i]) x = if x ∈ nl.take (j + 1) then U x ++ [i] else U x := fun x => by
              rw [htk]
              by_cases e : x = d
              · rw [e, upd_eq, if_pos (by simp)]
              · rw [upd_ne _ _ e, hU2 x]
                simp [e]
            have hF2 : upd fn' (d + 3) (fn' (d + 3) + 1) 0 = fr.length /\ upd fc' (d + 3) (fc' (d + 3) ++ [V.int .i64 i]) 0 = ofN fr /\ (∀ x, upd fn' (d + 3) (fn' (d + 3) + 1) (x + 3) = (upd U' d (U d ++ [i]) x).length /\ upd fc' (d + 3) (fc' (d + 3) ++ [V.int .i64 i]) (x + 3) = ofN (upd U' d (U d ++ [i]) x)) /\ upd fv' (d + 3) (V.sl a9 (fn' (d + 3) + 1) c9 y9) 1 = .sl .nil 0 0 0 /\ upd fv' (d + 3) (V.sl a9 (fn' (d + 3) + 1) c9 y9) 2 = .sl .nil 0 0 0 := by
              refine ⟨by rw [upd_ne _ _ (by omega)]; exact hf0, by rw [upd_ne _ _ (by omega)]; exact hf1, fun x => ?_, by rw [upd_ne _ _ (by omega)]; exact hf2, by rw [upd_ne _ _ (by omega)]; exact hf3⟩
              by_cases e : x = d
              · rw [e, upd_eq, upd_eq, upd_eq, (hfU d).1, (hfU d).2, hUd, ofN_app, List.length_append]
                exact ⟨rfl, rfl⟩
              · rw [upd_ne _ _ e, upd_ne _ _ (by omega), upd_ne _ _ (by omega)]; exact hfU x
            have hfv2 : upd fv' (d + 3) (V.sl a9 (fn' (d + 3) + 1) c9 y9) 0 = fv 0 := by rw [upd_ne _ _ (by omega)]; exact hfv0
            have hSM2' := Hid.mk hSM2
            have hnv2' := Hid.mk hnv2
            have hnd2' := Hid.mk hnd2
            have hU3' := Hid.mk hU3
            have hF2' := Hid.mk hF2
            have hfv2' := Hid.mk hfv2
            have happ := happI'.out
            clear hSM2 hnv2 hnd2 hU3 hF2 hfv2 hSM hnv hnd0 hU2 hknv hkP hP hoP hvd hUd hUl hd h44 hdN hdnt htk hf0 hf1 hfU hf2 hf3 hfv0
            (repeat' (first | (simp -implicitDefEqProofs (maxSteps := 1000000) (disch := first | assumption | omega | exact hgA _ | exact hgB _ | (simp only [ZDI]; omega)) only [*,lenV,arr_set,arr_len,List.drop_zero,List.take_succ_cons,List.take_zero,G37,Za,Zb,Zc,Zd,Ze,Zf,Zg,Zh,Zi,Zj,Zk,Zl,Zm,Zn,Zo,Ja,Jb,Jc,J6,Jd,Je,rd,J7,J8,Jf,Jg,Jh,Ji,Jj,Jk,J9,Jl,Jm,wr,Jn,JA,JB,Jo,Jp,Jq,Jr,Js,Jt,Ju,Jv,Jw,hcells_push,Jy,Jz,J0,J1,J2,J3,J4,J5,reduceCtorEq,JC,JD,JE,JF,JG,JH,JI,JJ]) | ((with_reducible (first | apply Ok.br | apply Ok.gd | apply Ok.ld)) <;> (intro g; (try simp only [ZGS] at g); try (exfalso; omega)))))
            exact Turn.next (nl.length - (j + 1)) (by omega) ⟨rfl, j + 1, _, _, _, _, _, rfl, by omega, rfl, rfl, rfl, hSM2'.out, hF2'.out, hfv2'.out, hnv2'.out, hnd2'.out, hU3'.out⟩
          · have hj3 : ¬ (j : Int) < (nl.length : Int) := by omega
            rw [List.take_of_length_le (by omega)] at hU2
            have hSM2' := Hid.mk hSM
            have hU3' := Hid.mk hU2
            have hF2' := Hid.mk (And.intro hf0 (And.intro hf1 (And.intro hfU (And.intro hf2 hf3))))
            have hfv2' := Hid.mk hfv0
            clear hSM hnv hnd0 hU2 hf0 hf1 hfU hf2 hf3 hfv0
            (repeat' (first | (simp -implicitDefEqProofs (maxSteps := 1000000) (disch := first | assumption | omega | (simp only [ZDI]; omega)) only [*,lenV,G37,Za,Zb,Zc,Zd,Ze,Zf,Zg,Zh,Zi,Zj,Zk,Zl,Zm,Zn,Zo,Ja,Jb,Jc,J6,Jd,Je,rd,J7,J8,Jf,Jg,Jh,Ji,Jj,Jk,J9,Jl,Jm,wr,Jn,JA,JB,Jo,Jp,Jq,Jr,Js,Jt,Ju,Jv,Jw,Jx,Jy,Jz,J0,J1,J2,J3,J4,J5,reduceCtorEq,JC,JD,JE,JF,JG,JH,JI,JJ]) | ((with_reducible (first | apply Ok.br | apply Ok.gd | apply Ok.ld)) <;> (intro g; (try simp only [ZGS] at g); try (exfalso; omega)))))
            exact Turn.exit ⟨rfl, rfl, fv', fn', fc', U', _, rfl, rfl, hSM2'.out, hF2'.out, hfv2'.out, hU3'.out⟩
        · intro y ⟨e2, l2, G2⟩ hW ⟨hy, fv', fn', fc', U', w, hl, hwl, hSM, ⟨hf0, hf1, hfU, hf2, hf3⟩, hfv0, hU2⟩
          dsimp only at hW hl hSM
          subst l2 hy
          match w, hwl with
          | [(k1, c1), (k2, c2), (k3, c3), (k4, c4), (k5, c5)], _ =>
          rw [hW.spread]
          clear hW hSM1' hF' hnv' hnd0'
          simp only [spread_t,spread_f,spread_n,Nat.zero_add,Nat.reduceAdd]
          have hleft := hSM.left
          have hget := arr_get (F := fun c => V.int .i64 (upd lf i nl.length c : Nat)) hi2
          rw [upd_eq] at hget
          have hU3 : ∀ d, (U' d).Nodup /\ ∀ c, c ∈ U' d ↔ c < i + 1 /\ bl c = false /\ NdR cp nd cs c d := fun d => by
            rw [hU2 d]
            by_cases hm : d ∈ nl
            · rw [if_pos hm]
              refine ⟨?_, fun c => ?_⟩
              · rw [List.nodup_append]
                refine ⟨(hU'.out d).1, by simp, fun a ha b hb e => ?_⟩
                have eb : b = i := by simpa using hb
                have := (((hU'.out d).2 a).1 ha).1
                omega
              · rw [List.mem_append, (hU'.out d).2 c]
                simp only [List.mem_singleton,List.not_mem_nil,or_false,List.mem_cons]
                constructor
                · rintro (h | h)
                  · exact ⟨by omega, h.2⟩
                  · rw [h]; exact ⟨by omega, hbb'.out, (hnl'.out d).1 hm⟩
                · intro h
                  by_cases e : c = i
                  · exact .inr e
                  · exact .inl ⟨by omega, h.2⟩
            · rw [if_neg hm]
              refine ⟨(hU'.out d).1, fun c => ?_⟩
              rw [(hU'.out d).2 c]
              refine ⟨fun h => ⟨by omega, h.2⟩, fun h => ⟨?_, h.2⟩⟩
              have : c ≠ i := fun e => hm ((hnl'.out d).2 (e ▸ h.2.2))
              omega
          have hlf3 : ∀ c, c < i + 1 -> bl c = false -> upd lf i nl.length c = cnt cs.length (NdR cp nd cs) [] c := fun c hc hbc => by
            by_cases e : c = i
            · rw [e, upd_eq]; exact hcnt'.out
            · rw [upd_ne _ _ e]; exact hlf'.out c (by omega) hbc
          have hfrl : fr.length <= cs.length := nodup_le _ _ hfr'.out fun x hx => by have := ((hfm'.out x).1 hx).1; omega
          have hfn0 : fn' 0 < 100000000 := by omega
          have hz0 : zS 0 = 1 := rfl
          have hv0 := hSM.fam.vec 0
          rw [hz0] at hv0
          have hU3' := Hid.mk hU3
          have hlf3' := Hid.mk hlf3
          have hF2' := Hid.mk (And.intro hf0 (And.intro hf1 (And.intro hfU (And.intro hf2 hf3))))
          clear hU3 hlf3 hU2 hf0 hf1 hfU hf2 hf3
          by_cases hz : nl.length = 0
          · have hz' : (nl.length : Int) = 0 := by omega
            have hno : ∀ d, ¬ NdR cp nd cs i d := fun d hd => by
              have := (hnl'.out d).2 hd
              rw [List.length_eq_zero_iff.1 hz] at this; cases this
            have hfm2 : ∀ c, c ∈ fr ++ [i] ↔ c < i + 1 /\ bl c = false /\ ∀ d, ¬ NdR cp nd cs c d := fun c => by
              rw [List.mem_append, hfm'.out c]
              simp only [List.mem_singleton,List.not_mem_nil,or_false,List.mem_cons]
              constructor
              · rintro (h | h)
                · exact ⟨by omega, h.2⟩
                · rw [h]; exact ⟨by omega, hbb'.out, hno⟩
              · intro h
                by_cases e : c = i
                · exact .inr e
                · exact .inl ⟨by omega, h.2⟩
            have hfn2 : (fr ++ [i]).Nodup := by
              rw [List.nodup_append]
              refine ⟨hfr'.out, by simp, fun a ha b hb e => ?_⟩
              have eb : b = i := by simpa using hb
              have := ((hfm'.out a).1 ha).1
              omega
            have hok : VecOk G2 (fv' 0) 1 := hv0.ok hfn0
            have hP := hv0.push (q := [V.int .i64 i]) hfn0 rfl
            obtain ⟨a9, c9, y9, hsh⟩ := hP.sl
            have hSM2 := hSM.push (a := 0) (by omega) (q := [V.int .i64 i]) rfl hfn0
            rw [hz0, hsh] at hSM2
            rw [<- hfv0]
            have hF3 : upd fn' 0 (fn' 0 + 1) 0 = (fr ++ [i]).length /\ upd fc' 0 (fc' 0 ++ [V.int .i64 i]) 0 = ofN (fr ++ [i]) /\ (∀ d, upd fn' 0 (fn' 0 + 1) (d + 3) = (U' d).length /\ upd fc' 0 (fc' 0 ++ [V.int .i64 i]) (d + 3) = ofN (U' d)) /\ upd fv' 0 (V.sl a9 (fn' 0 + 1) c9 y9) 1 = .sl .nil 0 0 0 /\ upd fv' 0 (V.sl a9 (fn' 0 + 1) c9 y9) 2 = .sl .nil 0 0 0 := by
              obtain ⟨h1, h2, h3, h4, h5⟩ := hF2'.out
              refine ⟨by rw [upd_eq, h1, List.length_append]; rfl, by rw [upd_eq, h2, ofN_app]; rfl, fun d => ?_, by rw [upd_ne _ _ (by omega)]; exact h4, by rw [upd_ne _ _ (by omega)]; exact h5⟩
              rw [upd_ne _ _ (by omega), upd_ne _ _ (by omega)]; exact h3 d
            have hSM2' := Hid.mk hSM2
            have hfm2' := Hid.mk hfm2
            have hfn2' := Hid.mk hfn2
            have hF3' := Hid.mk hF3
            have happ := happI'.out
            clear hSM2 hfm2 hfn2 hF3 hSM hP hv0 hno hz hfv0
            (repeat' (first | (simp -implicitDefEqProofs (maxSteps := 1000000) (disch := first | assumption | omega | exact hgA _ | exact hgB _ | (simp only [ZDI]; omega)) only [*,lenV,List.drop_zero,List.take_succ_cons,List.take_zero,G37,Za,Zb,Zc,Zd,Ze,Zf,Zg,Zh,Zi,Zj,Zk,Zl,Zm,Zn,Zo,Ja,Jb,Jc,J6,Jd,Je,rd,J7,J8,Jf,Jg,Jh,Ji,Jj,Jk,J9,Jl,Jm,wr,Jn,JA,JB,Jo,Jp,Jq,Jr,Js,Jt,Ju,Jv,Jw,hcells_push,Jy,Jz,J0,J1,J2,J3,J4,J5,reduceCtorEq,JC,JD,JE,JF,JG,JH,JI,JJ]) | ((with_reducible (first | apply Ok.br | apply Ok.gd | apply Ok.ld)) <;> (intro g; (try simp only [ZGS] at g); try (exfalso; omega)))))
            exact Turn.next (cs.length - (i + 1)) (by omega) ⟨rfl, i + 1, _, upd fv' 0 (V.sl a9 (fn' 0 + 1) c9 y9), _, _, fr ++ [i], U', _, rfl, by omega, rfl, rfl, rfl, rfl, hSM2'.out, hF3'.out, hfn2'.out, hfm2'.out, hU3'.out, hlf3'.out⟩
          · have hz' : ¬ (nl.length : Int) = 0 := by omega
            have hfm2 : ∀ c, c ∈ fr ↔ c < i + 1 /\ bl c = false /\ ∀ d, ¬ NdR cp nd cs c d := fun c => by
              rw [hfm'.out c]
              refine ⟨fun h => ⟨by omega, h.2⟩, fun h => ⟨?_, h.2⟩⟩
              have : c ≠ i := fun e => by
                obtain ⟨d, hd⟩ := List.exists_mem_of_length_pos (Nat.pos_of_ne_zero hz)
                exact h.2.2 d (e ▸ (hnl'.out d).1 hd)
              omega
            have hSM2' := Hid.mk hSM
            have hfm2' := Hid.mk hfm2
            have hfv2' := Hid.mk hfv0
            clear hfm2 hSM hv0 hfv0 hz
            (repeat' (first | (simp -implicitDefEqProofs (maxSteps := 1000000) (disch := first | assumption | omega | (simp only [ZDI]; omega)) only [*,lenV,G37,Za,Zb,Zc,Zd,Ze,Zf,Zg,Zh,Zi,Zj,Zk,Zl,Zm,Zn,Zo,Ja,Jb,Jc,J6,Jd,Je,rd,J7,J8,Jf,Jg,Jh,Ji,Jj,Jk,J9,Jl,Jm,wr,Jn,JA,JB,Jo,Jp,Jq,Jr,Js,Jt,Ju,Jv,Jw,Jx,Jy,Jz,J0,J1,J2,J3,J4,J5,reduceCtorEq,JC,JD,JE,JF,JG,JH,JI,JJ]) | ((with_reducible (first | apply Ok.br | apply Ok.gd | apply Ok.ld)) <;> (intro g; (try simp only [ZGS] at g); try (exfalso; omega)))))
            exact Turn.next (cs.length - (i + 1)) (by omega) ⟨rfl, i + 1, _, fv', _, _, fr, U', _, rfl, by omega, rfl, by rw [hfv2'.out]; rfl, rfl, rfl, hSM2'.out, hF2'.out, hfr'.out, hfm2'.out, hU3'.out, hlf3'.out⟩
    · have hi3 : ¬ (i : Int) < (cs.length : Int) := by omega
      have hie : i = cs.length := by omega
      subst hie
      have hK := KInv.start (M := cs.length) (bl := bl) (Nd := NdR cp nd cs) (lt := ltC S cs) hfrn hfrm (fun c hc hbc => hlf c hc hbc)
      have hSM' := Hid.mk hSM
      have hU' := Hid.mk hU
      have hK' := Hid.mk hK
      have hF' := Hid.mk (And.intro hf0 (And.intro hf1 (And.intro hfU (And.intro hf2 hf3))))
      clear hSM hfrn hfrm hU hlf hNG hf0 hf1 hfU hf2 hf3 hK
      (repeat' (first | (simp -implicitDefEqProofs (maxSteps := 1000000) (disch := first | assumption | omega | (simp only [ZDI]; omega)) only [*,lenV,G37,Za,Zb,Zc,Zd,Ze,Zf,Zg,Zh,Zi,Zj,Zk,Zl,Zm,Zn,Zo,Ja,Jb,Jc,J6,Jd,Je,rd,J7,J8,Jf,Jg,Jh,Ji,Jj,Jk,J9,Jl,Jm,wr,Jn,JA,JB,Jo,Jp,Jq,Jr,Js,Jt,Ju,Jv,Jw,Jx,Jy,Jz,J0,J1,J2,J3,J4,J5,reduceCtorEq,JC,JD,JE,JF,JG,JH,JI,JJ]) | ((with_reducible (first | apply Ok.br | apply Ok.gd | apply Ok.ld)) <;> (intro g; (try simp only [ZGS] at g); try (exfalso; omega)))))
      exact Turn.exit ⟨rfl, rfl, lf, fv, fn, fc, fr, U, _, rfl, rfl, rfl, hSM'.out, hF'.out, hU'.out, hK'.out⟩
  · intro y ⟨e', l', G⟩ hW ⟨hy, lf, fv, fn, fc, fr, U, w, h7, hl, hwl, hSM, ⟨hf0, hf1, hfU, hf2, hf3⟩, hU, hK⟩
    dsimp only at hW h7 hl hSM
    subst l' hy
    match w, hwl with
    | [(k1, c1), (k2, c2), (k3, c3), (k4, c4), (k5, c5)], _ =>
    rw [hW.spread]
    clear hW hSM0'
    simp only [spread_t,spread_f,spread_n,Nat.zero_add,Nat.reduceAdd,h7]
    have hv1 := hSM.fam.vec 1
    have hz1 : zS 1 = 1 := rfl
    have hz0 : zS 0 = 1 := rfl
    have hz2 : zS 2 = 2 := rfl
    have hfn1 : fn 1 = 0 /\ fc 1 = [] := by
      rw [hf2] at hv1
      rcases hv1 with ⟨e, _, e2⟩ | ⟨b, g, cap, full, e, _⟩
      · exact ⟨e, e2⟩
      · cases e
    have hSM' := Hid.mk hSM
    have hK' := Hid.mk hK
    have hF' : Hid (fn 0 = fr.length /\ fc 0 = ofN fr /\ (∀ d, fn (d + 3) = (U d).length /\ fc (d + 3) = ofN (U d)) /\ fn 1 = ([] : List Nat).length /\ fc 1 = [] /\ fv 2 = .sl .nil 0 0 0) := ⟨hf0, hf1, hfU, hfn1.1, hfn1.2, hf3⟩
    have hU' := Hid.mk hU
    have hfv1' := Hid.mk hf2
    clear hSM hK hU hf0 hf1 hfU hf2 hf3 hfn1 hv1
    (repeat' (first | (simp -implicitDefEqProofs (maxSteps := 1000000) (disch := first | assumption | omega | (simp only [ZDI]; omega)) only [*,lenV,G37,Za,Zb,Zc,Zd,Ze,Zf,Zg,Zh,Zi,Zj,Zk,Zl,Zm,Zn,Zo,Ja,Jb,Jc,J6,Jd,Je,rd,J7,J8,Jf,Jg,Jh,Ji,Jj,Jk,J9,Jl,Jm,wr,Jn,JA,JB,Jo,Jp,Jq,Jr,Js,Jt,Ju,Jv,Jw,Jx,Jy,Jz,J0,J1,J2,J3,J4,J5,reduceCtorEq,JC,JD,JE,JF,JG,JH,JI,JJ]) | ((with_reducible (first | apply Ok.br | apply Ok.gd | apply Ok.ld)) <;> (intro g; (try simp only [ZGS] at g); try (exfalso; omega)))))
    refine Ok.loop [BF, BF, BF, BF, BT, BF, BF, BT, BF, BF, BF, BF, BT, BT, BT, BT, BF, BT, BF, BT, BF, BF, BF, BF, BF, BF, BF, BF, BF, BF, BF, BF, BF, BF, BF, BF, BF, BF, BF, BF, BF, BF, BF, BF, BF, BF, BF, BF, BF, BF, BF, BF, BF, BF, BF, BF, BF, BF, BF, BF, BF, BF, BF, BF, BF, BF, BF, BF, BF, BF, BF, BF, BF, BF, BF, BF, BF, BF, BF, BT, BT, BT, BT, BT, BT, BT, BT, BT, BT, BT, BT, BT, BT, BT, BT, BT, BT, BT, BT, BT, BT, BT, BT, BT, BT, BT, BT, BT, BT, BT, BT, BT, BT, BT, BT, BT, BT, BT, BT, BT, BT, BT, BT, BT, BT, BT, BT, BT, BT, BT, BT, BT, BT, BT, BT, BT, BT, BT, BT, BT, BT, BT, BT, BT, BT, BT, BT, BT, BT, BT, BT, BT, BT, BT, BT, BT, BT, BT, BT, BT, BT, BT, BT, BT, BT, BT, BT, BT, BT, BT, BT, BT, BT, BT, BT, BT, BT, BT, BT, BT, BT, BT, BT, BT, BT, BT, BF] (fun q s2 => ∃ (o : List Nat) (lf : Nat -> Nat) (fv : Nat -> V) (fn : Nat -> Nat) (fc : Nat -> List V) (fr : List Nat) (ol : List V) (w : List (Nat × List V)), q = cs.length - o.length /\ tv s2.e 7 = .v (fv 0) /\ tv s2.e 4 = .v (fv 1) /\ s2.l = w /\ w.length = 5 /\ SM H s2.h lb ub cs.length lf fv fn fc /\
        (fn 0 = fr.length /\ fc 0 = ofN fr /\ (∀ d, fn (d + 3) = (U d).length /\ fc (d + 3) = ofN (U d)) /\ fn 1 = o.length /\ fc 1 = ol /\ fv 2 = .sl .nil 0 0 0) /\ KInv cs.length bl (NdR cp nd cs) (ltC S cs) o fr lf /\ RowsOk s2.h S cs lb ub fv o ol)
      (fun y s2 => y = .exit 4 /\ ∃ (o : List Nat) (lf : Nat -> Nat) (fv : Nat -> V) (fn : Nat -> Nat) (fc : Nat -> List V) (ol : List V) (w : List (Nat × List V)), tv s2.e 4 = .v (fv 1) /\ s2.l = w /\ w.length = 5 /\ SM H s2.h lb ub cs.length lf fv fn fc /\ fn 1 = o.length /\ fc 1 = ol /\ KInv cs.length bl (NdR cp nd cs) (ltC S cs) o [] lf /\ RowsOk s2.h S cs lb ub fv o ol) (cs.length - 0)
      ⟨[], lf, fv, fn, fc, fr, [], _, rfl, rfl, by rw [hfv1'.out]; rfl, rfl, rfl, hSM'.out, hF'.out, hK'.out, fun t v h => by simp at h⟩ ?_ ?_
    · intro q ⟨e1, l1, G1⟩ hW ⟨o, lf, fv, fn, fc, fr, ol, w, hq, h7, h4, hl, hwl, hSM, ⟨hf0, hf1, hfU, hf2, hf3, hf4⟩, hK, hrows⟩
      dsimp only at hW h7 h4 hl hSM hrows
      subst l1
      match w, hwl with
      | [(k1, c1), (k2, c2), (k3, c3), (k4, c4), (k5, c5)], _ =>
      rw [hW.spread]
      simp only [spread_t,spread_f,spread_n,Nat.zero_add,Nat.reduceAdd,h7,h4]
      clear hW hQ' hSM' hK' hF' hfv1'
      have hv0 := hSM.fam.vec 0
      rw [hz0, hf0, hf1] at hv0
      cases hfr : fr with
      | nil =>
        rw [hfr] at hv0
        simp only [List.length_nil] at hv0
        obtain ⟨a0, c0, y0, hv00⟩ := hv0.sl
        rw [hfr] at hK
        have hSM' := Hid.mk hSM
        have hK' := Hid.mk hK
        have hrows' := Hid.mk hrows
        have hf2' := Hid.mk hf2
        have hf3' := Hid.mk hf3
        clear hSM hK hrows hf0 hf1 hfU hf2 hf3 hf4 hv0 hfr
        (repeat' (first | (simp -implicitDefEqProofs (maxSteps := 1000000) (disch := first | assumption | omega | (simp only [ZDI]; omega)) only [*,lenV,G37,Za,Zb,Zc,Zd,Ze,Zf,Zg,Zh,Zi,Zj,Zk,Zl,Zm,Zn,Zo,Ja,Jb,Jc,J6,Jd,Je,rd,J7,J8,Jf,Jg,Jh,Ji,Jj,Jk,J9,Jl,Jm,wr,Jn,JA,JB,Jo,Jp,Jq,Jr,Js,Jt,Ju,Jv,Jw,Jx,Jy,Jz,J0,J1,J2,J3,J4,J5,reduceCtorEq,JC,JD,JE,JF,JG,JH,JI,JJ]) | ((with_reducible (first | apply Ok.br | apply Ok.gd | apply Ok.ld)) <;> (intro g; (try simp only [ZGS] at g); try (exfalso; omega)))))
        exact Turn.exit ⟨rfl, rfl, o, lf, fv, fn, fc, ol, _, rfl, rfl, rfl, hSM'.out, hf2'.out, hf3'.out, hK'.out, hrows'.out⟩
      | cons p r =>
        have hfl : 0 < fr.length := by rw [hfr]; simp
        obtain ⟨fb, fg, fcap, ffull, hv00, hfb1, hfb2, hfb3, hfb4, hfb5⟩ := hv0.at hfl
        have hrd : ∀ (j c : Nat), fr[j]? = some c -> ffull[j]? = some (.int .i64 c) := fun j c hj => by
          have := ofN_get hj
          rw [hfb5, List.getElem?_take] at this
          split at this
          · exact this
          · cases this
        have hfrM : ∀ c ∈ fr, c < cs.length := fun c hc => ((hK.fmem c).1 hc).1
        have hNG := hN'.out.keep hSM.keep
        have hn1 := hNG.net.net
        have hn2 := hNG.net.nodes
        have hk1G := hSM.keep.cells hk1'.out (by simp)
        have hfrl : fr.length <= cs.length := nodup_le _ _ hK.fnd hfrM
        have hfr0 : (0 : Int) < (fr.length : Int) := by omega
        have hcomp : ∀ c ∈ fr, ∃ x1 b1 g1 o1 n1 c1 z1 rw1 full1, hdc cs c = x1 /\ x1 < N /\ kfull[c]? = some (V.sl (.at b1 g1 o1) (n1 + 1) c1 z1) /\ hcells G1 b1 g1 = some (rw1, full1) /\ full1[o1]? = some (.int .i64 (x1 : Nat)) := by
          intro c hc
          obtain ⟨lc, hlc⟩ : ∃ lc, cs[c]? = some lc := ⟨_, List.getElem?_eq_getElem (hfrM c hc)⟩
          have hlm := List.mem_of_getElem? hlc
          obtain ⟨b1, g1, o1, c1, z1, rw1, full1, e1, e2, e3⟩ := hrow'.out c lc hlc
          cases hl0 : lc with
          | nil => exact absurd hl0 (hne'.out lc hlm)
          | cons x l =>
            refine ⟨x, b1, g1, o1, l.length, c1, z1, rw1, full1, ?_, hNG.ltN lc hlm x (by rw [hl0]; exact List.mem_cons_self), ?_, hSM.keep.cells e2 (by simp), ?_⟩
            · unfold hdc; rw [List.getD_eq_getElem?_getD, hlc, hl0]; rfl
            · rw [e1, hl0]; rfl
            · have := e3 0 x (by rw [hl0]; rfl)
              simpa using this
        have hcomp' := Hid.mk hcomp
        have hrd' := Hid.mk hrd
        have hfrM' := Hid.mk hfrM
        have hSM' := Hid.mk hSM
        have hK' := Hid.mk hK
        have hrows' := Hid.mk hrows
        have hF' := Hid.mk (And.intro hf0 (And.intro hf1 (And.intro hfU (And.intro hf2 (And.intro hf3 hf4)))))
        have hv0' := Hid.mk hv0
        clear hSM hK hrows hf0 hf1 hfU hf2 hf3 hf4 hv0 hfr hcomp hrd hfrM hfb5 hNG
        (repeat' (first | (simp -implicitDefEqProofs (maxSteps := 1000000) (disch := first | assumption | omega | (simp only [ZDI]; omega)) only [*,lenV,G37,Za,Zb,Zc,Zd,Ze,Zf,Zg,Zh,Zi,Zj,Zk,Zl,Zm,Zn,Zo,Ja,Jb,Jc,J6,Jd,Je,rd,J7,J8,Jf,Jg,Jh,Ji,Jj,Jk,J9,Jl,Jm,wr,Jn,JA,JB,Jo,Jp,Jq,Jr,Js,Jt,Ju,Jv,Jw,Jx,Jy,Jz,J0,J1,J2,J3,J4,J5,reduceCtorEq,JC,JD,JE,JF,JG,JH,JI,JJ]) | ((with_reducible (first | apply Ok.br | apply Ok.gd | apply Ok.ld)) <;> (intro g; (try simp only [ZGS] at g); try (exfalso; omega)))))
        refine Ok.loop [BF, BF, BF, BF, BF, BF, BF, BF, BF, BF, BF, BF, BT, BT, BF, BF, BF, BF, BF, BF, BF, BF, BF, BF, BF, BF, BF, BF, BF, BF, BF, BF, BF, BF, BF, BF, BF, BF, BF, BF, BF, BF, BF, BF, BF, BF, BF, BF, BF, BF, BF, BF, BF, BF, BF, BF, BF, BF, BF, BF, BF, BF, BF, BF, BF, BF, BF, BF, BF, BF, BF, BF, BF, BF, BF, BF, BF, BF, BF, BF, BF, BF, BF, BF, BT, BT, BT, BT, BT, BT, BT, BT, BT, BT, BT, BT, BT, BT, BT, BT, BT, BT, BT, BT, BT, BT, BT, BT, BT, BT, BT, BT, BT, BT, BT, BT, BT, BT, BT, BT, BT, BT, BT, BT, BF, BF, BF, BF, BF, BF, BF, BF, BF, BF, BF, BF, BF, BF, BF, BF, BF, BF, BF, BF, BF, BF, BF, BF, BF, BF, BF, BF, BF, BF, BF, BF, BF, BF, BF, BF, BF, BF, BF, BF, BF, BF, BF, BF, BF, BF, BF, BF, BF, BF, BF, BF, BF, BF, BF, BF, BF, BF, BF, BF, BF, BF, BF] (fun q s2 => ∃ (i best : Nat), q = fr.length - i /\ i <= fr.length /\ best < fr.length /\ tv s2.e 84 = .v (.int .i64 i) /\ tv s2.e 12 = .v (.int .i64 best) /\ s2.l = [(k1, c1), (k2, c2), (k3, c3), (k4, c4), (k5, c5)] /\ s2.h = G1 /\ ∀ (j c cb : Nat), j < i -> fr[j]? = some c -> fr[best]? = some cb -> ltC S cs c cb = false)
          (fun y s2 => y = .exit 6 /\ ∃ (best : Nat), best < fr.length /\ tv s2.e 12 = .v (.int .i64 best) /\ s2.l = [(k1, c1), (k2, c2), (k3, c3), (k4, c4), (k5, c5)] /\ s2.h = G1 /\ ∀ (j c cb : Nat), fr[j]? = some c -> fr[best]? = some cb -> ltC S cs c cb = false) (fr.length - 0)
          ⟨0, 0, rfl, Nat.zero_le _, hfl, rfl, rfl, rfl, rfl, fun j c cb hj => absurd hj (Nat.not_lt_zero _)⟩ ?_ ?_
        · intro q2 ⟨e2, l2, G2⟩ hW ⟨i, best, hq2, hi, hbest, h84, h12, hl, hG, hmin⟩
          dsimp only at hW h84 h12 hl hG
          subst l2 hG
          rw [hW.spread]
          simp only [spread_t,spread_f,spread_n,Nat.zero_add,Nat.reduceAdd,h84,h12]
          clear hW hSM' hK' hrows' hF' hv0'
          by_cases hi2 : i < fr.length
          · have hi3 : (i : Int) < (fr.length : Int) := by omega
            have g1 : 0 <= (i : Int) /\ (i : Int) < (fr.length : Int) := by omega
            have g2 : 0 <= (best : Int) /\ (best : Int) < (fr.length : Int) := by omega
            obtain ⟨ca, hca⟩ : ∃ c, fr[i]? = some c := ⟨_, List.getElem?_eq_getElem hi2⟩
            obtain ⟨cb, hcb⟩ : ∃ c, fr[best]? = some c := ⟨_, List.getElem?_eq_getElem hbest⟩
            have hra := hrd'.out i ca hca
            have hrb := hrd'.out best cb hcb
            have hcaM := hfrM'.out ca (List.mem_of_getElem? hca)
            have hcbM := hfrM'.out cb (List.mem_of_getElem? hcb)
            obtain ⟨x1, b1, g1', o1, n1, cc1, z1, rw1, full1, ha1, ha2, ha3, ha4, ha5⟩ := hcomp'.out ca (List.mem_of_getElem? hca)
            obtain ⟨x2, b2, g2', o2, n2, cc2, z2, rw2, full2, hb1, hb2, hb3, hb4, hb5⟩ := hcomp'.out cb (List.mem_of_getElem? hcb)
            have i1 : 0 <= (ca : Int) /\ (ca : Int) < (cs.length : Int) := by omega
            have i2 : 0 <= (cb : Int) /\ (cb : Int) < (cs.length : Int) := by omega
            have i3 : (0 : Int) <= 0 /\ (0 : Int) < ((n1 + 1 : Nat) : Int) := by omega
            have i4 : (0 : Int) <= 0 /\ (0 : Int) < ((n2 + 1 : Nat) : Int) := by omega
            have i5 : 0 <= (x1 : Int) /\ (x1 : Int) < (N : Int) := by omega
            have i6 : 0 <= (x2 : Int) /\ (x2 : Int) < (N : Int) := by omega
            have hah := ahead_at hn2 ha2 hb2
            have hltc : ltC S cs ca cb = aheadB S x1 x2 := by unfold ltC; rw [ha1, hb1]
            cases hab : aheadB S x1 x2 with
            | true =>
              rw [hab] at hah hltc
              have hmin2 : ∀ (j c c' : Nat), j < i + 1 -> fr[j]? = some c -> fr[i]? = some c' -> ltC S cs c c' = false := fun j c c' hj hc hc' => by
                rw [hca] at hc'
                obtain rfl := Option.some.inj hc'
                by_cases e : j = i
                · rw [e, hca] at hc
                  obtain rfl := Option.some.inj hc
                  exact aheadB_irr _ _
                · have h1 := hmin j c cb (by omega) hc hcb
                  cases h2 : ltC S cs c ca with
                  | false => rfl
                  | true =>
                    have := aheadB_tr S h2 hltc
                    unfold ltC at h1
                    rw [this] at h1; cases h1
              have hmin' := Hid.mk hmin2
              clear hmin hmin2 hca hcb hltc hab ha1 hb1
              (repeat' (first | (simp -implicitDefEqProofs (maxSteps := 1000000) (disch := first | assumption | omega | (simp only [ZDI]; omega)) only [*,lenV,Nat.add_zero,G37,Za,Zb,Zc,Zd,Ze,Zf,Zg,Zh,Zi,Zj,Zk,Zl,Zm,Zn,Zo,Ja,Jb,Jc,J6,Jd,Je,rd,J7,J8,Jf,Jg,Jh,Ji,Jj,Jk,J9,Jl,Jm,wr,Jn,JA,JB,Jo,Jp,Jq,Jr,Js,Jt,Ju,Jv,Jw,Jx,Jy,Jz,J0,J1,J2,J3,J4,J5,reduceCtorEq,JC,JD,JE,JF,JG,JH,JI,JJ]) | ((with_reducible (first | apply Ok.br | apply Ok.gd | apply Ok.ld)) <;> (intro g; (try simp only [ZGS] at g); try (exfalso; omega)))))
              exact Turn.next (fr.length - (i + 1)) (by omega) ⟨rfl, i + 1, i, rfl, by omega, hi2, rfl, rfl, rfl, rfl, hmin'.out⟩
            | false =>
              rw [hab] at hah hltc
              have hmin2 : ∀ (j c c' : Nat), j < i + 1 -> fr[j]? = some c -> fr[best]? = some c' -> ltC S cs c c' = false := fun j c c' hj hc hc' => by
                by_cases e : j = i
                · rw [e, hca] at hc
                  obtain rfl := Option.some.inj hc
                  rw [hcb] at hc'
                  obtain rfl := Option.some.inj hc'
                  exact hltc
                · exact hmin j c c' (by omega) hc hc'
              have hmin' := Hid.mk hmin2
              clear hmin hmin2 hca hcb hltc hab ha1 hb1
              (repeat' (first | (simp -implicitDefEqProofs (maxSteps := 1000000) (disch := first | assumption | omega | (simp only [ZDI]; omega)) only [*,lenV,Nat.add_zero,G37,Za,Zb,Zc,Zd,Ze,Zf,Zg,Zh,Zi,Zj,Zk,Zl,Zm,Zn,Zo,Ja,Jb,Jc,J6,Jd,Je,rd,J7,J8,Jf,Jg,Jh,Ji,Jj,Jk,J9,Jl,Jm,wr,Jn,JA,JB,Jo,Jp,Jq,Jr,Js,Jt,Ju,Jv,Jw,Jx,Jy,Jz,J0,J1,J2,J3,J4,J5,reduceCtorEq,JC,JD,JE,JF,JG,JH,JI,JJ]) | ((with_reducible (first | apply Ok.br | apply Ok.gd | apply Ok.ld)) <;> (intro g; (try simp only [ZGS] at g); try (exfalso; omega)))))
              exact Turn.next (fr.length - (i + 1)) (by omega) ⟨rfl, i + 1, best, rfl, by omega, hbest, rfl, rfl, rfl, rfl, hmin'.out⟩
          · have hi3 : ¬ (i : Int) < (fr.length : Int) := by omega
            have hmin2 : ∀ (j c cb : Nat), fr[j]? = some c -> fr[best]? = some cb -> ltC S cs c cb = false := fun j c cb hc hcb => hmin j c cb (by have := (List.getElem?_eq_some_iff.1 hc).1; omega) hc hcb
            have hmin' := Hid.mk hmin2
            clear hmin hmin2
            (repeat' (first | (simp -implicitDefEqProofs (maxSteps := 1000000) (disch := first | assumption | omega | (simp only [ZDI]; omega)) only [*,lenV,G37,Za,Zb,Zc,Zd,Ze,Zf,Zg,Zh,Zi,Zj,Zk,Zl,Zm,Zn,Zo,Ja,Jb,Jc,J6,Jd,Je,rd,J7,J8,Jf,Jg,Jh,Ji,Jj,Jk,J9,Jl,Jm,wr,Jn,JA,JB,Jo,Jp,Jq,Jr,Js,Jt,Ju,Jv,Jw,Jx,Jy,Jz,J0,J1,J2,J3,J4,J5,reduceCtorEq,JC,JD,JE,JF,JG,JH,JI,JJ]) | ((with_reducible (first | apply Ok.br | apply Ok.gd | apply Ok.ld)) <;> (intro g; (try simp only [ZGS] at g); try (exfalso; omega)))))
            exact Turn.exit ⟨rfl, rfl, best, hbest, rfl, rfl, rfl, hmin'.out⟩
        · intro y ⟨e2, l2, G2⟩ hW ⟨hy, best, hbest, h12, hl, hG, hmin⟩
          dsimp only at hW h12 hl hG
          subst l2 hG hy
          rw [hW.spread]
          clear hW
          simp only [spread_t,spread_f,spread_n,Nat.zero_add,Nat.reduceAdd,h12]
          have g2 : 0 <= (best : Int) /\ (best : Int) < (fr.length : Int) := by omega
          obtain ⟨c, hc⟩ : ∃ c, fr[best]? = some c := ⟨_, List.getElem?_eq_getElem hbest⟩
          have hrc := hrd'.out best c hc
          have hcM := hfrM'.out c (List.mem_of_getElem? hc)
          have i1 : 0 <= (c : Int) /\ (c : Int) < (cs.length : Int) := by omega
          have hready := (hK'.out.fmem c).1 (List.mem_of_getElem? hc)
          have hleast : ∀ c', Ready cs.length bl (NdR cp nd cs) o c' -> ltC S cs c' c = false := fun c' h' => by
            obtain ⟨j, hj, e⟩ := List.mem_iff_getElem.1 ((hK'.out.fmem c').2 h')
            exact hmin j c' c (by rw [List.getElem?_eq_getElem hj, e]) hc
          have eb : (best : Int) + 1 = ((best + 1 : Nat) : Int) := by omega
          have hv0 := hv0'.out
          rw [hv00] at hv0
          have hdel := delete_at hv0 rfl hbest
          have hmid : KMid cs.length bl (NdR cp nd cs) (ltC S cs) o c (U c) 0 (fr.eraseIdx best) lf := hK'.out.take hc
          obtain ⟨lc, hlc⟩ : ∃ lc, cs[c]? = some lc := ⟨_, List.getElem?_eq_getElem hcM⟩
          obtain ⟨b1, g1', o1, cc1, z1, rw1, full1, e1', e2', e3'⟩ := hrow'.out c lc hlc
          have hlcN := hN'.out.ltN lc (List.mem_of_getElem? hlc)
          have hlcl := hll'.out lc (List.mem_of_getElem? hlc)
          have hready' := Hid.mk hready
          have hleast' := Hid.mk hleast
          have hmid' := Hid.mk hmid
          have hlc' := Hid.mk hlc
          have hlcN' := Hid.mk hlcN
          clear hready hleast hmid hlc hlcN hmin hcomp' hv0 hc hrd' hfrM'
          have hfbl : fb < G2.length := hcells_lt hfb1
          (repeat' (first | (simp -implicitDefEqProofs (maxSteps := 1000000) (disch := first | assumption | omega | (simp only [ZDI]; omega)) only [*,lenV,G37,Za,Zb,Zc,Zd,Ze,Zf,Zg,Zh,Zi,Zj,Zk,Zl,Zm,Zn,Zo,Ja,Jb,Jc,J6,Jd,Je,rd,J7,J8,Jf,Jg,Jh,Ji,Jj,Jk,J9,Jl,Jm,wr,Jn,JA,JB,Jo,Jp,Jq,Jr,Js,Jt,Ju,Jv,Jw,Jx,Jy,Jz,J0,J1,J2,J3,J4,J5,reduceCtorEq,JC,JD,JE,JF,JG,JH,JI,JJ]) | ((with_reducible (first | apply Ok.br | apply Ok.gd | apply Ok.ld)) <;> (intro g; (try simp only [ZGS] at g); try (exfalso; omega)))))
          refine Ok.bnd2 hdel fun y4 G3 ⟨H4, hy4, hk4, hv4⟩ => ?_
          cases hy4
          have hkF : Keeps (own (fv 0)) G2 G3 := by rw [hv00]; exact hk4
          have hSM3 := hSM'.out.put (a := 0) (by omega) hkF (v := .sl (.at fb fg 0) (fr.length - 1) fcap 1) (n := fr.length - 1) (c := ofN (fr.eraseIdx best)) hv4 (by rw [hv00]; exact fun x hx => hx)
          have hrows3 : RowsOk G3 S cs lb ub (upd fv 0 (.sl (.at fb fg 0) (fr.length - 1) fcap 1)) o ol := hrows'.out.step hkF (fun x hx => .inr ⟨0, hx⟩) fun a x hx => by
            by_cases e : a = 0
            · rw [e, upd_eq] at hx; exact .inl ⟨0, by rw [hv00]; exact hx⟩
            · rw [upd_ne _ _ e] at hx; exact .inl ⟨a, hx⟩
          have hF3 : upd fn 0 (fr.length - 1) 0 = (fr.eraseIdx best).length /\ upd fc 0 (ofN (fr.eraseIdx best)) 0 = ofN (fr.eraseIdx best) /\ (∀ d, upd fn 0 (fr.length - 1) (d + 3) = (U d).length /\ upd fc 0 (ofN (fr.eraseIdx best)) (d + 3) = ofN (U d)) /\ upd fn 0 (fr.length - 1) 1 = o.length /\ upd fc 0 (ofN (fr.eraseIdx best)) 1 = ol /\ upd fv 0 (.sl (.at fb fg 0) (fr.length - 1) fcap 1) 2 = .sl .nil 0 0 0 := by
            obtain ⟨_, _, h3, h4, h5, h6⟩ := hF'.out
            refine ⟨by rw [upd_eq, List.length_eraseIdx_of_lt hbest], upd_eq _ _ _, fun d => ?_, by rw [upd_ne _ _ (by omega)]; exact h4, by rw [upd_ne _ _ (by omega)]; exact h5, by rw [upd_ne _ _ (by omega)]; exact h6⟩
            rw [upd_ne _ _ (by omega), upd_ne _ _ (by omega)]; exact h3 d
          have hk1G3 := hSM3.keep.cells hk1'.out (by simp)
          have hn1G3 := (hN'.out.keep hSM3.keep).net.net
          have hk1e2 := hSM3.keep.cells e2' (by simp)
          obtain ⟨fvA, hfvA⟩ : ∃ f, upd fv 0 (V.sl (.at fb fg 0) (fr.length - 1) fcap 1) = f := ⟨_, rfl⟩
          have hA1 : fv 1 = fvA 1 := by rw [<- hfvA, upd_ne _ _ (by omega)]
          have hA0 : V.sl (.at fb fg 0) (fr.length - 1) fcap 1 = fvA 0 := by rw [<- hfvA, upd_eq]
          rw [hfvA] at hSM3 hrows3 hF3
          rw [hA1, hA0]
          generalize upd fn 0 (fr.length - 1) = fnA at hSM3 hF3
          generalize upd fc 0 (ofN (fr.eraseIdx best)) = fcA at hSM3 hF3
          have hSM3' := Hid.mk hSM3
          have hrows3' := Hid.mk hrows3
          have hF3' := Hid.mk hF3
          clear hSM3 hrows3 hF3 hkF hk4 hv4 hdel hSM' hrows' hF' hv0' hv00 hA1 hA0 hfvA hfb1 hfb2 hfb3 hfb4 hrc hn1 hn2 hk1G hfbl
          (repeat' (first | (simp -implicitDefEqProofs (maxSteps := 1000000) (disch := first | assumption | omega | (simp only [ZDI]; omega)) only [*,lenV,G37,Za,Zb,Zc,Zd,Ze,Zf,Zg,Zh,Zi,Zj,Zk,Zl,Zm,Zn,Zo,Ja,Jb,Jc,J6,Jd,Je,rd,J7,J8,Jf,Jg,Jh,Ji,Jj,Jk,J9,Jl,Jm,wr,Jn,JA,JB,Jo,Jp,Jq,Jr,Js,Jt,Ju,Jv,Jw,Jx,Jy,Jz,J0,J1,J2,J3,J4,J5,reduceCtorEq,JC,JD,JE,JF,JG,JH,JI,JJ]) | ((with_reducible (first | apply Ok.br | apply Ok.gd | apply Ok.ld)) <;> (intro g; (try simp only [ZGS] at g); try (exfalso; omega)))))
          clear hk1G3 hn1G3 hk1e2
          have hA2 := hF3'.out.2.2.2.2.2
          have hA2v : fnA 2 = 0 /\ fcA 2 = [] := by
            have := hSM3'.out.fam.vec 2
            rw [hA2] at this
            rcases this with ⟨e, _, e2⟩ | ⟨b, g, cap, full, e, _⟩
            · exact ⟨e, e2⟩
            · cases e
          refine Ok.loop [BF, BF, BF, BF, BF, BF, BF, BF, BF, BF, BF, BF, BF, BF, BF, BT, BF, BT, BF, BF, BF, BF, BF, BF, BF, BF, BF, BF, BF, BF, BF, BF, BF, BF, BF, BF, BF, BF, BF, BF, BF, BF, BF, BF, BF, BF, BF, BF, BF, BF, BF, BF, BF, BF, BF, BF, BF, BF, BF, BF, BF, BF, BF, BF, BF, BF, BF, BF, BF, BF, BF, BF, BF, BF, BF, BF, BF, BF, BF, BF, BF, BF, BF, BF, BF, BF, BF, BF, BF, BF, BF, BF, BF, BF, BF, BF, BF, BF, BF, BF, BF, BF, BF, BF, BF, BF, BF, BF, BF, BF, BF, BF, BF, BF, BF, BF, BF, BF, BF, BF, BF, BF, BF, BF, BF, BF, BF, BF, BF, BF, BF, BF, BF, BF, BF, BF, BF, BF, BF, BF, BF, BT, BT, BT, BT, BT, BT, BT, BT, BT, BT, BT, BT, BT, BT, BT, BT, BF, BF, BF, BF, BF, BF, BF, BF, BF, BF, BF, BF, BF, BF, BF, BF, BF, BF, BF, BF, BF, BF, BF, BF, BF, BF, BF, BF, BF, BF] (fun q s2 => ∃ (j : Nat) (fvB : Nat -> V) (fnB : Nat -> Nat) (fcB : Nat -> List V) (w : List (Nat × List V)), q = lc.length - j /\ j <= lc.length /\ tv s2.e 141 = .v (.int .i64 j) /\ tv s2.e 15 = .v (fvB 2) /\ s2.l = w /\ w.length = 5 /\ SM H s2.h lb ub cs.length lf fvB fnB fcB /\
              fnB 2 = j /\ fcB 2 = flL (refsOf S (lc.take j)) /\ (∀ a, a ≠ 2 -> fvB a = fvA a /\ fnB a = fnA a /\ fcB a = fcA a) /\ RowsOk s2.h S cs lb ub fvB o ol)
            (fun y s2 => y = .exit 8 /\ ∃ (fvB : Nat -> V) (fnB : Nat -> Nat) (fcB : Nat -> List V) (w : List (Nat × List V)), tv s2.e 15 = .v (fvB 2) /\ s2.l = w /\ w.length = 5 /\ SM H s2.h lb ub cs.length lf fvB fnB fcB /\
              fnB 2 = lc.length /\ fcB 2 = flL (refsOf S lc) /\ (∀ a, a ≠ 2 -> fvB a = fvA a /\ fnB a = fnA a /\ fcB a = fcA a) /\ RowsOk s2.h S cs lb ub fvB o ol) (lc.length - 0)
            ⟨0, fvA, fnA, fcA, _, rfl, Nat.zero_le _, rfl, by rw [hA2]; rfl, rfl, rfl, hSM3'.out, hA2v.1, hA2v.2, fun a _ => ⟨rfl, rfl, rfl⟩, hrows3'.out⟩ ?_ ?_
          · intro q3 ⟨e3, l3, G4⟩ hW ⟨j, fvB, fnB, fcB, w, hq3, hj, h141, h15, hl, hwl, hSM, hB1, hB2, hB3, hrows⟩
            dsimp only at hW h141 h15 hl hSM hrows
            subst l3
            match w, hwl with
            | [(k1, c1), (k2, c2), (k3, c3), (k4, c4), (k5, c5)], _ =>
            rw [hW.spread]
            simp only [spread_t,spread_f,spread_n,Nat.zero_add,Nat.reduceAdd,h141,h15]
            clear hW hSM3' hrows3' hF3' hA2 hA2v
            by_cases hj2 : j < lc.length
            · have hj3 : (j : Int) < (lc.length : Int) := by omega
              have g3 : 0 <= (j : Int) /\ (j : Int) < (lc.length : Int) := by omega
              obtain ⟨x, hx⟩ : ∃ x, lc[j]? = some x := ⟨_, List.getElem?_eq_getElem hj2⟩
              have hfx := e3' j x hx
              have hxN := hlcN'.out x (List.mem_of_getElem? hx)
              have i5 : 0 <= (x : Int) /\ (x : Int) < (N : Int) := by omega
              have x2 : x * 7 + 2 <= N * 7 := by omega
              have hNG := hN'.out.keep hSM.keep
              have hn1 := hNG.net.net
              have hn2 := hNG.net.nodes
              have hk2 := hSM.keep.cells e2' (by simp)
              have hv2 := hSM.fam.vec 2
              rw [hz2] at hv2
              have hfn2 : fnB 2 < 100000000 := by omega
              have hok : VecOk G4 (fvB 2) 2 := hv2.ok hfn2
              have hP := hv2.push (q := [V.int .i64 (S.l x), V.int .i64 (S.i x)]) hfn2 rfl
              obtain ⟨a9, c9, y9, hsh⟩ := hP.sl
              have hSM2 := hSM.push (a := 2) (by omega) (q := [V.int .i64 (S.l x), V.int .i64 (S.i x)]) rfl hfn2
              have hkP := vpush_keeps G4 (fvB 2) 2 [V.int .i64 (S.l x), V.int .i64 (S.i x)]
              have hoP := own_push G4 (fvB 2) 2 [V.int .i64 (S.l x), V.int .i64 (S.i x)]
              rw [hz2, hsh] at hSM2
              rw [hsh] at hoP
              have hrows2 := hrows.step hkP (fun x hx => .inr ⟨2, hx⟩) (upd_own hoP)
              have hB22 : upd fcB 2 (fcB 2 ++ [V.int .i64 (S.l x), V.int .i64 (S.i x)]) 2 = flL (refsOf S (lc.take (j + 1))) := by
                rw [upd_eq, hB2, List.take_add_one, hx]
                unfold refsOf
                simp only [Option.toList_some,List.map_append,List.map_cons,List.map_nil]
                rw [flL_snoc1]
              have hB32 : ∀ a, a ≠ 2 -> upd fvB 2 (V.sl a9 (fnB 2 + 1) c9 y9) a = fvA a /\ upd fnB 2 (fnB 2 + 1) a = fnA a /\ upd fcB 2 (fcB 2 ++ [V.int .i64 (S.l x), V.int .i64 (S.i x)]) a = fcA a := fun a ha => by
                rw [upd_ne _ _ ha, upd_ne _ _ ha, upd_ne _ _ ha]; exact hB3 a ha
              have hSM2' := Hid.mk hSM2
              have hrows2' := Hid.mk hrows2
              have hB22' := Hid.mk hB22
              have hB32' := Hid.mk hB32
              have hB1' := Hid.mk hB1
              have happ := happR'.out
              clear hSM2 hrows2 hB22 hB32 hSM hrows hB2 hB3 hP hkP hoP hv2 hNG hx hB1
              (repeat' (first | (simp -implicitDefEqProofs (maxSteps := 1000000) (disch := first | assumption | omega | exact hgA _ | exact hgB _ | (simp only [ZDI]; omega)) only [*,lenV,nfl_ref,nfl_len,Nat.add_zero,List.drop_zero,List.take_succ_cons,List.take_zero,G37,Za,Zb,Zc,Zd,Ze,Zf,Zg,Zh,Zi,Zj,Zk,Zl,Zm,Zn,Zo,Ja,Jb,Jc,J6,Jd,Je,rd,J7,J8,Jf,Jg,Jh,Ji,Jj,Jk,J9,Jl,Jm,wr,Jn,JA,JB,Jo,Jp,Jq,Jr,Js,Jt,Ju,Jv,Jw,hcells_push,Jy,Jz,J0,J1,J2,J3,J4,J5,reduceCtorEq,JC,JD,JE,JF,JG,JH,JI,JJ]) | ((with_reducible (first | apply Ok.br | apply Ok.gd | apply Ok.ld)) <;> (intro g; (try simp only [ZGS] at g); try (exfalso; omega)))))
              exact Turn.next (lc.length - (j + 1)) (by omega) ⟨rfl, j + 1, _, _, _, _, rfl, by omega, rfl, by rw [upd_eq]; rfl, rfl, rfl, hSM2'.out, by rw [upd_eq, hB1'.out], hB22'.out, hB32'.out, hrows2'.out⟩
            · have hj3 : ¬ (j : Int) < (lc.length : Int) := by omega
              have hje : j = lc.length := by omega
              subst hje
              rw [List.take_length] at hB2
              have hSM2' := Hid.mk hSM
              have hrows2' := Hid.mk hrows
              have hB1' := Hid.mk hB1
              have hB2' := Hid.mk hB2
              have hB3' := Hid.mk hB3
              clear hSM hrows hB1 hB2 hB3
              (repeat' (first | (simp -implicitDefEqProofs (maxSteps := 1000000) (disch := first | assumption | omega | (simp only [ZDI]; omega)) only [*,lenV,G37,Za,Zb,Zc,Zd,Ze,Zf,Zg,Zh,Zi,Zj,Zk,Zl,Zm,Zn,Zo,Ja,Jb,Jc,J6,Jd,Je,rd,J7,J8,Jf,Jg,Jh,Ji,Jj,Jk,J9,Jl,Jm,wr,Jn,JA,JB,Jo,Jp,Jq,Jr,Js,Jt,Ju,Jv,Jw,Jx,Jy,Jz,J0,J1,J2,J3,J4,J5,reduceCtorEq,JC,JD,JE,JF,JG,JH,JI,JJ]) | ((with_reducible (first | apply Ok.br | apply Ok.gd | apply Ok.ld)) <;> (intro g; (try simp only [ZGS] at g); try (exfalso; omega)))))
              exact Turn.exit ⟨rfl, rfl, fvB, fnB, fcB, _, rfl, rfl, rfl, hSM2'.out, hB1'.out, hB2'.out, hB3'.out, hrows2'.out⟩
          · intro y ⟨e3, l3, G4⟩ hW ⟨hy, fvB, fnB, fcB, w, h15, hl, hwl, hSM, hB1, hB2, hB3, hrows⟩
            dsimp only at hW h15 hl hSM hrows
            subst l3 hy
            match w, hwl with
            | [(k1, c1), (k2, c2), (k3, c3), (k4, c4), (k5, c5)], _ =>
            rw [hW.spread]
            clear hW hA2 hA2v
            simp only [spread_t,spread_f,spread_n,Nat.zero_add,Nat.reduceAdd,h15]
            have hv2 := hSM.fam.vec 2
            rw [hz2, hB1, hB2] at hv2
            have hrl : (refsOf S lc).length = lc.length := by unfold refsOf; simp
            have hrow2 : RowAt G4 (fvB 2) (refsOf S lc) := VecAt.row (by rw [hrl]; exact hv2)
            obtain ⟨a2, ca2, ya2, hsh2⟩ := hv2.sl
            have hv1 := hSM.fam.vec 1
            rw [hz1] at hv1
            have hA1 := (hB3 1 (by omega)).1
            have hA0 := (hB3 0 (by omega)).1
            have hol : o.length <= cs.length := hK'.out.len
            have hfn1 : fnB 1 = o.length := by rw [(hB3 1 (by omega)).2.1]; exact hF3'.out.2.2.2.1
            have hfc1 : fcB 1 = ol := by rw [(hB3 1 (by omega)).2.2]; exact hF3'.out.2.2.2.2.1
            have hfnl : fnB 1 < 100000000 := by omega
            have hok : VecOk G4 (fvB 1) 1 := hv1.ok hfnl
            have hP := hv1.push (q := [V.sl a2 lc.length ca2 ya2]) hfnl rfl
            obtain ⟨a9, c9, y9, hsh⟩ := hP.sl
            have hSM2 := hSM.push (a := 1) (by omega) (q := [V.sl a2 lc.length ca2 ya2]) rfl hfnl
            have hkP := vpush_keeps G4 (fvB 1) 1 [V.sl a2 lc.length ca2 ya2]
            have hoP := own_push G4 (fvB 1) 1 [V.sl a2 lc.length ca2 ya2]
            rw [hz1, hsh] at hSM2
            rw [hsh] at hoP
            have hrows2 := hrows.step hkP (fun x hx => .inr ⟨1, hx⟩) (upd_own hoP)
            have hSM4 := hSM2.put (a := 2) (by omega) (Keeps.refl _ _ |>.mono fun i _ h => h) (v := .sl .nil 0 0 0) (n := 0) (c := []) (.zero _ _) (fun x hx => by simp [own] at hx)
            have hdis12 : ∀ x ∈ own (fvB 2), x ∉ own (fvB 1) := hSM.fam.dis 2 1 (by omega)
            have hfvlt := hSM.fam.lt 2
            have hrow3 := hrow2.keepF hkP hdis12
            rw [hsh2] at hrow3
            have hgl := hkP.1
            have hrows4 : RowsOk (vpush G4 (fvB 1) 1 [V.sl a2 lc.length ca2 ya2]).2 S cs lb ub (upd (upd fvB 1 (V.sl a9 (fnB 1 + 1) c9 y9)) 2 (.sl .nil 0 0 0)) (o ++ [c]) (ol ++ [V.sl a2 lc.length ca2 ya2]) := by
              have hvl : ol.length = o.length := by have := hv1.len; rw [hfc1, hfn1, Nat.mul_one] at this; exact this
              intro t v ht
              by_cases ht2 : t < o.length
              · rw [List.getElem?_append_left (by omega)] at ht
                obtain ⟨⟨c', lc', q1, q2, q3⟩, q4⟩ := hrows2 t v ht
                refine ⟨⟨c', lc', by rw [List.getElem?_append_left ht2]; exact q1, q2, q3⟩, fun x hx => ⟨(q4 x hx).1, (q4 x hx).2.1, fun a => ?_⟩⟩
                by_cases e : a = 2
                · rw [e, upd_eq]; simp [own]
                · rw [upd_ne _ _ e]; exact (q4 x hx).2.2 a
              · have htl := (List.getElem?_eq_some_iff.1 ht).1
                simp only [List.length_append,List.length_cons,List.length_nil] at htl
                have et : t = o.length := by omega
                rw [et, List.getElem?_append_right (by omega), hvl, Nat.sub_self] at ht
                have ev : V.sl a2 lc.length ca2 ya2 = v := Option.some.inj ht
                refine ⟨⟨c, lc, by rw [et, List.getElem?_append_right (Nat.le_refl _), Nat.sub_self]; rfl, hlc'.out, ?_⟩, fun x hx => ?_⟩
                · rw [<- ev]; exact hrow3
                · rw [<- ev] at hx
                  have hx : x ∈ own (fvB 2) := by rw [hsh2]; exact hx
                  refine ⟨Nat.lt_of_lt_of_le (hfvlt x hx) hgl, (hSM.fam.new 2 x hx).2, fun a => ?_⟩
                  by_cases e : a = 2
                  · rw [e, upd_eq]; simp [own]
                  · rw [upd_ne _ _ e]
                    by_cases e1 : a = 1
                    · rw [e1, upd_eq]
                      intro hm
                      rcases hoP x hm with k | k
                      · exact hdis12 x hx k
                      · have := hfvlt x hx; omega
                    · rw [upd_ne _ _ e1]; exact hSM.fam.dis 2 a (Ne.symm e) x hx
            have hub := hSM4.usr
            have hcu := arr_get (F := fun d => upd (upd fvB 1 (V.sl a9 (fnB 1 + 1) c9 y9)) 2 (.sl .nil 0 0 0) (d + 3)) hcM
            obtain ⟨fvC, hfvC⟩ : ∃ f, upd (upd fvB 1 (V.sl a9 (fnB 1 + 1) c9 y9)) 2 (.sl .nil 0 0 0) = f := ⟨_, rfl⟩
            rw [hfvC] at hSM4 hrows4 hub hcu
            have hC1 : V.sl a9 (fnB 1 + 1) c9 y9 = fvC 1 := by rw [<- hfvC, upd_ne _ _ (by omega), upd_eq]
            have hC0 : fvC 0 = fvA 0 := by rw [<- hfvC, upd_ne _ _ (by omega), upd_ne _ _ (by omega), hA0]
            have hC2 : fvC 2 = .sl .nil 0 0 0 := by rw [<- hfvC, upd_eq]
            obtain ⟨fnC, hfnC⟩ : ∃ f, upd (upd fnB 1 (fnB 1 + 1)) 2 0 = f := ⟨_, rfl⟩
            obtain ⟨fcC, hfcC⟩ : ∃ f, upd (upd fcB 1 (fcB 1 ++ [V.sl a2 lc.length ca2 ya2])) 2 [] = f := ⟨_, rfl⟩
            rw [hfnC, hfcC] at hSM4
            have hFC : fnC 0 = (fr.eraseIdx best).length /\ fcC 0 = ofN (fr.eraseIdx best) /\ (∀ d, fnC (d + 3) = (U d).length /\ fcC (d + 3) = ofN (U d)) /\ fnC 1 = (o ++ [c]).length /\ fcC 1 = ol ++ [V.sl a2 lc.length ca2 ya2] /\ fvC 2 = .sl .nil 0 0 0 := by
              obtain ⟨h1, h2, h3, h4, h5, h6⟩ := hF3'.out
              rw [<- hfnC, <- hfcC]
              refine ⟨?_, ?_, fun d => ?_, ?_, ?_, hC2⟩
              · rw [upd_ne _ _ (by omega), upd_ne _ _ (by omega), (hB3 0 (by omega)).2.1]; exact h1
              · rw [upd_ne _ _ (by omega), upd_ne _ _ (by omega), (hB3 0 (by omega)).2.2]; exact h2
              · rw [upd_ne _ _ (by omega), upd_ne _ _ (by omega), upd_ne _ _ (by omega), upd_ne _ _ (by omega), (hB3 (d + 3) (by omega)).2.1, (hB3 (d + 3) (by omega)).2.2]; exact h3 d
              · rw [upd_ne _ _ (by omega), upd_eq, hfn1, List.length_append]; rfl
              · rw [upd_ne _ _ (by omega), upd_eq, hfc1]
            rw [<- hA1]
            have hSM4' := Hid.mk hSM4
            have hrows4' := Hid.mk hrows4
            have hFC' := Hid.mk hFC
            have hC0' := Hid.mk hC0
            have hvU := hSM4.fam.vec (c + 3)
            rw [show zS (c + 3) = 1 by unfold zS; rw [if_neg (by omega)], (hFC.2.2.1 c).1, (hFC.2.2.1 c).2] at hvU
            obtain ⟨ua, uc, uy, hush⟩ := hvU.sl
            rw [hush] at hcu
            have happ := happO'.out
            clear hSM4 hrows4 hFC hSM2 hrows2 hSM hrows hB1 hB2 hB3 hP hkP hoP hv2 hv1 hrow2 hrow3 hdis12 hfvlt hgl hrl hfn1 hfc1 hSM3' hrows3' hF3' hfvC hfnC hfcC hA1 hA0 hC2 hC0 hvU
            have hush' := Hid.mk hush
            clear hush
            (repeat' (first | (simp -implicitDefEqProofs (maxSteps := 1000000) (disch := first | assumption | omega | exact hgA _ | exact hgB _ | (simp only [ZDI]; omega)) only [*,lenV,List.drop_zero,List.take_succ_cons,List.take_zero,G37,Za,Zb,Zc,Zd,Ze,Zf,Zg,Zh,Zi,Zj,Zk,Zl,Zm,Zn,Zo,Ja,Jb,Jc,J6,Jd,Je,rd,J7,J8,Jf,Jg,Jh,Ji,Jj,Jk,J9,Jl,Jm,wr,Jn,JA,JB,Jo,Jp,Jq,Jr,Js,Jt,Ju,Jv,Jw,hcells_push,Jy,Jz,J0,J1,J2,J3,J4,J5,reduceCtorEq,JC,JD,JE,JF,JG,JH,JI,JJ]) | ((with_reducible (first | apply Ok.br | apply Ok.gd | apply Ok.ld)) <;> (intro g; (try simp only [ZGS] at g); try (exfalso; omega)))))
            clear hub hcu hok hsh happ
            have hUc := hU'.out c
            have hUl : (U c).length <= cs.length := nodup_le _ _ hUc.1 fun x hx => ((hUc.2 x).1 hx).1
            refine Ok.loop [BF, BF, BF, BF, BF, BF, BF, BT, BF, BF, BF, BF, BF, BF, BF, BF, BF, BF, BF, BT, BF, BF, BF, BF, BF, BF, BF, BF, BF, BF, BF, BF, BF, BF, BF, BF, BF, BF, BF, BF, BF, BF, BF, BF, BF, BF, BF, BF, BF, BF, BF, BF, BF, BF, BF, BF, BF, BF, BF, BF, BF, BF, BF, BF, BF, BF, BF, BF, BF, BF, BF, BF, BF, BF, BF, BF, BF, BF, BF, BF, BF, BF, BF, BF, BF, BF, BF, BF, BF, BF, BF, BF, BF, BF, BF, BF, BF, BF, BF, BF, BF, BF, BF, BF, BF, BF, BF, BF, BF, BF, BF, BF, BF, BF, BF, BF, BF, BF, BF, BF, BF, BF, BF, BF, BF, BF, BF, BF, BF, BF, BF, BF, BF, BF, BF, BF, BF, BF, BF, BF, BF, BF, BF, BF, BF, BF, BF, BF, BF, BF, BF, BF, BF, BF, BF, BF, BF, BF, BF, BF, BF, BF, BF, BF, BF, BF, BT, BT, BT, BT, BT, BT, BT, BT, BT, BT, BT, BT, BT, BT, BT, BT, BT, BT, BT, BT, BF] (fun q s2 => ∃ (j : Nat) (lfB : Nat -> Nat) (frB : List Nat) (fvB : Nat -> V) (fnB : Nat -> Nat) (fcB : Nat -> List V) (w : List (Nat × List V)), q = (U c).length - j /\ j <= (U c).length /\ tv s2.e 166 = .v (.int .i64 j) /\ tv s2.e 7 = .v (fvB 0) /\ s2.l = w /\ w.length = 5 /\ SM H s2.h lb ub cs.length lfB fvB fnB fcB /\
                fnB 0 = frB.length /\ fcB 0 = ofN frB /\ (∀ a, a ≠ 0 -> fvB a = fvC a /\ fnB a = fnC a /\ fcB a = fcC a) /\ KMid cs.length bl (NdR cp nd cs) (ltC S cs) o c (U c) j frB lfB /\ RowsOk s2.h S cs lb ub fvB (o ++ [c]) (ol ++ [V.sl a2 lc.length ca2 ya2]))
              (fun y s2 => y = .exit 10 /\ ∃ (lfB : Nat -> Nat) (frB : List Nat) (fvB : Nat -> V) (fnB : Nat -> Nat) (fcB : Nat -> List V) (w : List (Nat × List V)), tv s2.e 7 = .v (fvB 0) /\ s2.l = w /\ w.length = 5 /\ SM H s2.h lb ub cs.length lfB fvB fnB fcB /\
                fnB 0 = frB.length /\ fcB 0 = ofN frB /\ (∀ a, a ≠ 0 -> fvB a = fvC a /\ fnB a = fnC a /\ fcB a = fcC a) /\ KMid cs.length bl (NdR cp nd cs) (ltC S cs) o c (U c) (U c).length frB lfB /\ RowsOk s2.h S cs lb ub fvB (o ++ [c]) (ol ++ [V.sl a2 lc.length ca2 ya2])) ((U c).length - 0)
              ⟨0, lf, fr.eraseIdx best, fvC, fnC, fcC, _, rfl, Nat.zero_le _, rfl, by rw [hC0'.out]; rfl, rfl, rfl, hSM4'.out, hFC'.out.1, hFC'.out.2.1, fun a _ => ⟨rfl, rfl, rfl⟩, hmid'.out, hrows4'.out⟩ ?_ ?_
            · intro q4 ⟨e4, l4, G5⟩ hW ⟨j, lfB, frB, fvB, fnB, fcB, w, hq4, hj, h166, h7, hl, hwl, hSM, hB1, hB2, hB3, hmid, hrows⟩
              dsimp only at hW h166 h7 hl hSM hrows
              subst l4
              match w, hwl with
              | [(k1, c1), (k2, c2), (k3, c3), (k4, c4), (k5, c5)], _ =>
              rw [hW.spread]
              simp only [spread_t,spread_f,spread_n,Nat.zero_add,Nat.reduceAdd,h166,h7]
              clear hW hSM4' hrows4' hC0' hmid'
              by_cases hj2 : j < (U c).length
              · have hj3 : (j : Int) < ((U c).length : Int) := by omega
                have g3 : 0 <= (j : Int) /\ (j : Int) < ((U c).length : Int) := by omega
                obtain ⟨u, hu⟩ : ∃ u, (U c)[j]? = some u := ⟨_, List.getElem?_eq_getElem hj2⟩
                have huu := (hUc.2 u).1 (List.mem_of_getElem? hu)
                have huM := huu.1
                have i5 : 0 <= (u : Int) /\ (u : Int) < (cs.length : Int) := by omega
                have hvU := hSM.fam.vec (c + 3)
                rw [show zS (c + 3) = 1 by unfold zS; rw [if_neg (by omega)], (hB3 (c + 3) (by omega)).1, (hB3 (c + 3) (by omega)).2.1, (hB3 (c + 3) (by omega)).2.2, (hFC'.out.2.2.1 c).1, (hFC'.out.2.2.1 c).2, hush'.out] at hvU
                obtain ⟨b4, q4', cap4, full4, e4', hb4, _, _, _, h44⟩ := hvU.at (by omega)
                have hush2 := hush'.out
                rw [e4'] at hush2
                obtain ⟨rfl, _, rfl, rfl⟩ := V.sl.inj e4'
                have hfu : full4[j]? = some (.int .i64 u) := by
                  have := ofN_get hu
                  rw [h44, List.getElem?_take] at this
                  split at this
                  · exact this
                  · cases this
                obtain ⟨hlfu, hmid2⟩ := hmid.step hK'.out.ocl hcM hready'.out.2.2.1 hUc.1 hUc.2 hu
                obtain ⟨cn, hcn⟩ : ∃ n, cnt cs.length (NdR cp nd cs) (o ++ [c]) u = n := ⟨_, rfl⟩
                rw [hcn] at hlfu hmid2
                have hleft := hSM.left
                have hget := arr_get (F := fun c => V.int .i64 (lfB c : Nat)) huM
                have hget2 := arr_get (F := fun c => V.int .i64 (upd lfB u cn c : Nat)) huM
                rw [hlfu] at hget
                rw [upd_eq] at hget2
                have ecn : ((cn + 1 : Nat) : Int) - 1 = (cn : Int) := by omega
                have hcnl : cn <= 100000 := by
                  rw [<- hcn]
                  have := cnt_le (M := cs.length) (Nd := NdR cp nd cs) (o ++ [c]) u
                  omega
                have hSM2 := hSM.setL u cn
                have hkL : Keeps [lb] G5 (G5.set lb (.cells 0 true (arr cs.length (fun c => .int .i64 (upd lfB u cn c : Nat))))) := (Keeps.refl _ _).set (.inl (by simp)) _
                have hlbl := hcells_lt hleft
                have hrows2 := hrows.step (fv' := fvB) hkL (fun x hx => .inl (by simp at hx; simp [hx])) (fun a x hx => .inl ⟨a, hx⟩)
                have hfrBl : frB.length <= cs.length := nodup_le _ _ hmid.fnd fun x hx => by
                  rcases (hmid.fmem x).1 hx with ⟨k, _⟩ | ⟨k, _⟩
                  · exact k.1
                  · exact ((hUc.2 x).1 (List.mem_of_mem_take k)).1
                by_cases hz : cn = 0
                · rw [if_pos hz] at hmid2
                  have hdz : decide ((cn : Int) = 0) = true := decide_eq_true (by omega)
                  have hv0 := hSM2.fam.vec 0
                  rw [hz0] at hv0
                  have hfn0 : fnB 0 < 100000000 := by omega
                  have hok : VecOk (G5.set lb (.cells 0 true (arr cs.length (fun c => .int .i64 (upd lfB u cn c : Nat))))) (fvB 0) 1 := hv0.ok hfn0
                  have hP := hv0.push (q := [V.int .i64 u]) hfn0 rfl
                  obtain ⟨a9, c9, y9, hsh⟩ := hP.sl
                  have hSM3 := hSM2.push (a := 0) (by omega) (q := [V.int .i64 u]) rfl hfn0
                  have hkP := vpush_keeps (G5.set lb (.cells 0 true (arr cs.length (fun c => .int .i64 (upd lfB u cn c : Nat))))) (fvB 0) 1 [V.int .i64 u]
                  have hoP := own_push (G5.set lb (.cells 0 true (arr cs.length (fun c => .int .i64 (upd lfB u cn c : Nat))))) (fvB 0) 1 [V.int .i64 u]
                  rw [hz0, hsh] at hSM3
                  rw [hsh] at hoP
                  have hrows3 := hrows2.step hkP (fun x hx => .inr ⟨0, hx⟩) (upd_own hoP)
                  have hB12 : upd fnB 0 (fnB 0 + 1) 0 = (frB ++ [u]).length := by rw [upd_eq, hB1, List.length_append]; rfl
                  have hB22 : upd fcB 0 (fcB 0 ++ [V.int .i64 u]) 0 = ofN (frB ++ [u]) := by rw [upd_eq, hB2, ofN_app]; rfl
                  have hB32 : ∀ a, a ≠ 0 -> upd fvB 0 (V.sl a9 (fnB 0 + 1) c9 y9) a = fvC a /\ upd fnB 0 (fnB 0 + 1) a = fnC a /\ upd fcB 0 (fcB 0 ++ [V.int .i64 u]) a = fcC a := fun a ha => by
                    rw [upd_ne _ _ ha, upd_ne _ _ ha, upd_ne _ _ ha]; exact hB3 a ha
                  have hSM3' := Hid.mk hSM3
                  have hrows3' := Hid.mk hrows3
                  have hmid2' := Hid.mk hmid2
                  have hB12' := Hid.mk hB12
                  have hB22' := Hid.mk hB22
                  have hB32' := Hid.mk hB32
                  have happ := happI'.out
                  clear hSM3 hrows3 hmid2 hB12 hB22 hB32 hSM hSM2 hrows hrows2 hmid hB1 hB2 hB3 hP hkP hoP hv0 hkL hvU hu h44 hush2 hcn hlfu huu hz
                  (repeat' (first | (simp -implicitDefEqProofs (maxSteps := 1000000) (disch := first | assumption | omega | exact hgA _ | exact hgB _ | (simp only [ZDI]; omega)) only [*,lenV,arrN_set,arr_len,List.drop_zero,List.take_succ_cons,List.take_zero,G37,Za,Zb,Zc,Zd,Ze,Zf,Zg,Zh,Zi,Zj,Zk,Zl,Zm,Zn,Zo,Ja,Jb,Jc,J6,Jd,Je,rd,J7,J8,Jf,Jg,Jh,Ji,Jj,Jk,J9,Jl,Jm,wr,Jn,JA,JB,Jo,Jp,Jq,Jr,Js,Jt,Ju,Jv,Jw,hcells_push,Jy,Jz,J0,J1,J2,J3,J4,J5,reduceCtorEq,JC,JD,JE,JF,JG,JH,JI,JJ]) | ((with_reducible (first | apply Ok.br | apply Ok.gd | apply Ok.ld)) <;> (intro g; (try simp only [ZGS] at g); try (exfalso; omega)))))
                  exact Turn.next ((U c).length - (j + 1)) (by omega) ⟨rfl, j + 1, _, frB ++ [u], _, _, _, _, rfl, by omega, rfl, by rw [upd_eq]; rfl, rfl, rfl, hSM3'.out, hB12'.out, hB22'.out, hB32'.out, hmid2'.out, hrows3'.out⟩
                · rw [if_neg hz] at hmid2
                  have hz' : ¬ (cn : Int) = 0 := by omega
                  have hSM3' := Hid.mk hSM2
                  have hrows3' := Hid.mk hrows2
                  have hmid2' := Hid.mk hmid2
                  have hB12' := Hid.mk hB1
                  have hB22' := Hid.mk hB2
                  have hB32' := Hid.mk hB3
                  clear hmid2 hSM hSM2 hrows hrows2 hmid hB1 hB2 hB3 hkL hvU hu h44 hush2 hcn hlfu huu hz
                  (repeat' (first | (simp -implicitDefEqProofs (maxSteps := 1000000) (disch := first | assumption | omega | exact hgA _ | exact hgB _ | (simp only [ZDI]; omega)) only [*,lenV,arrN_set,arr_len,G37,Za,Zb,Zc,Zd,Ze,Zf,Zg,Zh,Zi,Zj,Zk,Zl,Zm,Zn,Zo,Ja,Jb,Jc,J6,Jd,Je,rd,J7,J8,Jf,Jg,Jh,Ji,Jj,Jk,J9,Jl,Jm,wr,Jn,JA,JB,Jo,Jp,Jq,Jr,Js,Jt,Ju,Jv,Jw,hcells_push,Jy,Jz,J0,J1,J2,J3,J4,J5,reduceCtorEq,JC,JD,JE,JF,JG,JH,JI,JJ]) | ((with_reducible (first | apply Ok.br | apply Ok.gd | apply Ok.ld)) <;> (intro g; (try simp only [ZGS] at g); try (exfalso; omega)))))
                  refine Turn.next ((U c).length - (j + 1)) ?_ ?_
                  · omega
                  · exact ⟨rfl, j + 1, _, frB, _, _, _, _, rfl, by omega, rfl, rfl, rfl, rfl, hSM3'.out, hB12'.out, hB22'.out, hB32'.out, hmid2'.out, hrows3'.out⟩
              · have hj3 : ¬ (j : Int) < ((U c).length : Int) := by omega
                have hje : j = (U c).length := by omega
                subst hje
                have hSM2' := Hid.mk hSM
                have hrows2' := Hid.mk hrows
                have hB1' := Hid.mk hB1
                have hB2' := Hid.mk hB2
                have hB3' := Hid.mk hB3
                have hmid2' := Hid.mk hmid
                clear hSM hrows hB1 hB2 hB3 hmid
                (repeat' (first | (simp -implicitDefEqProofs (maxSteps := 1000000) (disch := first | assumption | omega | (simp only [ZDI]; omega)) only [*,lenV,G37,Za,Zb,Zc,Zd,Ze,Zf,Zg,Zh,Zi,Zj,Zk,Zl,Zm,Zn,Zo,Ja,Jb,Jc,J6,Jd,Je,rd,J7,J8,Jf,Jg,Jh,Ji,Jj,Jk,J9,Jl,Jm,wr,Jn,JA,JB,Jo,Jp,Jq,Jr,Js,Jt,Ju,Jv,Jw,Jx,Jy,Jz,J0,J1,J2,J3,J4,J5,reduceCtorEq,JC,JD,JE,JF,JG,JH,JI,JJ]) | ((with_reducible (first | apply Ok.br | apply Ok.gd | apply Ok.ld)) <;> (intro g; (try simp only [ZGS] at g); try (exfalso; omega)))))
                exact Turn.exit ⟨rfl, rfl, lfB, frB, fvB, fnB, fcB, _, rfl, rfl, rfl, hSM2'.out, hB1'.out, hB2'.out, hB3'.out, hmid2'.out, hrows2'.out⟩
            · intro y ⟨e4, l4, G5⟩ hW ⟨hy, lfB, frB, fvB, fnB, fcB, w, h7, hl, hwl, hSM, hB1, hB2, hB3, hmid, hrows⟩
              dsimp only at hW h7 hl hSM hrows
              subst l4 hy
              match w, hwl with
              | [(k1, c1), (k2, c2), (k3, c3), (k4, c4), (k5, c5)], _ =>
              rw [hW.spread]
              clear hW hSM4' hrows4' hC0' hmid'
              simp only [spread_t,spread_f,spread_n,Nat.zero_add,Nat.reduceAdd,h7]
              have hK2 := hmid.done (Nat.le_refl _) hK'.out hready'.out hleast'.out hUc.2 hdom'.out hirr'.out
              have hlen2 := hK2.len
              rw [List.length_append] at hlen2
              have hF2 : fnB 0 = frB.length /\ fcB 0 = ofN frB /\ (∀ d, fnB (d + 3) = (U d).length /\ fcB (d + 3) = ofN (U d)) /\ fnB 1 = (o ++ [c]).length /\ fcB 1 = ol ++ [V.sl a2 lc.length ca2 ya2] /\ fvB 2 = .sl .nil 0 0 0 := by
                obtain ⟨_, _, h3, h4, h5, h6⟩ := hFC'.out
                refine ⟨hB1, hB2, fun d => ?_, ?_, ?_, ?_⟩
                · rw [(hB3 (d + 3) (by omega)).2.1, (hB3 (d + 3) (by omega)).2.2]; exact h3 d
                · rw [(hB3 1 (by omega)).2.1]; exact h4
                · rw [(hB3 1 (by omega)).2.2]; exact h5
                · rw [(hB3 2 (by omega)).1]; exact h6
              have hv1e := (hB3 1 (by omega)).1
              have hSM2' := Hid.mk hSM
              have hrows2' := Hid.mk hrows
              have hF2' := Hid.mk hF2
              have hK2' := Hid.mk hK2
              have hv1e' := Hid.mk hv1e
              clear hSM hrows hB1 hB2 hB3 hmid hF2 hK2 hv1e
              (repeat' (first | (simp -implicitDefEqProofs (maxSteps := 1000000) (disch := first | assumption | omega | (simp only [ZDI]; omega)) only [*,lenV,G37,Za,Zb,Zc,Zd,Ze,Zf,Zg,Zh,Zi,Zj,Zk,Zl,Zm,Zn,Zo,Ja,Jb,Jc,J6,Jd,Je,rd,J7,J8,Jf,Jg,Jh,Ji,Jj,Jk,J9,Jl,Jm,wr,Jn,JA,JB,Jo,Jp,Jq,Jr,Js,Jt,Ju,Jv,Jw,Jx,Jy,Jz,J0,J1,J2,J3,J4,J5,reduceCtorEq,JC,JD,JE,JF,JG,JH,JI,JJ]) | ((with_reducible (first | apply Ok.br | apply Ok.gd | apply Ok.ld)) <;> (intro g; (try simp only [ZGS] at g); try (exfalso; omega)))))
              exact Turn.next (cs.length - (o.length + 1)) (by simp at hlen2; omega) ⟨rfl, o ++ [c], lfB, fvB, fnB, fcB, frB, _, _, by rw [List.length_append]; rfl, rfl, by rw [hv1e'.out]; rfl, rfl, rfl, hSM2'.out, hF2'.out, hK2'.out, hrows2'.out⟩
    · intro y ⟨e1, l1, G1⟩ hW ⟨hy, o, lf, fv, fn, fc, ol, w, h4, hl, hwl, hSM, hf2, hf3, hK, hrows⟩
      dsimp only at hW h4 hl hSM hrows
      subst l1 hy
      match w, hwl with
      | [(k1, c1), (k2, c2), (k3, c3), (k4, c4), (k5, c5)], _ =>
      rw [hW.spread]
      clear hW hSM' hK' hF' hfv1'
      simp only [spread_t,spread_f,spread_n,Nat.zero_add,Nat.reduceAdd,h4]
      have hv1 := hSM.fam.vec 1
      rw [hz1, hf2, hf3] at hv1
      have hall := hK.all hlt'.out hbl'.out
      have hkk := hSM.keep
      have hv1' := Hid.mk hv1
      have hall' := Hid.mk hall
      have hkk' := Hid.mk hkk
      have hK' := Hid.mk hK
      have hrows' := Hid.mk hrows
      clear hv1 hall hkk hK hrows hSM hf2 hf3
      (repeat' (first | (simp -implicitDefEqProofs (maxSteps := 1000000) (disch := first | assumption | omega | (simp only [ZDI]; omega)) only [*,lenV,G37,Za,Zb,Zc,Zd,Ze,Zf,Zg,Zh,Zi,Zj,Zk,Zl,Zm,Zn,Zo,Ja,Jb,Jc,J6,Jd,Je,rd,J7,J8,Jf,Jg,Jh,Ji,Jj,Jk,J9,Jl,Jm,wr,Jn,JA,JB,Jo,Jp,Jq,Jr,Js,Jt,Ju,Jv,Jw,Jx,Jy,Jz,J0,J1,J2,J3,J4,J5,reduceCtorEq,JC,JD,JE,JF,JG,JH,JI,JJ]) | ((with_reducible (first | apply Ok.br | apply Ok.gd | apply Ok.ld)) <;> (intro g; (try simp only [ZGS] at g); try (exfalso; omega)))))
      exact hQ'.out _ ⟨_, _, o, ol, rfl, hkk'.out, hv1'.out, hK'.out.ond, hall'.out, hK'.out.gr, fun t v ht => (hrows'.out t v ht).1⟩
end Go.Ev
set_option maxRecDepth 100000
namespace Go.Ev
open Go.Ev renaming exPure -> Ja, ofValue -> Jb, cellsV -> Jc, load -> Jd, store -> Je, binOp -> Jf, intOp -> Jg, rdV -> Jh, vsame -> Ji, vsames -> Jj, makeSliceV -> Jk, resV -> Jl, isCell -> Jm, nilCheckV -> Jn, allV -> Jo, builtinV -> Jp, lenV -> Jq, indexAddrV -> Jr, unOp -> Js, minmaxV -> Jt, minmax -> Ju, sliceV -> Jv, asInt -> Jw, appendV -> Jx, forkB -> Jy, roY -> Jz, rwB -> J0, copyV -> J1, clearV -> J2, convV -> J3, sliceCells -> J4, shift -> J5
open Bool renaming true -> BT, false -> BF
open Nat renaming reduceEqDiff -> J6, reduceLT -> J7, reduceAdd -> J8, reduceBEq -> J9, reduceSub -> JA, reduceMul -> JB, reduceLeDiff -> JJ
open Int renaming reduceLT -> JC, reduceLE -> JD, reduceAdd -> JE, reduceSub -> JF, reduceNeg -> JG, reduceToNat -> JH, reduceEq -> JI
open Go.Proofs Go.Sort
structure GI where
 (l i : Int) (a2 a3 a4 a5 : V) (st : Int) (a7 a8 a9 a10 a11 a12 a13 : V) (sq : Int) (pv : V) (pl : List RP)
def giV (x : GI) : List V := [.int .i64 x.l, .int .i64 x.i, x.a2, x.a3, x.a4, x.a5, .int .i64 x.st, x.a7, x.a8, x.a9, x.a10, x.a11, x.a12, x.a13, .int .i64 x.sq, x.pv]
def GI.key (x : GI) : RP := (x.l, x.i)
def GI.z : GI := ⟨0, 0, .nilp, .nilp, .nilp, .nilp, 0, .nilp, .nilp, .nilp, .nilp, .nilp, .nilp, .nilp, 0, .sl .nil 0 0 0, []⟩
def GisAt (h : Heap) (v : V) (L : List GI) : Prop :=
 ∃ a cap z, v = .sl a L.length cap z /\ (∀ x ∈ L, RowAt h x.pv x.pl) /\ (L = [] \/ ∃ b g o rw full, a = .at b g o /\ hcells h b g = some (rw, full) /\ (∀ (i : Nat) (x : GI), L[i]? = some x -> (full.drop (o + i * 16)).take 16 = giV x) /\ o + L.length * 16 <= full.length)
theorem ne_own {v : V} {b : Nat} (h : b ∉ own v) : ∀ x ∈ own v, x ∉ [b] := fun x hx => by
 have : x ≠ b := fun e => h (e ▸ hx)
 simpa using this
def takenL (tk : GI -> Bool) : List RP -> List GI -> List GI
 | _, [] => []
 | s, x :: r => if x.key ∈ s then takenL tk s r else if tk x = true then x :: takenL tk (x.key :: s) r else takenL tk (x.key :: s) r
theorem takenL_congr {tk : GI -> Bool} : ∀ (L : List GI) {s s' : List RP}, (∀ k, k ∈ s ↔ k ∈ s') -> takenL tk s L = takenL tk s' L
 | [], _, _, _ => rfl
 | x :: r, s, s', h => by
  have h2 : ∀ k, k ∈ x.key :: s ↔ k ∈ x.key :: s' := fun k => by rw [List.mem_cons, List.mem_cons, h k]
  unfold takenL
  rw [takenL_congr r h, takenL_congr r h2]
  by_cases e : x.key ∈ s
  ·rw [if_pos e, if_pos ((h _).1 e)]
  ·rw [if_neg e, if_neg (fun k => e ((h _).2 k))]
def idxT (T : List GI) (k : RP) : Option Nat := T.findIdx? fun x => decide (x.key = k)
def atF (T : List GI) : RP -> Option Int := fun k => (idxT T k).map fun n => (n : Int)
def seenC (P : List GI) : RP -> Option Int := fun k => if k ∈ P.map GI.key then some ((P.map GI.key).count k : Nat) else none
def nsT (T : List GI) (nv : Nat -> V) : NS := ⟨fun u => (T.getD u .z).l, fun u => (T.getD u .z).i, fun u => (T.getD u .z).sq, nv⟩
theorem seenC_get (P : List GI) (k : RP) : (seenC P k).getD 0 = ((P.map GI.key).count k : Nat) := by
 unfold seenC
 split
 ·rfl
 ·rename_i h; rw [List.count_eq_zero.2 h]; rfl
theorem seenC_upd (P : List GI) (x : GI) : updM (seenC P) x.key (((P.map GI.key).count x.key : Nat) + 1 : Int) = seenC (P ++ [x]) := by
 funext j
 unfold updM seenC
 rw [List.map_append, List.count_append]
 by_cases h : j = x.key
 ·rw [if_pos h, if_pos (by simp [h]), h]
  simp
 ·rw [if_neg h]
  have hx : (x.key == j) = false := by simp [Ne.symm h]
  have hc : List.count j (List.map GI.key [x]) = 0 := by rw [List.count_eq_zero]; simp [h]
  rw [hc, Nat.add_zero]
  congr 1
  simp [h]
theorem idxT_snoc {T : List GI} {x : GI} (hx : x.key ∉ T.map GI.key) (k : RP) : idxT (T ++ [x]) k = if k = x.key then some T.length else idxT T k := by
 unfold idxT
 rw [List.findIdx?_append]
 by_cases h : k = x.key
 ·rw [if_pos h]
  have h1 : T.findIdx? (fun y => decide (y.key = k)) = none := by
   rw [List.findIdx?_eq_none_iff]
   intro y hy
   rw [decide_eq_false_iff_not]
   intro e
   exact hx (List.mem_map.2 ⟨y, hy, by rw [e, h]⟩)
  rw [h1, h]
  simp
 ·rw [if_neg h]
  have h2 : [x].findIdx? (fun y => decide (y.key = k)) = none := by
   rw [List.findIdx?_eq_none_iff]
   intro y hy
   have : y = x := by simpa using hy
   rw [this, decide_eq_false_iff_not]
   exact fun e => h e.symm
  rw [h2]; simp
theorem atF_upd {T : List GI} {x : GI} (hx : x.key ∉ T.map GI.key) : updM (atF T) x.key (T.length : Int) = atF (T ++ [x]) := by
 funext k
 unfold updM atF
 rw [idxT_snoc hx]
 split <;> rfl
theorem getD_app {T : List GI} {x : GI} {u : Nat} (h : u < T.length) : (T ++ [x]).getD u .z = T.getD u .z := by
 rw [List.getD_eq_getElem?_getD, List.getD_eq_getElem?_getD, List.getElem?_append_left h]
theorem nfl_snoc (T : List GI) (x : GI) (nv : Nat -> V) (h : nv T.length = .sl .nil 0 0 0) :
  nfl T.length (nsT T nv) (fun _ => 0) (fun _ => 0) (fun _ => none) ++ [.int .i64 x.l, .int .i64 x.i, .int .i64 x.sq, .sl .nil 0 0 0, .int .i64 0, .int .i64 0, .int .i64 (-1)] = nfl (T ++ [x]).length (nsT (T ++ [x]) nv) (fun _ => 0) (fun _ => 0) (fun _ => none) := by
 unfold nfl
 rw [List.length_append, List.length_singleton, rowsF_succ]
 congr 1
 ·apply rowsF_congr
  intro i hi
  simp only [ncell,nsT,getD_app hi]
 ·have : (T ++ [x]).getD T.length .z = x := by rw [List.getD_eq_getElem?_getD, List.getElem?_append_right (Nat.le_refl _), Nat.sub_self]; rfl
  simp only [ncell,nsT,this,h,cpI_n]
  rfl
def zW : Nat -> Nat := fun a => if a = 0 then 7 else if a = 1 then 1 else if a % 2 = 0 then 1 else 2
structure WvM (H G : Heap) (nb ma ms : Nat) (R : List Nat) (T P : List GI) (fv : Nat -> V) (fn : Nat -> Nat) (fc : Nat -> List V) : Prop where
 keep : Keeps [] H G
 fam : Fam H.length R G fv zW fn fc
 net : hcells G nb 0 = some (true, [fv 0, .map ma, .sl .nil 0 0 0])
 at_ : MapAt refKE G ma (atF T)
 seen : MapAt refKE G ms (seenC P)
 f0 : fn 0 = T.length /\ fc 0 = nfl T.length (nsT T fun u => fv (2 + 2 * u)) (fun _ => 0) (fun _ => 0) (fun _ => none)
 f1 : fn 1 = T.length /\ fc 1 = T.map GI.pv
 fcp : (T = [] /\ fv 0 = .sl .nil 0 0 0) \/ ∃ b g, fv 0 = .sl (.at b g 0) T.length T.length 7
 hR : nb ∈ R /\ ma ∈ R /\ ms ∈ R
 new : H.length <= nb /\ H.length <= ma /\ H.length <= ms
 ne : nb ≠ ma /\ nb ≠ ms /\ ma ≠ ms
 lt : ∀ x ∈ R, x < G.length
def nodeC (x : GI) : List V := [.int .i64 x.l, .int .i64 x.i, .int .i64 x.sq, .sl .nil 0 0 0, .int .i64 0, .int .i64 0, .int .i64 (-1)]
section
variable {H G : Heap} {nb ma ms : Nat} {R : List Nat} {T P : List GI} {fv : Nat -> V} {fn : Nat -> Nat} {fc : Nat -> List V}
theorem WvM.seenStep (h : WvM H G nb ma ms R T P fv fn fc) {x : GI} {B : Blk} (hm : MapAt refKE (G.set ms B) ms (seenC (P ++ [x]))) : WvM H (G.set ms B) nb ma ms R T (P ++ [x]) fv fn fc := by
 have k : Keeps [ms] G (G.set ms B) := (Keeps.refl _ _).set (.inl (by simp)) _
 refine ⟨h.keep.wide k fun j hj hlt => ?_, h.fam.keep k fun x hx => ?_, k.cells h.net (by simp [h.ne.2.1]), h.at_.keep k (by simp [h.ne.2.2]), hm, h.f0, h.f1, h.fcp, h.hR, h.new, h.ne, fun x hx => by rw [List.length_set]; exact h.lt x hx⟩
 ·have := h.new.2.2; have : j = ms := by simpa using hj
  omega
 ·have : x = ms := by simpa using hx
  rw [this]; exact .inr (.inl h.hR.2.2)
theorem WvM.nr (h : WvM H G nb ma ms R T P fv fn fc) (a : Nat) : nb ∉ own (fv a) /\ ma ∉ own (fv a) /\ ms ∉ own (fv a) :=
 ⟨fun hm => (h.fam.new a nb hm).2 h.hR.1, fun hm => (h.fam.new a ma hm).2 h.hR.2.1, fun hm => (h.fam.new a ms hm).2 h.hR.2.2⟩
theorem WvM.take (h : WvM H G nb ma ms R T P fv fn fc) {x : GI} {B : Blk} (hm : MapAt refKE (G.set ma B) ma (atF (T ++ [x]))) (hnil : ∀ a, 2 <= a -> fv a = .sl .nil 0 0 0) (hT : T.length < 100000000) :
    WvM H (vpush ((vpush (G.set ma B) (fv 0) 7 (nodeC x)).2.set nb (.cells 0 true [(vpush (G.set ma B) (fv 0) 7 (nodeC x)).1, .map ma, .sl .nil 0 0 0])) (fv 1) 1 [x.pv]).2 nb ma ms R (T ++ [x]) P
      (upd (upd fv 0 (vpush (G.set ma B) (fv 0) 7 (nodeC x)).1) 1 (vpush ((vpush (G.set ma B) (fv 0) 7 (nodeC x)).2.set nb (.cells 0 true [(vpush (G.set ma B) (fv 0) 7 (nodeC x)).1, .map ma, .sl .nil 0 0 0])) (fv 1) 1 [x.pv]).1)
      (upd (upd fn 0 (fn 0 + 1)) 1 (fn 1 + 1)) (upd (upd fc 0 (fc 0 ++ nodeC x)) 1 (fc 1 ++ [x.pv])) := by
  have k1 : Keeps [ma] G (G.set ma B) := (Keeps.refl _ _).set (.inl (by simp)) _
  have hk1 : Keeps [] H (G.set ma B) := h.keep.wide k1 fun j hj hlt => by
    have := h.new.2.1; have : j = ma := by simpa using hj
    omega
  have f1 := h.fam.keep k1 fun y hy => by have : y = ma := by simpa using hy
                                          rw [this]; exact .inr (.inl h.hR.2.1)
  have hl1 : ∀ x ∈ R, x < (G.set ma B).length := fun x hx => by rw [List.length_set]; exact h.lt x hx
  have f2 := f1.push 0 (q := nodeC x) rfl (by rw [h.f0.1]; exact hT) hk1.1 hl1
  rw [show zW 0 = 7 from rfl] at f2
  have kp := vpush_keeps (G.set ma B) (fv 0) 7 (nodeC x)
  have n0 := h.nr 0
  have hnet2 : hcells (vpush (G.set ma B) (fv 0) 7 (nodeC x)).2 nb 0 = _ := kp.cells (k1.cells h.net (by simp [h.ne.1])) n0.1
  have hat2 := hm.keep kp n0.2.1
  have hse2 := (h.seen.keep k1 (by simp [h.ne.2.2.symm])).keep kp n0.2.2
  have hk2 : Keeps [] H (vpush (G.set ma B) (fv 0) 7 (nodeC x)).2 := hk1.wide kp fun j hj hlt => by have := (h.fam.new 0 j hj).1; omega
  have hl2 : ∀ y ∈ R, y < (vpush (G.set ma B) (fv 0) 7 (nodeC x)).2.length := fun y hy => Nat.lt_of_lt_of_le (hl1 y hy) kp.1
  have hp0 : ∃ b g, (vpush (G.set ma B) (fv 0) 7 (nodeC x)).1 = .sl (.at b g 0) (T ++ [x]).length (T ++ [x]).length 7 := by
    rw [List.length_append]
    rcases h.fcp with ⟨e1, e2⟩ | ⟨b, g, e⟩
    · rw [e1, e2]; exact ⟨_, _, rfl⟩
    · rw [e]
      unfold vpush
      dsimp only
      rw [if_neg (by omega)]
      exact ⟨_, _, rfl⟩
  generalize vpush (G.set ma B) (fv 0) 7 (nodeC x) = p0 at f2 hnet2 hat2 hse2 hk2 hl2 hp0 ⊢
  clear kp
  have k3 : Keeps [nb] p0.2 (p0.2.set nb (.cells 0 true [p0.1, .map ma, .sl .nil 0 0 0])) := (Keeps.refl _ _).set (.inl (by simp)) _
  have f3 := f2.keep k3 fun y hy => by have : y = nb := by simpa using hy
                                       rw [this]; exact .inr (.inl h.hR.1)
  have hk3 := hk2.wide k3 (fun j hj hlt => by
    have := h.new.1; have : j = nb := by simpa using hj
    omega : ∀ j ∈ [nb], j < H.length -> j ∈ [])
  have hnet3 : hcells (p0.2.set nb (.cells 0 true [p0.1, .map ma, .sl .nil 0 0 0])) nb 0 = some (true, [p0.1, .map ma, .sl .nil 0 0 0]) := hcells_set_eq (hl2 nb h.hR.1)
  have hat3 := hat2.keep k3 (by simp [h.ne.1.symm])
  have hse3 := hse2.keep k3 (by simp [h.ne.2.1.symm])
  have hl3 : ∀ x ∈ R, x < (p0.2.set nb (.cells 0 true [p0.1, .map ma, .sl .nil 0 0 0])).length := fun y hy => by rw [List.length_set]; exact hl2 y hy
  generalize p0.2.set nb (.cells 0 true [p0.1, .map ma, .sl .nil 0 0 0]) = G4 at f3 hk3 hnet3 hat3 hse3 hl3 ⊢
  have e1 : upd fv 0 p0.1 1 = fv 1 := upd_ne _ _ (by omega)
  have e2 : upd fn 0 (fn 0 + 1) 1 = fn 1 := upd_ne _ _ (by omega)
  have e3 : upd fc 0 (fc 0 ++ nodeC x) 1 = fc 1 := upd_ne _ _ (by omega)
  have f4 := f3.push 1 (q := [x.pv]) rfl (by rw [e2, h.f1.1]; exact hT) hk3.1 hl3
  rw [show zW 1 = 1 from rfl, e1, e2, e3] at f4
  have kp := vpush_keeps G4 (fv 1) 1 [x.pv]
  have n1 := h.nr 1
  have e4 : ∀ v, upd (upd fv 0 p0.1) 1 v 0 = p0.1 := fun v => by rw [upd_ne _ _ (by omega), upd_eq]
  refine ⟨hk3.wide kp fun j hj hlt => by have := (h.fam.new 1 j hj).1; omega, f4, ?_, hat3.keep kp n1.2.1, hse3.keep kp n1.2.2, ?_, ?_, .inr (by rw [e4]; exact hp0), h.hR, h.new, h.ne, fun y hy => Nat.lt_of_lt_of_le (hl3 y hy) kp.1⟩
  · rw [e4]; exact kp.cells hnet3 n1.1
  · refine ⟨by rw [upd_ne _ _ (by omega), upd_eq, h.f0.1, List.length_append]; rfl, ?_⟩
    rw [upd_ne _ _ (by omega), upd_eq, h.f0.2]
    have e5 : ∀ v, (fun u => upd (upd fv 0 p0.1) 1 v (2 + 2 * u)) = fun _ => V.sl .nil 0 0 0 := fun v => by
      funext u
      rw [upd_ne _ _ (by omega), upd_ne _ _ (by omega)]
      exact hnil _ (by omega)
    have e6 : (fun u => fv (2 + 2 * u)) = fun _ => V.sl .nil 0 0 0 := by funext u; exact hnil _ (by omega)
    rw [e5, e6]
    exact nfl_snoc T x (fun _ => .sl .nil 0 0 0) rfl
  · refine ⟨by rw [upd_eq, h.f1.1, List.length_append]; rfl, ?_⟩
    rw [upd_eq, h.f1.2, List.map_append]; rfl
end
theorem ncell_updI {α : Type} (A : Nat -> α) (i : Nat) {x : α} (h : A i = x) : upd A i x = A := by
 funext u
 by_cases e : u = i
 ·rw [e, upd_eq, h]
 ·exact upd_ne _ _ e
def needF (T : List GI) (u : Nat) (l : List RP) : List Nat := l.filterMap fun r => match idxT T r with | some k => if k = u then none else some k | none => none
def lackF (T : List GI) (lt : RP -> Bool) (l : List RP) : List RP := l.filter fun r => (idxT T r).isNone && !lt r
def needsT (T : List GI) (u : Nat) : List Nat := if u < T.length then needF T u (T.getD u .z).pl else []
def lacksT (T : List GI) (lt : RP -> Bool) (u : Nat) : List RP := if u < T.length then lackF T lt (T.getD u .z).pl else []
structure W2M (H G : Heap) (nb ma xb : Nat) (R : List Nat) (T : List GI) (A : Nat -> List Nat) (B : Nat -> List RP) (fv : Nat -> V) (fn : Nat -> Nat) (fc : Nat -> List V) : Prop where
 keep : Keeps [] H G
 fam : Fam H.length R G fv zW fn fc
 net : hcells G nb 0 = some (true, [fv 0, .map ma, .sl .nil 0 0 0])
 at_ : MapAt refKE G ma (atF T)
 miss : hcells G xb 0 = some (true, arr T.length (fun u => fv (3 + 2 * u)))
 f0 : fn 0 = T.length /\ fc 0 = nfl T.length (nsT T fun u => fv (2 + 2 * u)) (fun _ => 0) (fun _ => 0) (fun _ => none)
 f1 : fn 1 = T.length /\ fc 1 = T.map GI.pv
 fcp : (T = [] /\ fv 0 = .sl .nil 0 0 0) \/ ∃ b g, fv 0 = .sl (.at b g 0) T.length T.length 7
 fA : ∀ u, fn (2 + 2 * u) = (A u).length /\ fc (2 + 2 * u) = ofN (A u)
 fB : ∀ u, fn (3 + 2 * u) = (B u).length /\ fc (3 + 2 * u) = flL (B u)
 hR : nb ∈ R /\ ma ∈ R /\ xb ∈ R
 new : H.length <= nb /\ H.length <= ma /\ H.length <= xb
 ne : nb ≠ ma /\ nb ≠ xb /\ ma ≠ xb
 lt : ∀ x ∈ R, x < G.length
section
variable {H G : Heap} {nb ma ms xb : Nat} {R : List Nat} {T P : List GI} {A : Nat -> List Nat} {B : Nat -> List RP} {fv : Nat -> V} {fn : Nat -> Nat} {fc : Nat -> List V}
theorem zW_A (u : Nat) : zW (2 + 2 * u) = 1 := by unfold zW; rw [if_neg (by omega), if_neg (by omega), if_pos (by omega)]
theorem zW_B (u : Nat) : zW (3 + 2 * u) = 2 := by unfold zW; rw [if_neg (by omega), if_neg (by omega), if_neg (by omega)]
theorem WvM.half (h : WvM H G nb ma ms R T P fv fn fc) (hnil : ∀ a, 2 <= a -> fv a = .sl .nil 0 0 0) : W2M H (G ++ [.cells 0 true (arr T.length fun _ => .sl .nil 0 0 0)]) nb ma G.length (G.length :: R) T (fun _ => []) (fun _ => []) fv fn fc := by
 have k : Keeps [] G (G ++ [.cells 0 true (arr T.length fun _ => .sl .nil 0 0 0)]) := .app _ _ _
 have hz : ∀ a, 2 <= a -> fn a = 0 /\ fc a = [] := fun a ha => by
  have := h.fam.vec a
  rw [hnil a ha] at this
  rcases this with ⟨e, _, e2⟩ | ⟨b, g, cap, full, e, _⟩
  ·exact ⟨e, e2⟩
  ·cases e
 have hgl := h.keep.1
 refine ⟨h.keep.trans k, ?_, k.cells h.net (by simp), h.at_.keep k (by simp), ?_, h.f0, h.f1, h.fcp, fun u => hz _ (by omega), fun u => hz _ (by omega), ⟨List.mem_cons_of_mem _ h.hR.1, List.mem_cons_of_mem _ h.hR.2.1, List.mem_cons_self⟩, ⟨h.new.1, h.new.2.1, hgl⟩, ⟨h.ne.1, ?_, ?_⟩, fun x hx => ?_⟩
 ·have f := h.fam.keep k (fun x hx => nomatch hx)
  exact ⟨f.vec, f.dis, fun a x hx => ⟨(f.new a x hx).1, fun hm => by
   rcases List.mem_cons.1 hm with e | e
   ·have := h.fam.lt a x hx; omega
   ·exact (f.new a x hx).2 e⟩⟩
 ·have : (fun u => fv (3 + 2 * u)) = fun _ => V.sl .nil 0 0 0 := by funext u; exact hnil _ (by omega)
  rw [this]; exact hcells_new
 ·have := h.lt nb h.hR.1; omega
 ·have := h.lt ma h.hR.2.1; omega
 ·rw [List.length_append, List.length_singleton]
  rcases List.mem_cons.1 hx with e | e
  ·omega
  ·have := h.lt x e; omega
theorem W2M.nr (h : W2M H G nb ma xb R T A B fv fn fc) (a : Nat) : nb ∉ own (fv a) /\ ma ∉ own (fv a) /\ xb ∉ own (fv a) :=
 ⟨fun hm => (h.fam.new a nb hm).2 h.hR.1, fun hm => (h.fam.new a ma hm).2 h.hR.2.1, fun hm => (h.fam.new a xb hm).2 h.hR.2.2⟩
theorem W2M.need (h : W2M H G nb ma xb R T A B fv fn fc) {i k b g : Nat} (hi : i < T.length) (hv : fv 0 = .sl (.at b g 0) T.length T.length 7) (hl : (A i).length < 100000000) :
  W2M H ((vpush G (fv (2 + 2 * i)) 1 [.int .i64 k]).2.set b (.cells g true (nfl T.length (nsT T (upd (fun u => fv (2 + 2 * u)) i (vpush G (fv (2 + 2 * i)) 1 [.int .i64 k]).1)) (fun _ => 0) (fun _ => 0) (fun _ => none)))) nb ma xb R T (upd A i (A i ++ [k])) B
   (upd fv (2 + 2 * i) (vpush G (fv (2 + 2 * i)) 1 [.int .i64 k]).1) (upd fn (2 + 2 * i) (fn (2 + 2 * i) + 1))
   (upd (upd fc (2 + 2 * i) (fc (2 + 2 * i) ++ [.int .i64 k])) 0 (nfl T.length (nsT T (upd (fun u => fv (2 + 2 * u)) i (vpush G (fv (2 + 2 * i)) 1 [.int .i64 k]).1)) (fun _ => 0) (fun _ => 0) (fun _ => none))) := by
 have f1 := h.fam.push (2 + 2 * i) (q := [.int .i64 k]) (by rw [zW_A]; rfl) (by rw [(h.fA i).1]; exact hl) h.keep.1 h.lt
 rw [zW_A] at f1
 have kp := vpush_keeps G (fv (2 + 2 * i)) 1 [.int .i64 k]
 have hk1 : Keeps [] H (vpush G (fv (2 + 2 * i)) 1 [.int .i64 k]).2 := h.keep.wide kp fun j hj hlt => by have := (h.fam.new _ j hj).1; omega
 have nr := h.nr (2 + 2 * i)
 have hnet := kp.cells h.net nr.1
 have hat := h.at_.keep kp nr.2.1
 have hmi := kp.cells h.miss nr.2.2
 have hlt : ∀ x ∈ R, x < (vpush G (fv (2 + 2 * i)) 1 [.int .i64 k]).2.length := fun y hy => Nat.lt_of_lt_of_le (h.lt y hy) kp.1
 generalize vpush G (fv (2 + 2 * i)) 1 [.int .i64 k] = p at f1 hk1 hnet hat hmi hlt ⊢
 clear kp
 have hv0 : upd fv (2 + 2 * i) p.1 0 = .sl (.at b g 0) T.length T.length 7 := by rw [upd_ne _ _ (by omega)]; exact hv
 have f0 := f1.vec 0
 have e0 : upd fn (2 + 2 * i) (fn (2 + 2 * i) + 1) 0 = T.length := by rw [upd_ne _ _ (by omega)]; exact h.f0.1
 have e1 : upd fc (2 + 2 * i) (fc (2 + 2 * i) ++ [.int .i64 k]) 0 = fc 0 := upd_ne _ _ (by omega)
 rw [show zW 0 = 7 from rfl, hv0, e0, e1] at f0
 obtain ⟨b', g', cap', full, e, hb, hf2, _, hf4, _⟩ := f0.at (by omega)
 cases e
 have hbl := hcells_lt hb
 have k2 : Keeps (own (upd fv (2 + 2 * i) p.1 0)) p.2 (p.2.set b (.cells g true (nfl T.length (nsT T (upd (fun u => fv (2 + 2 * u)) i p.1)) (fun _ => 0) (fun _ => 0) (fun _ => none)))) := (Keeps.refl _ _).set (.inl (by rw [hv0]; simp [own])) _
 have f2 := f1.put 0 k2 (v := .sl (.at b g 0) T.length T.length 7) (n := T.length) (c := nfl T.length (nsT T (upd (fun u => fv (2 + 2 * u)) i p.1)) (fun _ => 0) (fun _ => 0) (fun _ => none))
  (.inr ⟨b, g, _, _, rfl, hcells_set_eq hbl, by rw [nfl_len]; rfl, Nat.le_refl _, hf4, by rw [List.take_of_length_le (by rw [nfl_len]; exact Nat.le_refl _)]⟩) (by rw [hv0]; exact fun x hx => hx)
 have nr2 : ∀ x ∈ R, x ≠ b := fun x hx e => (f1.new 0 b (by rw [hv0]; simp [own])).2 (e ▸ hx)
 have k3 : Keeps [b] p.2 (p.2.set b (.cells g true (nfl T.length (nsT T (upd (fun u => fv (2 + 2 * u)) i p.1)) (fun _ => 0) (fun _ => 0) (fun _ => none)))) := (Keeps.refl _ _).set (.inl (by simp)) _
 have e2 : upd (upd fv (2 + 2 * i) p.1) 0 (.sl (.at b g 0) T.length T.length 7) = upd fv (2 + 2 * i) p.1 := by
  funext a
  by_cases e : a = 0
  ·rw [e, upd_eq, hv0]
  ·rw [upd_ne _ _ e]
 have e3 : upd (upd fn (2 + 2 * i) (fn (2 + 2 * i) + 1)) 0 T.length = upd fn (2 + 2 * i) (fn (2 + 2 * i) + 1) := by
  funext a
  by_cases e : a = 0
  ·rw [e, upd_eq, e0]
  ·rw [upd_ne _ _ e]
 rw [e2, e3] at f2
 have hbn : H.length <= b := (f1.new 0 b (by rw [hv0]; simp [own])).1
 have eA : (fun u => upd fv (2 + 2 * i) p.1 (2 + 2 * u)) = upd (fun u => fv (2 + 2 * u)) i p.1 := by
  funext u
  by_cases e : u = i
  ·rw [e, upd_eq, upd_eq]
  ·rw [upd_ne _ _ e, upd_ne _ _ (by omega)]
 have eB : (fun u => upd fv (2 + 2 * i) p.1 (3 + 2 * u)) = fun u => fv (3 + 2 * u) := by
  funext u; exact upd_ne _ _ (by omega)
 refine ⟨hk1.wide k3 fun j hj hlt => ?_, f2, ?_, hat.keep k3 ?_, ?_, ⟨e0, ?_⟩, ⟨?_, ?_⟩, .inr ⟨b, g, hv0⟩, fun u => ?_, fun u => ?_, h.hR, h.new, h.ne, fun y hy => by rw [List.length_set]; exact hlt y hy⟩
 ·have : j = b := by simpa using hj
  omega
 ·rw [upd_ne _ _ (by omega)]
  exact k3.cells hnet (by simpa using nr2 nb h.hR.1)
 ·simpa using nr2 ma h.hR.2.1
 ·rw [eB]; exact k3.cells hmi (by simpa using nr2 xb h.hR.2.2)
 ·rw [upd_eq, eA]
 ·rw [upd_ne _ _ (by omega)]; exact h.f1.1
 ·rw [upd_ne _ _ (by omega), upd_ne _ _ (by omega)]; exact h.f1.2
 ·rw [upd_ne _ _ (show 2 + 2 * u ≠ 0 by omega)]
  by_cases e : u = i
  ·rw [e, upd_eq, upd_eq, upd_eq, (h.fA i).1, (h.fA i).2, ofN_app, List.length_append]; exact ⟨rfl, rfl⟩
  ·rw [upd_ne _ _ e, upd_ne _ _ (by omega), upd_ne _ _ (by omega)]; exact h.fA u
 ·rw [upd_ne _ _ (show 3 + 2 * u ≠ 0 by omega), upd_ne _ _ (by omega), upd_ne _ _ (by omega)]; exact h.fB u
theorem W2M.lack (h : W2M H G nb ma xb R T A B fv fn fc) {i : Nat} (r : RP) (hl : (B i).length < 100000000) :
  W2M H ((vpush G (fv (3 + 2 * i)) 2 [.int .i64 r.1, .int .i64 r.2]).2.set xb (.cells 0 true (arr T.length (upd (fun u => fv (3 + 2 * u)) i (vpush G (fv (3 + 2 * i)) 2 [.int .i64 r.1, .int .i64 r.2]).1)))) nb ma xb R T A (upd B i (B i ++ [r]))
   (upd fv (3 + 2 * i) (vpush G (fv (3 + 2 * i)) 2 [.int .i64 r.1, .int .i64 r.2]).1) (upd fn (3 + 2 * i) (fn (3 + 2 * i) + 1)) (upd fc (3 + 2 * i) (fc (3 + 2 * i) ++ [.int .i64 r.1, .int .i64 r.2])) := by
 have f1 := h.fam.push (3 + 2 * i) (q := [.int .i64 r.1, .int .i64 r.2]) (by rw [zW_B]; rfl) (by rw [(h.fB i).1]; exact hl) h.keep.1 h.lt
 rw [zW_B] at f1
 have kp := vpush_keeps G (fv (3 + 2 * i)) 2 [.int .i64 r.1, .int .i64 r.2]
 have hk1 : Keeps [] H (vpush G (fv (3 + 2 * i)) 2 [.int .i64 r.1, .int .i64 r.2]).2 := h.keep.wide kp fun j hj hlt => by have := (h.fam.new _ j hj).1; omega
 have nr := h.nr (3 + 2 * i)
 have hnet := kp.cells h.net nr.1
 have hat := h.at_.keep kp nr.2.1
 have hlt : ∀ x ∈ R, x < (vpush G (fv (3 + 2 * i)) 2 [.int .i64 r.1, .int .i64 r.2]).2.length := fun y hy => Nat.lt_of_lt_of_le (h.lt y hy) kp.1
 generalize vpush G (fv (3 + 2 * i)) 2 [.int .i64 r.1, .int .i64 r.2] = p at f1 hk1 hnet hat hlt ⊢
 clear kp
 have k3 : Keeps [xb] p.2 (p.2.set xb (.cells 0 true (arr T.length (upd (fun u => fv (3 + 2 * u)) i p.1)))) := (Keeps.refl _ _).set (.inl (by simp)) _
 have eA : (fun u => upd fv (3 + 2 * i) p.1 (2 + 2 * u)) = fun u => fv (2 + 2 * u) := by
  funext u; exact upd_ne _ _ (by omega)
 have eB : (fun u => upd fv (3 + 2 * i) p.1 (3 + 2 * u)) = upd (fun u => fv (3 + 2 * u)) i p.1 := by
  funext u
  by_cases e : u = i
  ·rw [e, upd_eq, upd_eq]
  ·rw [upd_ne _ _ e, upd_ne _ _ (by omega)]
 refine ⟨hk1.wide k3 fun j hj hlt => ?_, f1.keep k3 fun x hx => ?_, ?_, hat.keep k3 (by simp [h.ne.2.2]), ?_, ⟨?_, ?_⟩, ⟨?_, ?_⟩, ?_, fun u => ?_, fun u => ?_, h.hR, h.new, h.ne, fun y hy => by rw [List.length_set]; exact hlt y hy⟩
 ·have := h.new.2.2; have : j = xb := by simpa using hj
  omega
 ·have : x = xb := by simpa using hx
  rw [this]; exact .inr (.inl h.hR.2.2)
 ·rw [upd_ne _ _ (by omega)]; exact k3.cells hnet (by simp [h.ne.2.1])
 ·rw [eB]; exact hcells_set_eq (hlt xb h.hR.2.2)
 ·rw [upd_ne _ _ (by omega)]; exact h.f0.1
 ·rw [upd_ne _ _ (by omega), eA]; exact h.f0.2
 ·rw [upd_ne _ _ (by omega)]; exact h.f1.1
 ·rw [upd_ne _ _ (by omega)]; exact h.f1.2
 ·rw [upd_ne _ _ (by omega)]; exact h.fcp
 ·rw [upd_ne _ _ (by omega), upd_ne _ _ (by omega)]; exact h.fA u
 ·by_cases e : u = i
  ·rw [e, upd_eq, upd_eq, upd_eq, (h.fB i).1, (h.fB i).2, flL_snoc1, List.length_append]; exact ⟨rfl, rfl⟩
  ·rw [upd_ne _ _ e, upd_ne _ _ (by omega), upd_ne _ _ (by omega)]; exact h.fB u
end
set_option maxHeartbeats 16000000 in
theorem weave_at {H : Heap} {lv : V} {L : List GI} (hL : GisAt H lv L) (hLl : L.length <= 100000) (hpll : ∀ x ∈ L, x.pl.length <= 100000) {tkv ltv : V} {tk : GI -> Bool} {lt : RP -> Bool}
  (htk : ∀ x ∈ L, ∀ G, Keeps [] H G -> D X tkv [.agg (giV x)] G = some (.bool (tk x), G)) (hltf : ∀ (r : RP) (G : Heap), Keeps [] H G -> D X ltv [.agg [.int .i64 r.1, .int .i64 r.2]] G = some (.bool (lt r), G)) :
  Ev.Ok (D X (.fn 32 []) [lv, tkv, ltv] H) fun y => ∃ H' nb ma xb R fv fn fc, y = (.tup [.ptr nb 0 0, .sl (.at xb 0 0) (takenL tk [] L).length (takenL tk [] L).length 0], H') /\
   W2M H H' nb ma xb R (takenL tk [] L) (needsT (takenL tk [] L)) (lacksT (takenL tk [] L) lt) fv fn fc /\ (∀ x ∈ takenL tk [] L, x ∈ L) := by
 refine Ok.aim fun Q hQ => ?_
 have hQ' := Hid.mk hQ
 clear hQ
 obtain ⟨la, lcap, lz, rfl, hLr, hLf⟩ := hL
 have happN := appendV_vec (t := 66) ty66 ty79 (by decide) (by decide) rfl
 have happI := appendV_vec (t := 70) ty70 ty3 (by decide) (by decide) rfl
 have happR := appendV_vec (t := 22) ty22 ty25 (by decide) (by decide) rfl
 have happO := appendV_vec (t := 50) ty50 ty22 (by decide) (by decide) rfl
 dsimp only at happN happI happR happO
 have happN' := Hid.mk happN
 have happI' := Hid.mk happI
 have happR' := Hid.mk happR
 have happO' := Hid.mk happO
 have hLr' := Hid.mk hLr
 have hpll' := Hid.mk hpll
 clear hpll
 have hLf' := Hid.mk hLf
 have htk' := Hid.mk htk
 have hltf' := Hid.mk hltf
 clear happN happI happR happO hLr hLf htk hltf
 (refine Ok.body body32 pin32 ?_; simp only [c32,Try.f32,Option.getD_some,nslot32,List.append_nil,List.map,List.replicate,List.length_cons,List.length_nil,Nat.reduceAdd,Nat.reduceSub,List.cons_append,List.nil_append])
 (repeat' (first | (simp -implicitDefEqProofs (maxSteps := 1000000) (disch := first | assumption | omega | (simp only [ZDI]; omega)) only [*,lenV,exOp_makeMap,makeMapV,G32,Za,Zb,Zc,Zd,Ze,Zf,Zg,Zh,Zi,Zj,Zk,Zl,Zm,Zn,Zo,Ja,Jb,Jc,J6,Jd,Je,rd,J7,J8,Jf,Jg,Jh,Ji,Jj,Jk,J9,Jl,Jm,wr,Jn,JA,JB,Jo,Jp,Jq,Jr,Js,Jt,Ju,Jv,Jw,Jx,Jy,Jz,J0,J1,J2,J3,J4,J5,reduceCtorEq,JC,JD,JE,JF,JG,JH,JI,JJ]) | ((with_reducible (first | apply Ok.br | apply Ok.gd | apply Ok.ld)) <;> (intro g; (try simp only [ZGS] at g); try (exfalso; omega)))))
 have hk0 : Keeps [] H (H ++ [Blk.map true [] 0, Blk.cells 0 true [V.sl .nil 0 0 0, .map H.length, V.sl .nil 0 0 0], Blk.map true [] 0]) := .app _ _ _
 have hW0 : WvM H (H ++ [Blk.map true [] 0, Blk.cells 0 true [V.sl .nil 0 0 0, .map H.length, V.sl .nil 0 0 0], Blk.map true [] 0]) (H.length + 1) H.length (H.length + 2) [H.length + 1, H.length, H.length + 2] [] [] (fun _ => .sl .nil 0 0 0) (fun _ => 0) (fun _ => []) := by
  refine ⟨hk0, .zero _ _ _ _, ?_, MapAt.empty _ _, ?_, ⟨rfl, rfl⟩, ⟨rfl, rfl⟩, .inl ⟨rfl, rfl⟩, ⟨by simp, by simp, by simp⟩, ⟨by omega, Nat.le_refl _, by omega⟩, ⟨by omega, by omega, by omega⟩, fun x hx => ?_⟩
  ·rw [hcells_ge (by omega), show H.length + 1 - H.length = 1 by omega]; exact grd_t rfl _
  ·have := MapAt.empty (K := refKE) (H ++ [Blk.map true [] 0, Blk.cells 0 true [V.sl .nil 0 0 0, .map H.length, V.sl .nil 0 0 0]]) []
   rw [List.append_assoc, show (H ++ [Blk.map true [] 0, Blk.cells 0 true [V.sl .nil 0 0 0, .map H.length, V.sl .nil 0 0 0]]).length = H.length + 2 by simp] at this
   exact this
  ·simp only [List.mem_cons,List.not_mem_nil,or_false] at hx
   simp only [List.length_append,List.length_cons,List.length_nil]
   omega
 generalize H ++ [Blk.map true [] 0, Blk.cells 0 true [V.sl .nil 0 0 0, .map H.length, V.sl .nil 0 0 0], Blk.map true [] 0] = G0 at hW0 ⊢
 obtain ⟨ma, hma⟩ : ∃ ma, H.length = ma := ⟨_, rfl⟩
 obtain ⟨nb, hnb⟩ : ∃ nb, ma + 1 = nb := ⟨_, rfl⟩
 obtain ⟨ms, hms⟩ : ∃ ms, ma + 2 = ms := ⟨_, rfl⟩
 rw [hma] at hW0 ⊢
 rw [hnb, hms] at hW0 ⊢
 have hW0' := Hid.mk hW0
 clear hW0 hk0
 refine Ok.loop [BF, BF, BF, BF, BF, BF, BF, BF, BT, BF, BF, BT, BF, BF, BF, BF, BF, BF, BF, BF, BF, BF, BF, BF, BT, BT, BT, BT, BT, BT, BT, BT, BT, BT, BT, BT, BT, BT, BT, BT, BT, BT, BT, BT, BT, BT, BT, BT, BT, BT, BT, BT, BT, BT, BT, BT, BT, BT, BT, BT, BT, BT, BT, BT, BT, BT, BT, BT, BT, BT, BT, BT, BT, BT, BT, BT, BF, BF, BF, BF, BF, BF, BF, BF, BF, BF, BF, BF, BF, BF, BF, BF, BF, BF, BF, BF, BF, BF, BF, BF, BF, BF, BF, BF, BF, BF, BF, BF, BF, BF, BF, BF, BF, BF, BF, BF, BF, BF, BF, BF, BF, BF, BF, BF, BF, BF, BF, BF, BF, BF, BF, BF, BF, BF, BF, BF, BF, BF, BF, BF, BF, BF, BF, BF, BF, BF, BF, BF, BF, BF, BF, BF] (fun q s2 => ∃ (i : Nat) (T : List GI) (fv : Nat -> V) (fn : Nat -> Nat) (fc : Nat -> List V) (w : List (Nat × List V)), q = L.length - i /\ i <= L.length /\ tv s2.e 24 = .v (.int .i64 i) /\ tv s2.e 8 = .v (fv 1) /\ s2.l = w /\ w.length = 6 /\ WvM H s2.h nb ma ms [nb, ma, ms] T (L.take i) fv fn fc /\
   (∀ a, 2 <= a -> fv a = .sl .nil 0 0 0) /\ (∀ x ∈ T, x ∈ L /\ x.key ∈ (L.take i).map GI.key) /\ T.length <= i /\ takenL tk [] L = T ++ takenL tk ((L.take i).map GI.key) (L.drop i))
  (fun y s2 => y = .exit 0 /\ ∃ (fv : Nat -> V) (fn : Nat -> Nat) (fc : Nat -> List V) (w : List (Nat × List V)), tv s2.e 8 = .v (fv 1) /\ s2.l = w /\ w.length = 6 /\ WvM H s2.h nb ma ms [nb, ma, ms] (takenL tk [] L) L fv fn fc /\ (∀ a, 2 <= a -> fv a = .sl .nil 0 0 0) /\ (∀ x ∈ takenL tk [] L, x ∈ L) /\ (takenL tk [] L).length <= L.length) (L.length - 0)
  ⟨0, [], fun _ => .sl .nil 0 0 0, fun _ => 0, fun _ => [], _, rfl, Nat.zero_le _, rfl, rfl, rfl, rfl, hW0'.out, fun _ _ => rfl, (fun x hx => nomatch hx), Nat.le_refl _, rfl⟩ ?_ ?_
 ·intro q ⟨e', l', G⟩ hW ⟨i, T, fv, fn, fc, w, hq, hi, h24, h8, hl, hwl, hM, hnil, hTL, hTi, htake⟩
  dsimp only at hW h24 h8 hl hM
  subst l'
  match w, hwl with
  | [(k1, c1), (k2, c2), (k3, c3), (k4, c4), (k5, c5), (k6, c6)], _ =>
  rw [hW.spread]
  simp only [spread_t,spread_f,spread_n,Nat.zero_add,Nat.reduceAdd,h24,h8]
  clear hW hQ' hW0'
  by_cases hi2 : i < L.length
  ·have hi3 : (i : Int) < (L.length : Int) := by omega
   have g1 : 0 <= (i : Int) /\ (i : Int) < (L.length : Int) := by omega
   rcases hLf'.out with e | ⟨b1, g1', o1, rw1, full1, rfl, hb1, hf1, ho1⟩
   ·rw [e] at hi2; simp at hi2
   obtain ⟨x, hx⟩ : ∃ x, L[i]? = some x := ⟨_, List.getElem?_eq_getElem hi2⟩
   have hxL := List.mem_of_getElem? hx
   have hfx := hf1 i x hx
   have ho2 : o1 + i * 16 + 16 <= full1.length := by omega
   have hbG := hM.keep.cells hb1 (by simp)
   have htk1 : L.take (i + 1) = L.take i ++ [x] := by rw [List.take_add_one, hx]; rfl
   have hdr : L.drop i = x :: L.drop (i + 1) := by
    rw [List.drop_eq_getElem_cons hi2]; congr 1
    rw [List.getElem?_eq_getElem hi2] at hx; exact Option.some.inj hx
   obtain ⟨pa, pc, pz, hpv, _⟩ := hLr'.out x hxL
   have hlk := fun e l => hM.seen.lookup x.key false e l
   obtain ⟨B0, st, old, hen, hes⟩ := hM.seen.entry x.key
   obtain ⟨B1, hst, hm1⟩ := hes ((((L.take i).map GI.key).count x.key : Nat) + 1 : Int)
   have hset : (G.set ms B0).set ms B1 = G.set ms B1 := List.set_set ..
   rw [hset] at hm1
   rw [seenC_upd] at hm1
   have hM1 := hM.seenStep hm1
   have hlk2 := fun e l => hM1.seen.lookup x.key false e l
   rw [seenC_get] at hlk
   rw [seenC_get, List.map_append, List.count_append] at hlk2
   have hc1 : List.count x.key (List.map GI.key [x]) = 1 := by simp
   rw [hc1] at hlk2
   obtain ⟨cn, hcn⟩ : ∃ n, List.count x.key ((L.take i).map GI.key) = n := ⟨_, rfl⟩
   rw [hcn] at hlk hlk2 hst
   have hcnl : cn <= 100000 := by
    rw [<- hcn]
    have := List.count_le_length (a := x.key) (l := (L.take i).map GI.key)
    rw [List.length_map, List.length_take] at this
    omega
   have hlkA : ∀ (e : List TV) (l : Locs), lookupV X.ty 59 (.v (.map ms)) (.v (.agg [.int .i64 x.l, .int .i64 x.i])) false ⟨e, l, G⟩ = some (.v (.int .i64 (cn : Int))) := hlk
   have henA : ∀ (e : List TV) (l : Locs), entryV X.ty 59 (.v (.map ms)) (.v (.agg [.int .i64 x.l, .int .i64 x.i])) ⟨e, l, G⟩ = some (.v (.tup [.int .i64 old, .int .i64 st]), ⟨e, l, G.set ms B0⟩) := hen
   have hlkB : ∀ (e : List TV) (l : Locs), lookupV X.ty 59 (.v (.map ms)) (.v (.agg [.int .i64 x.l, .int .i64 x.i])) false ⟨e, l, G.set ms B1⟩ = some (.v (.int .i64 ((cn : Int) + 1))) := hlk2
   have hkx := htk'.out x hxL _ hM1.keep
   unfold giV at hkx hfx
   rw [hpv] at hkx hfx
   clear hlk hen hlk2 hes hm1
   have hM1' := Hid.mk hM1
   have hnil' := Hid.mk hnil
   have hTL' := Hid.mk hTL
   have htake' := Hid.mk htake
   have htk1' := Hid.mk htk1
   have hdr' := Hid.mk hdr
   have hcn' := Hid.mk hcn
   clear hM1 hM hnil hTL htake htk1 hdr hcn hb1 hf1 ho1 hx hset
   by_cases hc0 : cn = 0
   ·have hd1 : decide ((cn : Int) + 1 = 1) = true := decide_eq_true (by omega)
    have hnk : x.key ∉ (L.take i).map GI.key := by
     have := hcn'.out
     rw [hc0] at this
     exact List.count_eq_zero.1 this
    have hnT : x.key ∉ T.map GI.key := fun hm => by
     obtain ⟨y, hy, e⟩ := List.mem_map.1 hm
     exact hnk (by rw [<- e]; exact (hTL'.out y hy).2)
    have hcg : takenL tk (x.key :: (L.take i).map GI.key) (L.drop (i + 1)) = takenL tk ((L.take (i + 1)).map GI.key) (L.drop (i + 1)) := takenL_congr _ fun k => by
     rw [htk1'.out, List.map_append, List.mem_append, List.mem_cons]
     simp only [List.map_cons,List.map_nil,List.mem_singleton]
     exact Or.comm
    cases htx : tk x with
    | false =>
     rw [htx] at hkx
     have ht2 : takenL tk [] L = T ++ takenL tk ((L.take (i + 1)).map GI.key) (L.drop (i + 1)) := by
      rw [htake'.out, hdr'.out, takenL, if_neg hnk, htx, if_neg (by simp), hcg]
     have hTL2 : ∀ y ∈ T, y ∈ L /\ y.key ∈ (L.take (i + 1)).map GI.key := fun y hy => by
      rw [htk1'.out, List.map_append]
      exact ⟨(hTL'.out y hy).1, List.mem_append.2 (.inl (hTL'.out y hy).2)⟩
     have hM2 : WvM H (G.set ms B1) nb ma ms [nb, ma, ms] T (L.take (i + 1)) fv fn fc := by rw [htk1'.out]; exact hM1'.out
     have ht2' := Hid.mk ht2
     have hTL2' := Hid.mk hTL2
     have hM2' := Hid.mk hM2
     have hc0' := Hid.mk hc0
     clear ht2 hTL2 hM2 hnk hnT hcg htx hc0
     (repeat' (first | (simp -implicitDefEqProofs (maxSteps := 1000000) (disch := first | assumption | omega | exact hgA _ | exact hgB _ | (simp only [ZDI]; omega)) only [*,lenV,exOp_lookup,exOp_mapUpdate,exOp_mapEntry,exOp_entryStore,G32,Za,Zb,Zc,Zd,Ze,Zf,Zg,Zh,Zi,Zj,Zk,Zl,Zm,Zn,Zo,Ja,Jb,Jc,J6,Jd,Je,rd,J7,J8,Jf,Jg,Jh,Ji,Jj,Jk,J9,Jl,Jm,wr,Jn,JA,JB,Jo,Jp,Jq,Jr,Js,Jt,Ju,Jv,Jw,hcells_push,Jy,Jz,J0,J1,J2,J3,J4,J5,reduceCtorEq,JC,JD,JE,JF,JG,JH,JI,JJ]) | ((with_reducible (first | apply Ok.br | apply Ok.gd | apply Ok.ld)) <;> (intro g; (try simp only [ZGS] at g); try (exfalso; omega)))))
     exact Turn.next (L.length - (i + 1)) (by omega) ⟨rfl, i + 1, T, fv, fn, fc, _, rfl, by omega, rfl, rfl, rfl, rfl, hM2'.out, hnil'.out, hTL2'.out, by omega, ht2'.out⟩
    | true =>
     rw [htx] at hkx
     have hTl : T.length < 100000000 := by omega
     obtain ⟨B3, hu3, hm3⟩ := hM1'.out.at_.update x.key (T.length : Int)
     rw [atF_upd hnT] at hm3
     have hu3A : ∀ (e : List TV) (l : Locs), updateV X.ty 59 (.v (.map ma)) (.v (.agg [.int .i64 x.l, .int .i64 x.i])) (.v (.int .i64 (T.length : Int))) ⟨e, l, G.set ms B1⟩ = some ⟨e, l, (G.set ms B1).set ma B3⟩ := hu3
     have hM3 := hM1'.out.take hm3 hnil'.out hTl
     have hne3 := hM1'.out.ne
     have hnet := hM1'.out.net
     have hnetM : hcells ((G.set ms B1).set ma B3) nb 0 = _ := (hcells_set_ne hne3.1).trans hnet
     have hv0 := hM1'.out.fam.vec 0
     rw [show zW 0 = 7 from rfl, hM1'.out.f0.1] at hv0
     have hv1 := hM1'.out.fam.vec 1
     rw [show zW 1 = 1 from rfl, hM1'.out.f1.1] at hv1
     obtain ⟨na, nc, ny, hsh0⟩ := hv0.sl
     have hk3 : Keeps [ma] (G.set ms B1) ((G.set ms B1).set ma B3) := (Keeps.refl _ _).set (.inl (by simp)) _
     have nr0 := hM1'.out.nr 0
     have nr1 := hM1'.out.nr 1
     have hv03 := hv0.keep hk3 (ne_own nr0.2.1)
     have hok0 : VecOk ((G.set ms B1).set ma B3) (fv 0) 7 := hv03.ok hTl
     have hP0 := hv03.push (q := nodeC x) hTl rfl
     obtain ⟨na9, nc9, ny9, hsh9⟩ := hP0.sl
     have hkP0 := vpush_keeps ((G.set ms B1).set ma B3) (fv 0) 7 (nodeC x)
     rw [hsh9] at hM3 hP0
     have hnbl3 : nb < ((G.set ms B1).set ma B3).length := hcells_lt hnetM
     have hv14 : VecAt ((vpush ((G.set ms B1).set ma B3) (fv 0) 7 (nodeC x)).2.set nb (.cells 0 true [V.sl na9 (T.length + 1) nc9 ny9, .map ma, .sl .nil 0 0 0])) (fv 1) 1 T.length (fc 1) := by
      have h1 := hv1.keep hk3 (ne_own nr1.2.1)
      have h2 := h1.keep hkP0 fun x hx hm => hM1'.out.fam.dis 1 0 (by omega) x hx hm
      exact h2.keep (F := [nb]) ((Keeps.refl _ _).set (.inl (by simp)) _) (ne_own nr1.1)
     have hok1 : VecOk ((vpush ((G.set ms B1).set ma B3) (fv 0) 7 (nodeC x)).2.set nb (.cells 0 true [V.sl na9 (T.length + 1) nc9 ny9, .map ma, .sl .nil 0 0 0])) (fv 1) 1 := hv14.ok hTl
     have hP1 := hv14.push (q := [x.pv]) hTl rfl
     obtain ⟨ra9, rc9, ry9, hsh1⟩ := hP1.sl
     rw [hsh1] at hM3
     have ht2 : takenL tk [] L = (T ++ [x]) ++ takenL tk ((L.take (i + 1)).map GI.key) (L.drop (i + 1)) := by
      rw [htake'.out, hdr'.out, takenL, if_neg hnk, htx, if_pos rfl, hcg, List.append_assoc]; rfl
     have hTL2 : ∀ y ∈ T ++ [x], y ∈ L /\ y.key ∈ (L.take (i + 1)).map GI.key := fun y hy => by
      rw [htk1'.out, List.map_append]
      rcases List.mem_append.1 hy with hy | hy
      ·exact ⟨(hTL'.out y hy).1, List.mem_append.2 (.inl (hTL'.out y hy).2)⟩
      ·have : y = x := by simpa using hy
       rw [this]; exact ⟨hxL, List.mem_append.2 (.inr (by simp))⟩
     have hnil2 : ∀ v w a, 2 <= a -> upd (upd fv 0 v) 1 w a = V.sl .nil 0 0 0 := fun v w a ha => by
      rw [upd_ne _ _ (by omega), upd_ne _ _ (by omega)]; exact hnil'.out a ha
     rw [<- htk1'.out] at hM3
     rw [hpv] at hsh1 hM3
     unfold nodeC at hsh9 hok0 hok1 hsh1 hM3
     have hsh0' : fv 0 = V.sl na T.length nc ny := hsh0
     have hne3' := hne3.1
     have hnr01 := nr0.1
     have ht2' := Hid.mk ht2
     have hTL2' := Hid.mk hTL2
     have hnil2' := Hid.mk hnil2
     have hc0' := Hid.mk hc0
     have happ := happN'.out
     have happ2 := happO'.out
     rw [hsh0] at hsh9 hok0 hok1 hsh1 hnr01 hnetM hnet hM3
     have hM3' := Hid.mk hM3
     have hM3s : Hid (fv 0 = V.sl na T.length nc ny) := ⟨hsh0⟩
     clear ht2 hTL2 hnil2 hM3 hnk hnT hcg htx hc0 hv0 hv1 hv03 hv14 hP0 hP1 hkP0 hk3 hu3 hm3 nr0 nr1 hne3 hsh0' hsh0
     (repeat' (first | (simp -implicitDefEqProofs (maxSteps := 1000000) (disch := first | assumption | omega | exact hgA _ | exact hgB _ | (simp only [ZDI]; omega)) only [*,lenV,exOp_lookup,exOp_mapUpdate,exOp_mapEntry,exOp_entryStore,List.drop_zero,List.take_succ_cons,List.take_zero,G32,Za,Zb,Zc,Zd,Ze,Zf,Zg,Zh,Zi,Zj,Zk,Zl,Zm,Zn,Zo,Ja,Jb,Jc,J6,Jd,Je,rd,J7,J8,Jf,Jg,Jh,Ji,Jj,Jk,J9,Jl,Jm,wr,Jn,JA,JB,Jo,Jp,Jq,Jr,Js,Jt,Ju,Jv,Jw,hcells_push,Jy,Jz,J0,J1,J2,J3,J4,J5,reduceCtorEq,JC,JD,JE,JF,JG,JH,JI,JJ]) | ((with_reducible (first | apply Ok.br | apply Ok.gd | apply Ok.ld)) <;> (intro g; (try simp only [ZGS] at g); try (exfalso; omega)))))
     exact Turn.next (L.length - (i + 1)) (by omega) ⟨rfl, i + 1, T ++ [x], _, _, _, _, rfl, by omega, rfl, by rw [upd_eq]; rfl, rfl, rfl, hM3'.out, hnil2'.out _ _, hTL2'.out, by rw [List.length_append]; exact Nat.succ_le_succ hTi, ht2'.out⟩
   ·have hd1 : decide ((cn : Int) + 1 = 1) = false := decide_eq_false (by omega)
    have hnk : x.key ∈ (L.take i).map GI.key := by
     refine Classical.byContradiction fun h => hc0 ?_
     rw [<- hcn'.out]; exact List.count_eq_zero.2 h
    have ht2 : takenL tk [] L = T ++ takenL tk ((L.take (i + 1)).map GI.key) (L.drop (i + 1)) := by
     rw [htake'.out, hdr'.out, takenL, if_pos hnk]
     congr 1
     refine takenL_congr _ fun k => ?_
     rw [htk1'.out, List.map_append, List.mem_append]
     simp only [List.map_cons,List.map_nil,List.mem_singleton]
     exact ⟨.inl, fun h => h.elim id fun e => by rw [e]; exact hnk⟩
    have hTL2 : ∀ y ∈ T, y ∈ L /\ y.key ∈ (L.take (i + 1)).map GI.key := fun y hy => by
     rw [htk1'.out, List.map_append]
     exact ⟨(hTL'.out y hy).1, List.mem_append.2 (.inl (hTL'.out y hy).2)⟩
    have hM2 : WvM H (G.set ms B1) nb ma ms [nb, ma, ms] T (L.take (i + 1)) fv fn fc := by rw [htk1'.out]; exact hM1'.out
    have ht2' := Hid.mk ht2
    have hTL2' := Hid.mk hTL2
    have hM2' := Hid.mk hM2
    clear ht2 hTL2 hM2 hnk hc0 hkx
    (repeat' (first | (simp -implicitDefEqProofs (maxSteps := 1000000) (disch := first | assumption | omega | exact hgA _ | exact hgB _ | (simp only [ZDI]; omega)) only [*,lenV,exOp_lookup,exOp_mapUpdate,exOp_mapEntry,exOp_entryStore,G32,Za,Zb,Zc,Zd,Ze,Zf,Zg,Zh,Zi,Zj,Zk,Zl,Zm,Zn,Zo,Ja,Jb,Jc,J6,Jd,Je,rd,J7,J8,Jf,Jg,Jh,Ji,Jj,Jk,J9,Jl,Jm,wr,Jn,JA,JB,Jo,Jp,Jq,Jr,Js,Jt,Ju,Jv,Jw,hcells_push,Jy,Jz,J0,J1,J2,J3,J4,J5,reduceCtorEq,JC,JD,JE,JF,JG,JH,JI,JJ]) | ((with_reducible (first | apply Ok.br | apply Ok.gd | apply Ok.ld)) <;> (intro g; (try simp only [ZGS] at g); try (exfalso; omega)))))
    exact Turn.next (L.length - (i + 1)) (by omega) ⟨rfl, i + 1, T, fv, fn, fc, _, rfl, by omega, rfl, rfl, rfl, rfl, hM2'.out, hnil'.out, hTL2'.out, by omega, ht2'.out⟩
  ·have hi3 : ¬ (i : Int) < (L.length : Int) := by omega
   have htake2 : takenL tk [] L = T := by rw [htake, List.drop_of_length_le (by omega), takenL, List.append_nil]
   rw [List.take_of_length_le (by omega)] at hM
   have hM' := Hid.mk hM
   have hnil' := Hid.mk hnil
   have htake' := Hid.mk htake2
   have hTL' := Hid.mk hTL
   clear hM hnil htake htake2 hTL
   (repeat' (first | (simp -implicitDefEqProofs (maxSteps := 1000000) (disch := first | assumption | omega | (simp only [ZDI]; omega)) only [*,lenV,G32,Za,Zb,Zc,Zd,Ze,Zf,Zg,Zh,Zi,Zj,Zk,Zl,Zm,Zn,Zo,Ja,Jb,Jc,J6,Jd,Je,rd,J7,J8,Jf,Jg,Jh,Ji,Jj,Jk,J9,Jl,Jm,wr,Jn,JA,JB,Jo,Jp,Jq,Jr,Js,Jt,Ju,Jv,Jw,Jx,Jy,Jz,J0,J1,J2,J3,J4,J5,reduceCtorEq,JC,JD,JE,JF,JG,JH,JI,JJ]) | ((with_reducible (first | apply Ok.br | apply Ok.gd | apply Ok.ld)) <;> (intro g; (try simp only [ZGS] at g); try (exfalso; omega)))))
   exact Turn.exit ⟨rfl, rfl, fv, fn, fc, _, rfl, rfl, rfl, by rw [htake'.out]; exact hM'.out, hnil'.out, by rw [htake'.out]; exact fun y hy => (hTL'.out y hy).1, by rw [htake'.out]; omega⟩
 ·intro y ⟨e', l', G⟩ hW ⟨hy, fv, fn, fc, w, h8, hl, hwl, hM, hnil, hTL, hTl⟩
  dsimp only at hW h8 hl hM
  subst l' hy
  match w, hwl with
  | [(k1, c1), (k2, c2), (k3, c3), (k4, c4), (k5, c5), (k6, c6)], _ =>
  rw [hW.spread]
  clear hW hW0'
  simp only [spread_t,spread_f,spread_n,Nat.zero_add,Nat.reduceAdd,h8]
  obtain ⟨T, hT⟩ : ∃ T, takenL tk [] L = T := ⟨_, rfl⟩
  rw [hT] at hM hTL hTl hQ'
  have hTN : T.length <= 100000 := by omega
  have hv0 := hM.fam.vec 0
  rw [hM.f0.1] at hv0
  obtain ⟨na, nc, ny, hsh0⟩ := hv0.sl
  have hv1 := hM.fam.vec 1
  rw [show zW 1 = 1 from rfl, hM.f1.1, hM.f1.2] at hv1
  obtain ⟨ra, rc, ry, hsh1⟩ := hv1.sl
  have hnet := hM.net
  rw [hsh0] at hnet
  have h2 := hM.half hnil
  obtain ⟨xb, hxb⟩ : ∃ xb, G.length = xb := ⟨_, rfl⟩
  rw [hxb] at h2
  rw [hsh1]
  have h2' := Hid.mk h2
  have hsh1' := Hid.mk hsh1
  have hTL' := Hid.mk hTL
  have hrp := Hid.mk (arr_reps (V.sl .nil 0 0 0) T.length)
  clear hM hnil hv0 hv1 h2 hsh0 hTL hT hsh1
  (repeat' (first | (simp -implicitDefEqProofs (maxSteps := 1000000) (disch := first | assumption | omega | (simp only [ZDI]; omega)) only [*,lenV,G32,Za,Zb,Zc,Zd,Ze,Zf,Zg,Zh,Zi,Zj,Zk,Zl,Zm,Zn,Zo,Ja,Jb,Jc,J6,Jd,Je,rd,J7,J8,Jf,Jg,Jh,Ji,Jj,Jk,J9,Jl,Jm,wr,Jn,JA,JB,Jo,Jp,Jq,Jr,Js,Jt,Ju,Jv,Jw,Jx,Jy,Jz,J0,J1,J2,J3,J4,J5,reduceCtorEq,JC,JD,JE,JF,JG,JH,JI,JJ]) | ((with_reducible (first | apply Ok.br | apply Ok.gd | apply Ok.ld)) <;> (intro g; (try simp only [ZGS] at g); try (exfalso; omega)))))
  rw [hrp.out]
  generalize G ++ [Blk.cells 0 true (arr T.length fun _ => V.sl .nil 0 0 0)] = G1 at h2' ⊢
  clear hnet
  generalize hR : xb :: [nb, ma, ms] = R at h2'
  clear hR
  refine Ok.loop [BF, BF, BF, BF, BF, BF, BF, BF, BF, BF, BF, BF, BT, BT, BF, BT, BT, BT, BF, BF, BF, BF, BF, BF, BF, BF, BF, BF, BF, BF, BF, BF, BF, BF, BF, BF, BF, BF, BF, BF, BF, BF, BF, BF, BF, BF, BF, BF, BF, BF, BF, BF, BF, BF, BF, BF, BF, BF, BF, BF, BF, BF, BF, BF, BF, BF, BF, BF, BF, BF, BF, BF, BF, BF, BF, BF, BF, BF, BF, BF, BF, BF, BF, BF, BT, BT, BT, BT, BT, BT, BT, BT, BT, BT, BT, BT, BT, BT, BT, BT, BT, BT, BT, BT, BT, BT, BT, BT, BT, BT, BT, BT, BT, BT, BT, BT, BT, BT, BT, BT, BT, BT, BT, BT, BT, BT, BT, BT, BT, BT, BT, BT, BT, BT, BT, BT, BT, BT, BT, BT, BT, BT, BT, BT, BT, BT, BT, BT, BT, BT, BF, BF] (fun q s2 => ∃ (i : Nat) (A : Nat -> List Nat) (B : Nat -> List RP) (fv : Nat -> V) (fn : Nat -> Nat) (fc : Nat -> List V) (w : List (Nat × List V)), q = T.length - i /\ i <= T.length /\ tv s2.e 84 = .v (.int .i64 i) /\ s2.l = w /\ w.length = 6 /\ W2M H s2.h nb ma xb R T A B fv fn fc /\ fv 1 = V.sl ra T.length rc ry /\
    (∀ u, A u = if u < i then needF T u (T.getD u .z).pl else []) /\ (∀ u, B u = if u < i then lackF T lt (T.getD u .z).pl else []))
   (fun y s2 => y = .exit 2 /\ ∃ (fv : Nat -> V) (fn : Nat -> Nat) (fc : Nat -> List V) (w : List (Nat × List V)), s2.l = w /\ w.length = 6 /\ W2M H s2.h nb ma xb R T (needsT T) (lacksT T lt) fv fn fc) (T.length - 0)
   ⟨0, fun _ => [], fun _ => [], fv, fn, fc, _, rfl, Nat.zero_le _, rfl, rfl, rfl, h2'.out, hsh1'.out, fun u => by simp, fun u => by simp⟩ ?_ ?_
  ·intro q ⟨e1, l1, G2⟩ hW ⟨i, A, B, fv, fn, fc, w, hq, hi, h84, hl, hwl, hM, hf1, hA, hB⟩
   dsimp only at hW h84 hl hM
   subst l1
   match w, hwl with
   | [(k1, c1), (k2, c2), (k3, c3), (k4, c4), (k5, c5), (k6, c6)], _ =>
   rw [hW.spread]
   simp only [spread_t,spread_f,spread_n,Nat.zero_add,Nat.reduceAdd,h84]
   clear hW hQ' h2' hsh1'
   by_cases hi2 : i < T.length
   ·have hi3 : (i : Int) < (T.length : Int) := by omega
    have g1 : 0 <= (i : Int) /\ (i : Int) < (T.length : Int) := by omega
    obtain ⟨x, hx⟩ : ∃ x, T[i]? = some x := ⟨_, List.getElem?_eq_getElem hi2⟩
    have hxd : T.getD i .z = x := by rw [List.getD_eq_getElem?_getD, hx]; rfl
    have hv1 := hM.fam.vec 1
    rw [show zW 1 = 1 from rfl, hM.f1.1, hM.f1.2, hf1] at hv1
    obtain ⟨rb, rg, rcap, rfull, re, hrb, _, _, _, hr5⟩ := hv1.at (by omega)
    cases re
    have hrx : rfull[i]? = some x.pv := by
     have h1 : (T.map GI.pv)[i]? = some x.pv := by rw [List.getElem?_map, hx]; rfl
     rw [hr5, List.getElem?_take] at h1
     split at h1
     ·exact h1
     ·cases h1
    have hrow := hLr'.out x (hTL'.out x (List.mem_of_getElem? hx))
    obtain ⟨pa, pc, pz, hpv, hpl, hpc, hpf⟩ := hrow
    have hxl := hpll'.out x (hTL'.out x (List.mem_of_getElem? hx))
    rw [hpv] at hrx
    have hA0 : A i = [] := by rw [hA i, if_neg (by omega)]
    have hB0 : B i = [] := by rw [hB i, if_neg (by omega)]
    have hM' := Hid.mk hM
    have hA' := Hid.mk hA
    have hB' := Hid.mk hB
    have hf1' := Hid.mk hf1
    have hpf' := Hid.mk hpf
    have hpv' := Hid.mk hpv
    have hxd' := Hid.mk hxd
    have hA0' := Hid.mk hA0
    have hB0' := Hid.mk hB0
    clear hM hA hB hf1 hv1 hr5 hpf hx hpv hxd hA0 hB0
    (repeat' (first | (simp -implicitDefEqProofs (maxSteps := 1000000) (disch := first | assumption | omega | (simp only [ZDI]; omega)) only [*,lenV,Nat.mul_one,Nat.zero_add,G32,Za,Zb,Zc,Zd,Ze,Zf,Zg,Zh,Zi,Zj,Zk,Zl,Zm,Zn,Zo,Ja,Jb,Jc,J6,Jd,Je,rd,J7,J8,Jf,Jg,Jh,Ji,Jj,Jk,J9,Jl,Jm,wr,Jn,JA,JB,Jo,Jp,Jq,Jr,Js,Jt,Ju,Jv,Jw,Jx,Jy,Jz,J0,J1,J2,J3,J4,J5,reduceCtorEq,JC,JD,JE,JF,JG,JH,JI,JJ]) | ((with_reducible (first | apply Ok.br | apply Ok.gd | apply Ok.ld)) <;> (intro g; (try simp only [ZGS] at g); try (exfalso; omega)))))
    clear hrb hrx
    refine Ok.loop [BF, BF, BF, BF, BF, BF, BF, BF, BF, BF, BF, BF, BF, BF, BF, BT, BT, BT, BF, BF, BF, BF, BF, BF, BF, BF, BF, BF, BF, BF, BF, BF, BF, BF, BF, BF, BF, BF, BF, BF, BF, BF, BF, BF, BF, BF, BF, BF, BF, BF, BF, BF, BF, BF, BF, BF, BF, BF, BF, BF, BF, BF, BF, BF, BF, BF, BF, BF, BF, BF, BF, BF, BF, BF, BF, BF, BF, BF, BF, BF, BF, BF, BF, BF, BF, BF, BF, BF, BF, BF, BF, BT, BT, BT, BT, BT, BT, BT, BT, BT, BT, BT, BT, BT, BT, BT, BT, BT, BT, BT, BT, BT, BT, BT, BT, BT, BT, BT, BT, BT, BT, BT, BT, BT, BT, BT, BT, BT, BT, BT, BT, BT, BT, BT, BT, BT, BT, BT, BT, BT, BT, BT, BT, BT, BT, BT, BT, BT, BT, BF, BF, BF] (fun q s2 => ∃ (j : Nat) (A2 : Nat -> List Nat) (B2 : Nat -> List RP) (fv : Nat -> V) (fn : Nat -> Nat) (fc : Nat -> List V) (w : List (Nat × List V)), q = x.pl.length - j /\ j <= x.pl.length /\ tv s2.e 91 = .v (.int .i64 j) /\ s2.l = w /\ w.length = 6 /\ W2M H s2.h nb ma xb R T A2 B2 fv fn fc /\ fv 1 = V.sl (.at rb rg 0) T.length rc 1 /\
      A2 = upd A i (needF T i (x.pl.take j)) /\ B2 = upd B i (lackF T lt (x.pl.take j)))
     (fun y s2 => y = .exit 4 /\ ∃ (fv : Nat -> V) (fn : Nat -> Nat) (fc : Nat -> List V) (w : List (Nat × List V)), s2.l = w /\ w.length = 6 /\ W2M H s2.h nb ma xb R T (upd A i (needF T i x.pl)) (upd B i (lackF T lt x.pl)) fv fn fc /\ fv 1 = V.sl (.at rb rg 0) T.length rc 1) (x.pl.length - 0)
     ⟨0, A, B, fv, fn, fc, _, rfl, Nat.zero_le _, rfl, rfl, rfl, hM'.out, hf1'.out, (ncell_updI A i (by rw [hA0'.out]; rfl)).symm, (ncell_updI B i (by rw [hB0'.out]; rfl)).symm⟩ ?_ ?_
    ·intro q2 ⟨e2, l2, G3⟩ hW ⟨j, A2, B2, fv, fn, fc, w, hq2, hj, h91, hl, hwl, hM, hf1, hA2, hB2⟩
     dsimp only at hW h91 hl hM
     subst l2
     match w, hwl with
     | [(k1, c1), (k2, c2), (k3, c3), (k4, c4), (k5, c5), (k6, c6)], _ =>
     rw [hW.spread]
     simp only [spread_t,spread_f,spread_n,Nat.zero_add,Nat.reduceAdd,h91]
     clear hW hM' hf1'
     by_cases hj2 : j < x.pl.length
     ·have hj3 : (j : Int) < (x.pl.length : Int) := by omega
      have g2 : 0 <= (j : Int) /\ (j : Int) < (x.pl.length : Int) := by omega
      rcases hpf'.out with e | ⟨pb, pg, po, prw, pfull, rfl, hpb, hpf2, hpo⟩
      ·rw [e] at hj2; simp at hj2
      obtain ⟨r, hr⟩ : ∃ r, x.pl[j]? = some r := ⟨_, List.getElem?_eq_getElem hj2⟩
      have hfr := hpf2 j r hr
      have hpo2 : po + j * 2 + 2 <= pfull.length := by omega
      have hpbG := hM.keep.cells hpb (by simp)
      have hnet := hM.net
      have hlk := fun e l => hM.at_.lookup r true e l
      have htk2 : x.pl.take (j + 1) = x.pl.take j ++ [r] := by rw [List.take_add_one, hr]; rfl
      have hAl : (A2 i).length <= j := by
       rw [hA2, upd_eq]
       unfold needF
       exact Nat.le_trans (List.length_filterMap_le _ _) (by rw [List.length_take]; omega)
      have hBl : (B2 i).length <= j := by
       rw [hB2, upd_eq]
       unfold lackF
       exact Nat.le_trans (List.length_filter_le _ _) (by rw [List.length_take]; omega)
      have hv0 := hM.fcp
      obtain ⟨b, g, hv00⟩ : ∃ b g, fv 0 = .sl (.at b g 0) T.length T.length 7 := hv0.resolve_left fun h => by rw [h.1] at hi2; simp at hi2
      rw [hv00] at hnet
      have hf0 := hM.fam.vec 0
      rw [show zW 0 = 7 from rfl, hM.f0.1, hM.f0.2, hv00] at hf0
      obtain ⟨b', g', cap', full, e0, hnb, hn2, _, _, hn5⟩ := hf0.at (by omega)
      cases e0
      have hnfull : full = nfl T.length (nsT T fun u => fv (2 + 2 * u)) (fun _ => 0) (fun _ => 0) (fun _ => none) := by
       rw [hn5, List.take_of_length_le (by rw [hn2]; exact Nat.le_refl _)]
      rw [hnfull] at hnb
      have hgv : (nfl T.length (nsT T fun u => fv (2 + 2 * u)) (fun _ => 0) (fun _ => 0) (fun _ => none))[i * 7 + 3]? = some (fv (2 + 2 * i)) := nfl_v hi2
      have x3 : i * 7 + 3 < T.length * 7 := by omega
      cases hid : idxT T r with
      | some k =>
       have hlkA : ∀ (e : List TV) (l : Locs), lookupV X.ty 59 (.v (.map ma)) (.v (.agg [.int .i64 r.1, .int .i64 r.2])) true ⟨e, l, G3⟩ = some (.v (.tup [.int .i64 (k : Int), .bool true])) := fun e l => by
        refine (hlk e l).trans ?_
        unfold atF; rw [hid]; rfl
       have hkN : k < T.length := by
        obtain ⟨h1, _⟩ := List.findIdx?_eq_some_iff_getElem.1 hid
        exact h1
       have hB22 : lackF T lt (x.pl.take (j + 1)) = lackF T lt (x.pl.take j) := by
        rw [htk2]; unfold lackF; rw [List.filter_append]; simp [hid]
       by_cases hki : k = i
       ·have hki' : (k : Int) = (i : Int) := by omega
        have hdk : decide ((k : Int) = (i : Int)) = true := decide_eq_true hki'
        have hA22 : needF T i (x.pl.take (j + 1)) = needF T i (x.pl.take j) := by
         rw [htk2]; unfold needF; rw [List.filterMap_append]; simp [hid, hki]
        have hM2' := Hid.mk hM
        have hf2' := Hid.mk hf1
        have hA2' : Hid (A2 = upd A i (needF T i (x.pl.take (j + 1)))) := ⟨by rw [hA22]; exact hA2⟩
        have hB2' : Hid (B2 = upd B i (lackF T lt (x.pl.take (j + 1)))) := ⟨by rw [hB22]; exact hB2⟩
        clear hM hf1 hA2 hB2 hlk hv0 hv00 hf0 hn5 hnfull hgv hA22 hB22 hki hki' hid htk2 hr hpf2 hpb hpo
        (repeat' (first | (simp -implicitDefEqProofs (maxSteps := 1000000) (disch := first | assumption | omega | exact hgA _ | exact hgB _ | (simp only [ZDI]; omega)) only [*,lenV,exOp_lookup,outV,G32,Za,Zb,Zc,Zd,Ze,Zf,Zg,Zh,Zi,Zj,Zk,Zl,Zm,Zn,Zo,Ja,Jb,Jc,J6,Jd,Je,rd,J7,J8,Jf,Jg,Jh,Ji,Jj,Jk,J9,Jl,Jm,wr,Jn,JA,JB,Jo,Jp,Jq,Jr,Js,Jt,Ju,Jv,Jw,hcells_push,Jy,Jz,J0,J1,J2,J3,J4,J5,reduceCtorEq,JC,JD,JE,JF,JG,JH,JI,JJ]) | ((with_reducible (first | apply Ok.br | apply Ok.gd | apply Ok.ld)) <;> (intro g; (try simp only [ZGS] at g); try (exfalso; omega)))))
        exact Turn.next (x.pl.length - (j + 1)) (by omega) ⟨rfl, j + 1, A2, B2, fv, fn, fc, _, rfl, by omega, rfl, rfl, rfl, hM2'.out, hf2'.out, hA2'.out, hB2'.out⟩
       ·have hdk : decide ((k : Int) = (i : Int)) = false := decide_eq_false (by omega)
        have hA22 : needF T i (x.pl.take (j + 1)) = needF T i (x.pl.take j) ++ [k] := by
         rw [htk2]; unfold needF; rw [List.filterMap_append]; simp [hid, hki]
        have hAl2 : (A2 i).length < 100000000 := by omega
        have hM2 := hM.need (k := k) hi2 hv00 hAl2
        have hvA := hM.fam.vec (2 + 2 * i)
        rw [zW_A, (hM.fA i).1] at hvA
        have hok : VecOk G3 (fv (2 + 2 * i)) 1 := hvA.ok hAl2
        have hP := hvA.push (q := [V.int .i64 k]) hAl2 rfl
        obtain ⟨a9, c9, y9, hsh⟩ := hP.sl
        rw [hsh] at hM2
        have nr := hM.nr (2 + 2 * i)
        have hbno : b ∉ own (fv (2 + 2 * i)) := hM.fam.dis 0 (2 + 2 * i) (by omega) b (by rw [hv00]; simp [own])
        have hnbl := hcells_lt hnb
        have hnetl := hcells_lt hnet
        have nr1 := nr.1
        have hsv := nfl_sv (S := nsT T fun u => fv (2 + 2 * u)) (mt := fun _ => 0) (lw := fun _ => 0) (cp := fun _ => none) hi2 (V.sl a9 ((A2 i).length + 1) c9 y9)
        have hnst : ({ nsT T fun u => fv (2 + 2 * u) with v := upd (nsT T fun u => fv (2 + 2 * u)).v i (V.sl a9 ((A2 i).length + 1) c9 y9) } : NS) = nsT T (upd (fun u => fv (2 + 2 * u)) i (V.sl a9 ((A2 i).length + 1) c9 y9)) := rfl
        rw [hnst] at hsv
        have hf12 : upd fv (2 + 2 * i) (V.sl a9 ((A2 i).length + 1) c9 y9) 1 = V.sl (.at rb rg 0) T.length rc 1 := by rw [upd_ne _ _ (by omega)]; exact hf1
        have hM2' := Hid.mk hM2
        have hf2' := Hid.mk hf12
        have hA2' : Hid (upd A2 i (A2 i ++ [k]) = upd A i (needF T i (x.pl.take (j + 1)))) := ⟨by
         rw [hA22, hA2, upd_eq]
         funext u
         by_cases e : u = i
         ·rw [e, upd_eq, upd_eq]
         ·rw [upd_ne _ _ e, upd_ne _ _ e, upd_ne _ _ e]⟩
        have hB2' : Hid (B2 = upd B i (lackF T lt (x.pl.take (j + 1)))) := ⟨by rw [hB22]; exact hB2⟩
        have happ := happI'.out
        clear hM hf1 hA2 hB2 hlk hv0 hv00 hf0 hn5 hnfull hA22 hB22 hki hid htk2 hr hpf2 hpb hpo hM2 hf12 hP hvA nr hnst hAl hBl
        (repeat' (first | (simp -implicitDefEqProofs (maxSteps := 1000000) (disch := first | assumption | omega | exact hgA _ | exact hgB _ | (simp only [ZDI]; omega)) only [*,lenV,exOp_lookup,outV,nfl_len,List.drop_zero,List.take_succ_cons,List.take_zero,G32,Za,Zb,Zc,Zd,Ze,Zf,Zg,Zh,Zi,Zj,Zk,Zl,Zm,Zn,Zo,Ja,Jb,Jc,J6,Jd,Je,rd,J7,J8,Jf,Jg,Jh,Ji,Jj,Jk,J9,Jl,Jm,wr,Jn,JA,JB,Jo,Jp,Jq,Jr,Js,Jt,Ju,Jv,Jw,hcells_push,Jy,Jz,J0,J1,J2,J3,J4,J5,reduceCtorEq,JC,JD,JE,JF,JG,JH,JI,JJ]) | ((with_reducible (first | apply Ok.br | apply Ok.gd | apply Ok.ld)) <;> (intro g; (try simp only [ZGS] at g); try (exfalso; omega)))))
        exact Turn.next (x.pl.length - (j + 1)) (by omega) ⟨rfl, j + 1, _, B2, _, _, _, _, rfl, by omega, rfl, rfl, rfl, hM2'.out, hf2'.out, hA2'.out, hB2'.out⟩
      | none =>
       have hlkA : ∀ (e : List TV) (l : Locs), lookupV X.ty 59 (.v (.map ma)) (.v (.agg [.int .i64 r.1, .int .i64 r.2])) true ⟨e, l, G3⟩ = some (.v (.tup [.int .i64 0, .bool false])) := fun e l => by
        refine (hlk e l).trans ?_
        unfold atF; rw [hid]; rfl
       have hlet := hltf'.out r G3 hM.keep
       have hA22 : needF T i (x.pl.take (j + 1)) = needF T i (x.pl.take j) := by
        rw [htk2]; unfold needF; rw [List.filterMap_append]; simp [hid]
       cases hltr : lt r with
       | true =>
        rw [hltr] at hlet
        have hB22 : lackF T lt (x.pl.take (j + 1)) = lackF T lt (x.pl.take j) := by
         rw [htk2]; unfold lackF; rw [List.filter_append]; simp [hltr]
        have hM2' := Hid.mk hM
        have hf2' := Hid.mk hf1
        have hA2' : Hid (A2 = upd A i (needF T i (x.pl.take (j + 1)))) := ⟨by rw [hA22]; exact hA2⟩
        have hB2' : Hid (B2 = upd B i (lackF T lt (x.pl.take (j + 1)))) := ⟨by rw [hB22]; exact hB2⟩
        clear hM hf1 hA2 hB2 hlk hv0 hv00 hf0 hn5 hnfull hgv hA22 hB22 hid htk2 hr hpf2 hpb hpo hltr
        (repeat' (first | (simp -implicitDefEqProofs (maxSteps := 1000000) (disch := first | assumption | omega | exact hgA _ | exact hgB _ | (simp only [ZDI]; omega)) only [*,lenV,exOp_lookup,outV,G32,Za,Zb,Zc,Zd,Ze,Zf,Zg,Zh,Zi,Zj,Zk,Zl,Zm,Zn,Zo,Ja,Jb,Jc,J6,Jd,Je,rd,J7,J8,Jf,Jg,Jh,Ji,Jj,Jk,J9,Jl,Jm,wr,Jn,JA,JB,Jo,Jp,Jq,Jr,Js,Jt,Ju,Jv,Jw,hcells_push,Jy,Jz,J0,J1,J2,J3,J4,J5,reduceCtorEq,JC,JD,JE,JF,JG,JH,JI,JJ]) | ((with_reducible (first | apply Ok.br | apply Ok.gd | apply Ok.ld)) <;> (intro g; (try simp only [ZGS] at g); try (exfalso; omega)))))
        exact Turn.next (x.pl.length - (j + 1)) (by omega) ⟨rfl, j + 1, A2, B2, fv, fn, fc, _, rfl, by omega, rfl, rfl, rfl, hM2'.out, hf2'.out, hA2'.out, hB2'.out⟩
       | false =>
        rw [hltr] at hlet
        have hB22 : lackF T lt (x.pl.take (j + 1)) = lackF T lt (x.pl.take j) ++ [r] := by
         rw [htk2]; unfold lackF; rw [List.filter_append]; simp [hltr, hid]
        have hBl2 : (B2 i).length < 100000000 := by omega
        have hM2 := hM.lack (i := i) r hBl2
        have hvB := hM.fam.vec (3 + 2 * i)
        rw [zW_B, (hM.fB i).1] at hvB
        have hok : VecOk G3 (fv (3 + 2 * i)) 2 := hvB.ok hBl2
        have hP := hvB.push (q := [V.int .i64 r.1, V.int .i64 r.2]) hBl2 rfl
        obtain ⟨a9, c9, y9, hsh⟩ := hP.sl
        rw [hsh] at hM2
        have nr := (hM.nr (3 + 2 * i)).2.2
        have hmiss := hM.miss
        have hgm := arr_get (F := fun u => fv (3 + 2 * u)) hi2
        have hmisl := hcells_lt hmiss
        have hf12 : upd fv (3 + 2 * i) (V.sl a9 ((B2 i).length + 1) c9 y9) 1 = V.sl (.at rb rg 0) T.length rc 1 := by rw [upd_ne _ _ (by omega)]; exact hf1
        have hM2' := Hid.mk hM2
        have hf2' := Hid.mk hf12
        have hA2' : Hid (A2 = upd A i (needF T i (x.pl.take (j + 1)))) := ⟨by rw [hA22]; exact hA2⟩
        have hB2' : Hid (upd B2 i (B2 i ++ [r]) = upd B i (lackF T lt (x.pl.take (j + 1)))) := ⟨by
         rw [hB22, hB2, upd_eq]
         funext u
         by_cases e : u = i
         ·rw [e, upd_eq, upd_eq]
         ·rw [upd_ne _ _ e, upd_ne _ _ e, upd_ne _ _ e]⟩
        have happ := happR'.out
        clear hM hf1 hA2 hB2 hlk hv0 hv00 hf0 hn5 hnfull hgv hA22 hB22 hid htk2 hr hpf2 hpb hpo hltr hM2 hf12 hP hvB hAl hBl
        (repeat' (first | (simp -implicitDefEqProofs (maxSteps := 1000000) (disch := first | assumption | omega | exact hgA _ | exact hgB _ | (simp only [ZDI]; omega)) only [*,lenV,exOp_lookup,outV,arr_set,arr_len,List.drop_zero,List.take_succ_cons,List.take_zero,G32,Za,Zb,Zc,Zd,Ze,Zf,Zg,Zh,Zi,Zj,Zk,Zl,Zm,Zn,Zo,Ja,Jb,Jc,J6,Jd,Je,rd,J7,J8,Jf,Jg,Jh,Ji,Jj,Jk,J9,Jl,Jm,wr,Jn,JA,JB,Jo,Jp,Jq,Jr,Js,Jt,Ju,Jv,Jw,hcells_push,Jy,Jz,J0,J1,J2,J3,J4,J5,reduceCtorEq,JC,JD,JE,JF,JG,JH,JI,JJ]) | ((with_reducible (first | apply Ok.br | apply Ok.gd | apply Ok.ld)) <;> (intro g; (try simp only [ZGS] at g); try (exfalso; omega)))))
        exact Turn.next (x.pl.length - (j + 1)) (by omega) ⟨rfl, j + 1, A2, _, _, _, _, _, rfl, by omega, rfl, rfl, rfl, hM2'.out, hf2'.out, hA2'.out, hB2'.out⟩
     ·have hj3 : ¬ (j : Int) < (x.pl.length : Int) := by omega
      rw [List.take_of_length_le (by omega)] at hA2 hB2
      subst hA2 hB2
      have hM2' := Hid.mk hM
      have hf2' := Hid.mk hf1
      clear hM hf1
      (repeat' (first | (simp -implicitDefEqProofs (maxSteps := 1000000) (disch := first | assumption | omega | (simp only [ZDI]; omega)) only [*,lenV,G32,Za,Zb,Zc,Zd,Ze,Zf,Zg,Zh,Zi,Zj,Zk,Zl,Zm,Zn,Zo,Ja,Jb,Jc,J6,Jd,Je,rd,J7,J8,Jf,Jg,Jh,Ji,Jj,Jk,J9,Jl,Jm,wr,Jn,JA,JB,Jo,Jp,Jq,Jr,Js,Jt,Ju,Jv,Jw,Jx,Jy,Jz,J0,J1,J2,J3,J4,J5,reduceCtorEq,JC,JD,JE,JF,JG,JH,JI,JJ]) | ((with_reducible (first | apply Ok.br | apply Ok.gd | apply Ok.ld)) <;> (intro g; (try simp only [ZGS] at g); try (exfalso; omega)))))
      exact Turn.exit ⟨rfl, rfl, fv, fn, fc, _, rfl, rfl, hM2'.out, hf2'.out⟩
    ·intro y ⟨e2, l2, G3⟩ hW ⟨hy, fv, fn, fc, w, hl, hwl, hM, hf1⟩
     dsimp only at hW hl hM
     subst l2 hy
     match w, hwl with
     | [(k1, c1), (k2, c2), (k3, c3), (k4, c4), (k5, c5), (k6, c6)], _ =>
     rw [hW.spread]
     clear hW hM' hf1'
     simp only [spread_t,spread_f,spread_n,Nat.zero_add,Nat.reduceAdd]
     have hA3 : ∀ u, upd A i (needF T i x.pl) u = if u < i + 1 then needF T u (T.getD u .z).pl else [] := fun u => by
      by_cases e : u = i
      ·rw [e, upd_eq, if_pos (by omega), hxd'.out]
      ·rw [upd_ne _ _ e, hA'.out u]
       by_cases e2 : u < i
       ·rw [if_pos e2, if_pos (by omega)]
       ·rw [if_neg e2, if_neg (by omega)]
     have hB3 : ∀ u, upd B i (lackF T lt x.pl) u = if u < i + 1 then lackF T lt (T.getD u .z).pl else [] := fun u => by
      by_cases e : u = i
      ·rw [e, upd_eq, if_pos (by omega), hxd'.out]
      ·rw [upd_ne _ _ e, hB'.out u]
       by_cases e2 : u < i
       ·rw [if_pos e2, if_pos (by omega)]
       ·rw [if_neg e2, if_neg (by omega)]
     have hA3' := Hid.mk hA3
     have hB3' := Hid.mk hB3
     have hM2' := Hid.mk hM
     have hf2' := Hid.mk hf1
     clear hM hf1 hA3 hB3
     (repeat' (first | (simp -implicitDefEqProofs (maxSteps := 1000000) (disch := first | assumption | omega | (simp only [ZDI]; omega)) only [*,lenV,G32,Za,Zb,Zc,Zd,Ze,Zf,Zg,Zh,Zi,Zj,Zk,Zl,Zm,Zn,Zo,Ja,Jb,Jc,J6,Jd,Je,rd,J7,J8,Jf,Jg,Jh,Ji,Jj,Jk,J9,Jl,Jm,wr,Jn,JA,JB,Jo,Jp,Jq,Jr,Js,Jt,Ju,Jv,Jw,Jx,Jy,Jz,J0,J1,J2,J3,J4,J5,reduceCtorEq,JC,JD,JE,JF,JG,JH,JI,JJ]) | ((with_reducible (first | apply Ok.br | apply Ok.gd | apply Ok.ld)) <;> (intro g; (try simp only [ZGS] at g); try (exfalso; omega)))))
     exact Turn.next (T.length - (i + 1)) (by omega) ⟨rfl, i + 1, _, _, fv, fn, fc, _, rfl, by omega, rfl, rfl, rfl, hM2'.out, hf2'.out, hA3'.out, hB3'.out⟩
   ·have hi3 : ¬ (i : Int) < (T.length : Int) := by omega
    have hie : i = T.length := by omega
    subst hie
    have hA3 : A = needsT T := by funext u; exact hA u
    have hB3 : B = lacksT T lt := by funext u; exact hB u
    rw [hA3, hB3] at hM
    have hM2' := Hid.mk hM
    clear hM hA hB hA3 hB3
    (repeat' (first | (simp -implicitDefEqProofs (maxSteps := 1000000) (disch := first | assumption | omega | (simp only [ZDI]; omega)) only [*,lenV,G32,Za,Zb,Zc,Zd,Ze,Zf,Zg,Zh,Zi,Zj,Zk,Zl,Zm,Zn,Zo,Ja,Jb,Jc,J6,Jd,Je,rd,J7,J8,Jf,Jg,Jh,Ji,Jj,Jk,J9,Jl,Jm,wr,Jn,JA,JB,Jo,Jp,Jq,Jr,Js,Jt,Ju,Jv,Jw,Jx,Jy,Jz,J0,J1,J2,J3,J4,J5,reduceCtorEq,JC,JD,JE,JF,JG,JH,JI,JJ]) | ((with_reducible (first | apply Ok.br | apply Ok.gd | apply Ok.ld)) <;> (intro g; (try simp only [ZGS] at g); try (exfalso; omega)))))
    exact Turn.exit ⟨rfl, rfl, fv, fn, fc, _, rfl, rfl, hM2'.out⟩
  ·intro y ⟨e1, l1, G2⟩ hW ⟨hy, fv, fn, fc, w, hl, hwl, hM⟩
   dsimp only at hW hl hM
   subst l1 hy
   match w, hwl with
   | [(k1, c1), (k2, c2), (k3, c3), (k4, c4), (k5, c5), (k6, c6)], _ =>
   rw [hW.spread]
   clear hW h2' hsh1'
   simp only [spread_t,spread_f,spread_n,Nat.zero_add,Nat.reduceAdd]
   have hM' := Hid.mk hM
   clear hM
   (repeat' (first | (simp -implicitDefEqProofs (maxSteps := 1000000) (disch := first | assumption | omega | (simp only [ZDI]; omega)) only [*,lenV,G32,Za,Zb,Zc,Zd,Ze,Zf,Zg,Zh,Zi,Zj,Zk,Zl,Zm,Zn,Zo,Ja,Jb,Jc,J6,Jd,Je,rd,J7,J8,Jf,Jg,Jh,Ji,Jj,Jk,J9,Jl,Jm,wr,Jn,JA,JB,Jo,Jp,Jq,Jr,Js,Jt,Ju,Jv,Jw,Jx,Jy,Jz,J0,J1,J2,J3,J4,J5,reduceCtorEq,JC,JD,JE,JF,JG,JH,JI,JJ]) | ((with_reducible (first | apply Ok.br | apply Ok.gd | apply Ok.ld)) <;> (intro g; (try simp only [ZGS] at g); try (exfalso; omega)))))
   exact hQ'.out _ ⟨G2, nb, ma, xb, R, fv, fn, fc, rfl, hM'.out, hTL'.out⟩
end Go.Ev
set_option maxRecDepth 100000
namespace Go.Ev
open Go.Ev renaming exPure -> Ja, ofValue -> Jb, cellsV -> Jc, load -> Jd, store -> Je, binOp -> Jf, intOp -> Jg, rdV -> Jh, vsame -> Ji, vsames -> Jj, makeSliceV -> Jk, resV -> Jl, isCell -> Jm, nilCheckV -> Jn, allV -> Jo, builtinV -> Jp, lenV -> Jq, indexAddrV -> Jr, unOp -> Js, minmaxV -> Jt, minmax -> Ju, sliceV -> Jv, asInt -> Jw, appendV -> Jx, forkB -> Jy, roY -> Jz, rwB -> J0, copyV -> J1, clearV -> J2, convV -> J3, sliceCells -> J4, shift -> J5
open Bool renaming true -> BT, false -> BF
open Nat renaming reduceEqDiff -> J6, reduceLT -> J7, reduceAdd -> J8, reduceBEq -> J9, reduceSub -> JA, reduceMul -> JB, reduceLeDiff -> JJ
open Int renaming reduceLT -> JC, reduceLE -> JD, reduceAdd -> JE, reduceSub -> JF, reduceNeg -> JG, reduceToNat -> JH, reduceEq -> JI
open Go.Proofs Go.Sort
structure NetOk (N : Nat) (nd : Nat -> List Nat) (S : NS) (cp : Nat -> Option Nat) (cs : List (List Nat)) : Prop where
 all : ∀ u, u < N -> ∃ c, cp u = some c
 dom : ∀ u c, cp u = some c -> u < N
 comps : ∀ u c, cp u = some c ↔ ∃ l, cs[c]? = some l /\ u ∈ l
 scc : ∀ u c, cp u = some c -> ∀ v, (cp v = some c ↔ Leads nd u v /\ Leads nd v u)
 closed : ∀ u c, cp u = some c -> ∀ k ∈ nd u, ∃ d, cp k = some d /\ d <= c
 csok : ∀ l ∈ cs, l.Nodup /\ l ≠ []
 srt : ∀ l ∈ cs, l.Pairwise (fun x y => aheadB S y x = false)
theorem NetOk.memN {N : Nat} {nd : Nat -> List Nat} {S : NS} {cp : Nat -> Option Nat} {cs : List (List Nat)} (h : NetOk N nd S cp cs) : ∀ l ∈ cs, ∀ i ∈ l, i < N := fun l hl i hi => by
 obtain ⟨c, hc, e⟩ := List.mem_iff_getElem.1 hl
 exact h.dom i c ((h.comps i c).2 ⟨l, by rw [List.getElem?_eq_getElem hc, e], hi⟩)
theorem NetOk.cpl {N : Nat} {nd : Nat -> List Nat} {S : NS} {cp : Nat -> Option Nat} {cs : List (List Nat)} (h : NetOk N nd S cp cs) : ∀ u d, cp u = some d -> d < cs.length := fun u d hd => by
 obtain ⟨l, hl, _⟩ := (h.comps u d).1 hd
 exact (List.getElem?_eq_some_iff.1 hl).1
theorem NetOk.hd {N : Nat} {nd : Nat -> List Nat} {S : NS} {cp : Nat -> Option Nat} {cs : List (List Nat)} (h : NetOk N nd S cp cs) {c : Nat} (hc : c < cs.length) : cp (hdc cs c) = some c := by
 rw [h.comps]
 refine ⟨cs[c], List.getElem?_eq_getElem hc, ?_⟩
 unfold hdc
 rw [List.getD_eq_getElem?_getD, List.getElem?_eq_getElem hc]
 have := (h.csok cs[c] (List.getElem_mem _)).2
 simp only [Option.getD_some]
 cases hl : cs[c] with
 | nil => exact absurd hl this
 | cons x l => simp
theorem NetOk.csl {N : Nat} {nd : Nat -> List Nat} {S : NS} {cp : Nat -> Option Nat} {cs : List (List Nat)} (h : NetOk N nd S cp cs) : cs.length <= N := by
 have := nodup_le N ((List.range cs.length).map (hdc cs)) ?_ ?_
 ·simpa using this
 ·unfold List.Nodup
  rw [List.pairwise_map]
  refine List.Pairwise.imp_of_mem (fun {a b} ha hb k e => ?_) List.nodup_range
  have h1 := h.hd (List.mem_range.1 ha)
  have h2 := h.hd (List.mem_range.1 hb)
  rw [e, h2] at h1
  exact k (Option.some.inj h1).symm
 ·intro x hx
  obtain ⟨c, hc, rfl⟩ := List.mem_map.1 hx
  exact h.dom _ c (h.hd (List.mem_range.1 hc))
theorem NetOk.ndlt {N : Nat} {nd : Nat -> List Nat} {S : NS} {cp : Nat -> Option Nat} {cs : List (List Nat)} (h : NetOk N nd S cp cs) : ∀ c d, NdR cp nd cs c d -> d < c := fun c d ⟨hne, lc, hlc, i, hi, k, hk, hd⟩ => by
 obtain ⟨d', h1, h2⟩ := h.closed i c ((h.comps i c).2 ⟨lc, hlc, hi⟩) k hk
 rw [hd] at h1
 have := Option.some.inj h1
 omega
theorem needF_lt {T : List GI} {u k : Nat} {l : List RP} (h : k ∈ needF T u l) : k < T.length := by
 unfold needF at h
 obtain ⟨r, _, hr⟩ := List.mem_filterMap.1 h
 cases hid : idxT T r with
 | none => rw [hid] at hr; cases hr
 | some k' =>
  rw [hid] at hr
  dsimp only at hr
  obtain ⟨h1, _⟩ := List.findIdx?_eq_some_iff_getElem.1 hid
  split at hr
  ·cases hr
  ·rw [<- Option.some.inj hr]; exact h1
theorem needsT_lt {T : List GI} {u k : Nat} (h : k ∈ needsT T u) : k < T.length := by
 unfold needsT at h
 split at h
 ·exact needF_lt h
 ·cases h
theorem W2M.start {H G : Heap} {nb ma xb : Nat} {R : List Nat} {T : List GI} {B : Nat -> List RP} {fv : Nat -> V} {fn : Nat -> Nat} {fc : Nat -> List V} (h : W2M H G nb ma xb R T (needsT T) B fv fn fc) (hT : T ≠ []) :
  ∃ b g, NetAt G nb b g T.length (nsT T fun u => fv (2 + 2 * u)) (fun _ => 0) (fun _ => 0) (fun _ => none) (.map ma) (.sl .nil 0 0 0) /\ (∀ u, u < T.length -> NatsAt G (fv (2 + 2 * u)) (needsT T u)) /\ (∀ u, u < T.length -> ∀ x ∈ own (fv (2 + 2 * u)), x ≠ b /\ x ≠ nb) /\ H.length <= b /\ (∀ u, ∀ x ∈ own (fv (3 + 2 * u)), x ≠ b /\ x ≠ nb) /\ xb ≠ b := by
 obtain ⟨b, g, hv⟩ : ∃ b g, fv 0 = .sl (.at b g 0) T.length T.length 7 := h.fcp.resolve_left fun k => hT k.1
 have h0 := h.fam.vec 0
 rw [show zW 0 = 7 from rfl, h.f0.1, h.f0.2, hv] at h0
 have hTl : 0 < T.length := List.length_pos_iff.2 hT
 obtain ⟨b', g', cap', full, e, hb, hn2, _, _, hn5⟩ := h0.at hTl
 cases e
 have hf : full = nfl T.length (nsT T fun u => fv (2 + 2 * u)) (fun _ => 0) (fun _ => 0) (fun _ => none) := by
  rw [hn5, List.take_of_length_le (by rw [hn2]; exact Nat.le_refl _)]
 rw [hf] at hb
 have hbo : b ∈ own (fv 0) := by rw [hv]; simp [own]
 have hnet := h.net
 rw [hv] at hnet
 refine ⟨b, g, ⟨hnet, hb, fun e => (h.fam.new 0 b hbo).2 (e ▸ h.hR.1)⟩, fun u hu => ?_, fun u hu x hx => ⟨fun e => ?_, fun e => ?_⟩, (h.fam.new 0 b hbo).1, fun u x hx => ⟨fun e => ?_, fun e => ?_⟩, fun e => ?_⟩
 ·have := h.fam.vec (2 + 2 * u)
  rw [zW_A, (h.fA u).1, (h.fA u).2] at this
  exact this.nats
 ·exact h.fam.dis 0 (2 + 2 * u) (by omega) b hbo (e ▸ hx)
 ·exact (h.fam.new _ x hx).2 (e ▸ h.hR.1)
 ·exact h.fam.dis 0 (3 + 2 * u) (by omega) b hbo (e ▸ hx)
 ·exact (h.fam.new _ x hx).2 (e ▸ h.hR.1)
 ·exact (h.fam.new 0 b hbo).2 (e ▸ h.hR.2.2)
theorem WM.done {H0 H : Heap} {nb b g N : Nat} {S : NS} {mv wv ov cv : V} {s : TS} {cl : List V} {nd : Nat -> List Nat} (h : WM H0 H nb b g N S mv s wv ov cv cl) (hT : TInv N nd s) (hW : s.W = []) (hm : ∀ u, u < N -> 0 < s.mt u) (hN : N <= 100000)
  (hnd : ∀ u, u < N -> NatsAt H0 (S.v u) (nd u)) (hown : ∀ u, u < N -> ∀ x ∈ own (S.v u), x ≠ b /\ x ≠ nb) (hdom : ∀ u, u < N -> ∀ k ∈ nd u, k < N) :
  NetOk N nd S s.cp s.cs /\ NW H nb b g N S s.mt s.lw s.cp mv cv cl nd s.cs := by
 have ok : NetOk N nd S s.cp s.cs := ⟨hT.all hW hm, fun u c hc => hT.dom u (hT.cmt u c hc), hT.comps, hT.scc, hT.closed, hT.csok, h.srt⟩
 refine ⟨ok, h.net, h.cvs, h.cls, fun u hu => (hnd u hu).keep h.keep fun x hx => by have := hown u hu x hx; simp [this.1, this.2], ok.memN, hdom, ok.all, ok.cpl, Nat.le_trans ok.csl hN, hN⟩
theorem walk_0 {H : Heap} {nb c z : Nat} {a : SA} {mv cv : V} (h : hcells H nb 0 = some (true, [.sl a 0 c z, mv, cv])) : D X (.fn 35 []) [.ptr nb 0 0] H = some (.tup [], H) := by
 refine Ok.eq ?_
 (refine Ok.body body35 pin35 ?_; simp only [c35,Try.f35,Option.getD_some,nslot35,List.append_nil,List.map,List.replicate,List.length_cons,List.length_nil,Nat.reduceAdd,Nat.reduceSub,List.cons_append,List.nil_append])
 (repeat' (first | (simp -implicitDefEqProofs (maxSteps := 1000000) (disch := first | assumption | omega | (simp only [ZDI]; omega)) only [*,lenV,G35,Za,Zb,Zc,Zd,Ze,Zf,Zg,Zh,Zi,Zj,Zk,Zl,Zm,Zn,Zo,Ja,Jb,Jc,J6,Jd,Je,rd,J7,J8,Jf,Jg,Jh,Ji,Jj,Jk,J9,Jl,Jm,wr,Jn,JA,JB,Jo,Jp,Jq,Jr,Js,Jt,Ju,Jv,Jw,Jx,Jy,Jz,J0,J1,J2,J3,J4,J5,reduceCtorEq,JC,JD,JE,JF,JG,JH,JI,JJ]) | ((with_reducible (first | apply Ok.br | apply Ok.gd | apply Ok.ld)) <;> (intro g; (try simp only [ZGS] at g); try (exfalso; omega)))))
 (refine Ok.unroll ?_; (repeat' (first | (simp -implicitDefEqProofs (maxSteps := 1000000) (disch := first | assumption | omega | (simp only [ZDI]; omega)) only [*,lenV,G35,Za,Zb,Zc,Zd,Ze,Zf,Zg,Zh,Zi,Zj,Zk,Zl,Zm,Zn,Zo,Ja,Jb,Jc,J6,Jd,Je,rd,J7,J8,Jf,Jg,Jh,Ji,Jj,Jk,J9,Jl,Jm,wr,Jn,JA,JB,Jo,Jp,Jq,Jr,Js,Jt,Ju,Jv,Jw,Jx,Jy,Jz,J0,J1,J2,J3,J4,J5,reduceCtorEq,JC,JD,JE,JF,JG,JH,JI,JJ]) | ((with_reducible (first | apply Ok.br | apply Ok.gd | apply Ok.ld)) <;> (intro g; (try simp only [ZGS] at g); try (exfalso; omega))))))
theorem sorted_0 {H : Heap} {nb bb c z : Nat} {a : SA} {mv : V} (h : hcells H nb 0 = some (true, [.sl a 0 c z, mv, .sl .nil 0 0 0])) : D X (.fn 37 []) [.ptr nb 0 0, .sl (.at bb 0 0) 0 0 0] H = some (.sl .nil 0 0 0, H ++ [.cells 0 true [], .cells 0 true []]) := by
 have hl := hcells_lt h
 refine Ok.eq ?_
 (refine Ok.body body37 pin37 ?_; simp only [c37,Try.f37,Option.getD_some,nslot37,List.append_nil,List.map,List.replicate,List.length_cons,List.length_nil,Nat.reduceAdd,Nat.reduceSub,List.cons_append,List.nil_append])
 (repeat' (first | (simp -implicitDefEqProofs (maxSteps := 1000000) (disch := first | assumption | omega | (simp only [ZDI]; omega)) only [*,lenV,reps_0,G37,Za,Zb,Zc,Zd,Ze,Zf,Zg,Zh,Zi,Zj,Zk,Zl,Zm,Zn,Zo,Ja,Jb,Jc,J6,Jd,Je,rd,J7,J8,Jf,Jg,Jh,Ji,Jj,Jk,J9,Jl,Jm,wr,Jn,JA,JB,Jo,Jp,Jq,Jr,Js,Jt,Ju,Jv,Jw,Jx,Jy,Jz,J0,J1,J2,J3,J4,J5,reduceCtorEq,JC,JD,JE,JF,JG,JH,JI,JJ]) | ((with_reducible (first | apply Ok.br | apply Ok.gd | apply Ok.ld)) <;> (intro g; (try simp only [ZGS] at g); try (exfalso; omega)))))
 (refine Ok.unroll ?_; (repeat' (first | (simp -implicitDefEqProofs (maxSteps := 1000000) (disch := first | assumption | omega | (simp only [ZDI]; omega)) only [*,lenV,G37,Za,Zb,Zc,Zd,Ze,Zf,Zg,Zh,Zi,Zj,Zk,Zl,Zm,Zn,Zo,Ja,Jb,Jc,J6,Jd,Je,rd,J7,J8,Jf,Jg,Jh,Ji,Jj,Jk,J9,Jl,Jm,wr,Jn,JA,JB,Jo,Jp,Jq,Jr,Js,Jt,Ju,Jv,Jw,Jx,Jy,Jz,J0,J1,J2,J3,J4,J5,reduceCtorEq,JC,JD,JE,JF,JG,JH,JI,JJ]) | ((with_reducible (first | apply Ok.br | apply Ok.gd | apply Ok.ld)) <;> (intro g; (try simp only [ZGS] at g); try (exfalso; omega))))))
 (refine Ok.unroll ?_; (repeat' (first | (simp -implicitDefEqProofs (maxSteps := 1000000) (disch := first | assumption | omega | (simp only [ZDI]; omega)) only [*,lenV,G37,Za,Zb,Zc,Zd,Ze,Zf,Zg,Zh,Zi,Zj,Zk,Zl,Zm,Zn,Zo,Ja,Jb,Jc,J6,Jd,Je,rd,J7,J8,Jf,Jg,Jh,Ji,Jj,Jk,J9,Jl,Jm,wr,Jn,JA,JB,Jo,Jp,Jq,Jr,Js,Jt,Ju,Jv,Jw,Jx,Jy,Jz,J0,J1,J2,J3,J4,J5,reduceCtorEq,JC,JD,JE,JF,JG,JH,JI,JJ]) | ((with_reducible (first | apply Ok.br | apply Ok.gd | apply Ok.ld)) <;> (intro g; (try simp only [ZGS] at g); try (exfalso; omega))))))
structure Sorted (T : List GI) (bl : Nat -> Bool) (fv : Nat -> V) (cp : Nat -> Option Nat) (cs : List (List Nat)) (o : List Nat) : Prop where
 ok : NetOk T.length (needsT T) (nsT T fv) cp cs
 ond : o.Nodup
 omem : ∀ c, c ∈ o ↔ c < cs.length /\ bl c = false
 gr : Greedy cs.length bl (NdR cp (needsT T) cs) (ltC (nsT T fv) cs) o
theorem takenL_len (tk : GI -> Bool) : ∀ (s : List RP) (L : List GI), (takenL tk s L).length <= L.length
 | _, [] => Nat.le_refl _
 | s, x :: r => by
  have h1 := takenL_len tk s r
  have h2 := takenL_len tk (x.key :: s) r
  unfold takenL
  split
  ·simp only [List.length_cons]; omega
  ·split
   ·simp only [List.length_cons]; omega
   ·simp only [List.length_cons]; omega
set_option maxHeartbeats 8000000 in
theorem components_at {H : Heap} {lv : V} {L : List GI} (hL : GisAt H lv L) (hLl : L.length <= 100000) (hpll : ∀ x ∈ L, x.pl.length <= 100000) :
  Ev.Ok (D X (.fn 25 []) [lv] H) fun y => ∃ H' w fv cp cs o ol, y = (w, H') /\ Keeps [] H H' /\ Sorted (takenL (fun _ => true) [] L) (fun _ => false) fv cp cs o /\ VecAt H' w 1 o.length ol /\
   (∀ (t : Nat) (v : V), ol[t]? = some v -> ∃ (c : Nat) (lc : List Nat), o[t]? = some c /\ cs[c]? = some lc /\ RowAt H' v (refsOf (nsT (takenL (fun _ => true) [] L) fv) lc)) := by
 refine Ok.aim fun Q hQ => ?_
 have hQ' := Hid.mk hQ
 clear hQ
 have htk : ∀ x ∈ L, ∀ G, Keeps [] H G -> D X (.fn 38 []) [.agg (giV x)] G = some (.bool true, G) := fun x _ G _ => by
  refine Ok.eq ?_
  unfold giV
  (refine Ok.body body38 pin38 ?_; simp only [c38,Try.f38,Option.getD_some,nslot38,List.append_nil,List.map,List.replicate,List.length_cons,List.length_nil,Nat.reduceAdd,Nat.reduceSub,List.cons_append,List.nil_append])
  (repeat' (first | (simp -implicitDefEqProofs (maxSteps := 1000000) (disch := first | assumption | omega | (simp only [ZDI]; omega)) only [*,G38,Za,Zb,Zc,Zd,Ze,Zf,Zg,Zh,Zi,Zj,Zk,Zl,Zm,Zn,Zo,Ja,Jb,Jc,J6,Jd,Je,rd,J7,J8,Jf,Jg,Jh,Ji,Jj,Jk,J9,Jl,Jm,wr,Jn,JA,JB,Jo,Jp,Jq,Jr,Js,Jt,Ju,Jv,Jw,Jx,Jy,Jz,J0,J1,J2,J3,J4,J5,reduceCtorEq,JC,JD,JE,JF,JG,JH,JI,JJ]) | ((with_reducible (first | apply Ok.br | apply Ok.gd | apply Ok.ld)) <;> (intro g; (try simp only [ZGS] at g); try (exfalso; omega)))))
 have hlt : ∀ (r : RP) (G : Heap), Keeps [] H G -> D X (.fn 39 []) [.agg [.int .i64 r.1, .int .i64 r.2]] G = some (.bool true, G) := fun r G _ => by
  refine Ok.eq ?_
  (refine Ok.body body39 pin39 ?_; simp only [c39,Try.f39,Option.getD_some,nslot39,List.append_nil,List.map,List.replicate,List.length_cons,List.length_nil,Nat.reduceAdd,Nat.reduceSub,List.cons_append,List.nil_append])
  (repeat' (first | (simp -implicitDefEqProofs (maxSteps := 1000000) (disch := first | assumption | omega | (simp only [ZDI]; omega)) only [*,G39,Za,Zb,Zc,Zd,Ze,Zf,Zg,Zh,Zi,Zj,Zk,Zl,Zm,Zn,Zo,Ja,Jb,Jc,J6,Jd,Je,rd,J7,J8,Jf,Jg,Jh,Ji,Jj,Jk,J9,Jl,Jm,wr,Jn,JA,JB,Jo,Jp,Jq,Jr,Js,Jt,Ju,Jv,Jw,Jx,Jy,Jz,J0,J1,J2,J3,J4,J5,reduceCtorEq,JC,JD,JE,JF,JG,JH,JI,JJ]) | ((with_reducible (first | apply Ok.br | apply Ok.gd | apply Ok.ld)) <;> (intro g; (try simp only [ZGS] at g); try (exfalso; omega)))))
 have hw := weave_at hL hLl hpll (tk := fun _ => true) (lt := fun _ => true) htk hlt
 obtain ⟨la, lc, lz, rfl, _⟩ := hL
 obtain ⟨T, hT⟩ : ∃ T, takenL (fun _ => true) [] L = T := ⟨_, rfl⟩
 rw [hT] at hw hQ'
 clear htk hlt
 (refine Ok.body body25 pin25 ?_; simp only [c25,Try.f25,Option.getD_some,nslot25,List.append_nil,List.map,List.replicate,List.length_cons,List.length_nil,Nat.reduceAdd,Nat.reduceSub,List.cons_append,List.nil_append])
 (repeat' (first | (simp -implicitDefEqProofs (maxSteps := 1000000) (disch := first | assumption | omega | (simp only [ZDI]; omega)) only [*,lenV,G25,Za,Zb,Zc,Zd,Ze,Zf,Zg,Zh,Zi,Zj,Zk,Zl,Zm,Zn,Zo,Ja,Jb,Jc,J6,Jd,Je,rd,J7,J8,Jf,Jg,Jh,Ji,Jj,Jk,J9,Jl,Jm,wr,Jn,JA,JB,Jo,Jp,Jq,Jr,Js,Jt,Ju,Jv,Jw,Jx,Jy,Jz,J0,J1,J2,J3,J4,J5,reduceCtorEq,JC,JD,JE,JF,JG,JH,JI,JJ]) | ((with_reducible (first | apply Ok.br | apply Ok.gd | apply Ok.ld)) <;> (intro g; (try simp only [ZGS] at g); try (exfalso; omega)))))
 refine Ok.bnd2 hw fun y G ⟨H1, nb, ma, xb, R, fv, fn, fc, hy, hM, _⟩ => ?_
 cases hy
 have hMl := hM.at_.lt
 cases hT0 : T with
 | nil =>
  subst hT0
  obtain ⟨a0, c0, z0, h0⟩ : ∃ a c z, fv 0 = .sl a 0 c z := by
   rcases hM.fcp with ⟨_, e⟩ | ⟨b, g, e⟩
   ·exact ⟨_, _, _, e⟩
   ·exact ⟨_, _, _, e⟩
  have hnet := hM.net
  rw [h0] at hnet
  have hnbl := hcells_lt hnet
  have hw0 := walk_0 hnet
  have hnet2 : hcells (G ++ [.cells 0 true []]) nb 0 = _ := (hcells_app hnbl).trans hnet
  have hs0 := sorted_0 (bb := G.length) hnet2
  have hkk := hM.keep
  have hkk' := Hid.mk hkk
  clear hM hkk h0 hMl hT
  (repeat' (first | (simp -implicitDefEqProofs (maxSteps := 1000000) (disch := first | assumption | omega | (simp only [ZDI]; omega)) only [*,lenV,reps_0,G25,Za,Zb,Zc,Zd,Ze,Zf,Zg,Zh,Zi,Zj,Zk,Zl,Zm,Zn,Zo,Ja,Jb,Jc,J6,Jd,Je,rd,J7,J8,Jf,Jg,Jh,Ji,Jj,Jk,J9,Jl,Jm,wr,Jn,JA,JB,Jo,Jp,Jq,Jr,Js,Jt,Ju,Jv,Jw,Jx,Jy,Jz,J0,J1,J2,J3,J4,J5,reduceCtorEq,JC,JD,JE,JF,JG,JH,JI,JJ]) | ((with_reducible (first | apply Ok.br | apply Ok.gd | apply Ok.ld)) <;> (intro g; (try simp only [ZGS] at g); try (exfalso; omega)))))
  refine hQ'.out _ ⟨_, _, fv, fun _ => none, [], [], [], rfl, hkk'.out.trans (.app _ _ _), ⟨⟨fun u hu => absurd hu (Nat.not_lt_zero _), (fun u c h => nomatch h), (by simp), (fun u c h => nomatch h), (fun u c h => nomatch h), (by simp), (by simp)⟩, List.nodup_nil, (by simp), fun t c h => by simp at h⟩, .zero _ _, fun t v h => by simp at h⟩
 | cons t0 tr =>
  rw [<- hT0]
  have hTne : T ≠ [] := by rw [hT0]; simp
  have hTl : T.length <= 100000 := by rw [<- hT]; exact Nat.le_trans (takenL_len _ _ _) hLl
  obtain ⟨b, g, hnet0, hnds, hown, hbn, _, _⟩ := hM.start hTne
  have hdom : ∀ u, u < T.length -> ∀ k ∈ needsT T u, k < T.length := fun u _ k hk => needsT_lt hk
  have hwalk := walk_at (nd := needsT T) hnet0 hTl hnds hown hdom
  have hkk := hM.keep
  have hMk := Hid.mk hM
  have hT0' := Hid.mk hT0
  clear hM hT0
  (repeat' (first | (simp -implicitDefEqProofs (maxSteps := 1000000) (disch := first | assumption | omega | (simp only [ZDI]; omega)) only [*,lenV,G25,Za,Zb,Zc,Zd,Ze,Zf,Zg,Zh,Zi,Zj,Zk,Zl,Zm,Zn,Zo,Ja,Jb,Jc,J6,Jd,Je,rd,J7,J8,Jf,Jg,Jh,Ji,Jj,Jk,J9,Jl,Jm,wr,Jn,JA,JB,Jo,Jp,Jq,Jr,Js,Jt,Ju,Jv,Jw,Jx,Jy,Jz,J0,J1,J2,J3,J4,J5,reduceCtorEq,JC,JD,JE,JF,JG,JH,JI,JJ]) | ((with_reducible (first | apply Ok.br | apply Ok.gd | apply Ok.ld)) <;> (intro g; (try simp only [ZGS] at g); try (exfalso; omega)))))
  refine Ok.bnd2 hwalk fun y2 G2 ⟨H2, s, wv, ov, cv, cl, hy2, hWM, hTI, hsW, hmet⟩ => ?_
  cases hy2
  obtain ⟨hok, hNW⟩ := hWM.done hTI hsW hmet hTl hnds hown hdom
  have hnet2 := hNW.net.net
  have hnbl := hcells_lt hnet2
  obtain ⟨ca, cc, cz, hcv⟩ := hNW.cvs.sl
  have hkW := hWM.keep
  have hk2 : Keeps [] G2 (G2 ++ [.cells 0 true (arr s.cs.length fun _ => .bool false)]) := .app _ _ _
  have hM0 : 0 < s.cs.length := by
   obtain ⟨c, hc⟩ := hok.all 0 (List.length_pos_iff.2 hTne)
   have := hok.cpl 0 c hc
   omega
  have hsorted := sorted_at (bb := G2.length) (bl := fun _ => false) (hNW.keep hk2) (fun l hl => (hok.csok l hl).2) (fun l hl => Nat.le_trans (nodup_le _ l (hok.csok l hl).1 (hok.memN l hl)) hTl) hM0 hcells_new hok.ndlt (fun _ _ _ _ => rfl)
  have hrp := arr_reps (V.bool false) s.cs.length
  subst hcv
  have hk1 : Keeps [] H G2 := hkk.wide hkW fun j hj hlt => by
   simp only [List.mem_cons,List.not_mem_nil,or_false] at hj
   have := hMk.out.new.1
   omega
  have hNW' := Hid.mk hNW
  have hok' := Hid.mk hok
  have hk1' := Hid.mk hk1
  have hk2' := Hid.mk hk2
  clear hWM hTI hsW hmet hNW hok hkW hkk hk1 hk2 hnet0 hnds hown hdom hwalk
  have hcsl := hok'.out.csl
  (repeat' (first | (simp -implicitDefEqProofs (maxSteps := 1000000) (disch := first | assumption | omega | (simp only [ZDI]; omega)) only [*,lenV,G25,Za,Zb,Zc,Zd,Ze,Zf,Zg,Zh,Zi,Zj,Zk,Zl,Zm,Zn,Zo,Ja,Jb,Jc,J6,Jd,Je,rd,J7,J8,Jf,Jg,Jh,Ji,Jj,Jk,J9,Jl,Jm,wr,Jn,JA,JB,Jo,Jp,Jq,Jr,Js,Jt,Ju,Jv,Jw,Jx,Jy,Jz,J0,J1,J2,J3,J4,J5,reduceCtorEq,JC,JD,JE,JF,JG,JH,JI,JJ]) | ((with_reducible (first | apply Ok.br | apply Ok.gd | apply Ok.ld)) <;> (intro g; (try simp only [ZGS] at g); try (exfalso; omega)))))
  refine Ok.bnd2 hsorted fun y3 G3 ⟨H3, w, o, ol, hy3, hk3, hv3, ho1, ho2, ho3, ho4⟩ => ?_
  cases hy3
  have hf := hQ'.out (y3, G3) ⟨G3, y3, _, s.cp, s.cs, o, ol, rfl, (hk1'.out.trans hk2'.out).trans hk3, ⟨hok'.out, ho1, ho2, ho3⟩, hv3, ho4⟩
  have hf' := Hid.mk hf
  clear hf hk3 hv3 ho1 ho2 ho3 ho4
  (repeat' (first | (simp -implicitDefEqProofs (maxSteps := 1000000) (disch := first | assumption | omega | (simp only [ZDI]; omega)) only [*,lenV,G25,Za,Zb,Zc,Zd,Ze,Zf,Zg,Zh,Zi,Zj,Zk,Zl,Zm,Zn,Zo,Ja,Jb,Jc,J6,Jd,Je,rd,J7,J8,Jf,Jg,Jh,Ji,Jj,Jk,J9,Jl,Jm,wr,Jn,JA,JB,Jo,Jp,Jq,Jr,Js,Jt,Ju,Jv,Jw,Jx,Jy,Jz,J0,J1,J2,J3,J4,J5,reduceCtorEq,JC,JD,JE,JF,JG,JH,JI,JJ]) | ((with_reducible (first | apply Ok.br | apply Ok.gd | apply Ok.ld)) <;> (intro g; (try simp only [ZGS] at g); try (exfalso; omega)))))
  exact hf'.out
end Go.Ev
