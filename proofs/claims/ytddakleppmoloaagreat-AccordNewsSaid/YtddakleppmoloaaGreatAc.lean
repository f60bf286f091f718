/-
Texts of this claim, one behind the other.
-/
import Derived.Test.YtddakleppmoloaaGreatAb
import Derived.OpenShut
import Derived.ChangeOld
import Derived.ProofKit
import Derived.Carry
import Derived.ChangeCalls
import Derived.Test.YtddakleppmoloaaGreatProg
import Derived.Maps.RangeRun
import Derived.LoopNIn
import Derived.KernelRfl
set_option linter.unusedSimpArgs false
set_option linter.unusedVariables false
set_option maxRecDepth 100000
namespace Go.Ev
def Even {α : Type} (x : Nat -> Option α) (r : α) : Prop := ∃ n, ∀ m, n <= m -> x m = some r
theorem Even.const {α : Type} {x : Option α} {r : α} (h : x = some r) : Even (fun _ => x) r := ⟨0, fun _ _ => h⟩
theorem Even.bnd {α β : Type} {x : Nat -> Option α} {a : α} {k : Nat -> α -> Option β} {r : β} (h : Even x a) (hk : Even (fun m => k m a) r) : Even (fun m => Ev.bnd (x m) (k m)) r := by
  obtain ⟨n1, h1⟩ := h
  obtain ⟨n2, h2⟩ := hk
  refine ⟨max n1 n2, fun m hm => ?_⟩
  show Ev.bnd (x m) (k m) = some r
  rw [h1 m (by omega)]
  exact h2 m (by omega)
theorem Even.unique {α : Type} {x : Nat -> Option α} {r r' : α} (h : Even x r) (h' : Even x r') : r = r' := by
  obtain ⟨n1, h1⟩ := h
  obtain ⟨n2, h2⟩ := h'
  have e1 := h1 (max n1 n2) (by omega)
  have e2 := h2 (max n1 n2) (by omega)
  rw [e1] at e2; injection e2
theorem Even.of_eq {α : Type} {x y : Nat -> Option α} {r : α} (h : Even x r) (e : ∀ m, y m = x m) : Even y r := by
  obtain ⟨n, hn⟩ := h
  exact ⟨n, fun m hm => (e m).trans (hn m hm)⟩
theorem bnd_get {α β : Type} {x : Option α} {k : α -> Option β} {r : β} (h : bnd x k = some r) : ∃ a, x = some a /\ k a = some r := by
  cases x with
  | none => cases h
  | some a => exact ⟨a, rfl, h⟩
def LimC (Cm : Nat -> CallSem) (C : CallSem) : Prop := ∀ fv a h r, C fv a h = some r -> Even (fun m => Cm m fv a h) r
def LimL (Lm : Nat -> LoopSem) (L : LoopSem) : Prop := ∀ c s r, L c s = some r -> Even (fun m => Lm m c s) r
section
variable {X : Env} {Cm : Nat -> CallSem} {C : CallSem} {Lm : Nat -> LoopSem} {L : LoopSem} {f : FuncId}
theorem exOp_lim (hC : LimC Cm C) {o : Oper} {s s' : St} (h : exOp X C f o s = some s') : Even (fun m => exOp X (Cm m) f o s) s' := by
  unfold exOp at h ⊢
  split at h
  · rename_i g args ats ho
    split at h
    · rename_i fv hg
      obtain ⟨vs, hvs, h1⟩ := bnd_get h
      obtain ⟨p, hp, h2⟩ := bnd_get h1
      exact Even.bnd (.const hvs) (Even.bnd (hC _ _ _ _ hp) (.const h2))
    · cases h
  · rename_i hno
    exact .const h
theorem step_lim (hC : LimC Cm C) {o : Oper} {s s' : St} {b : Bool} {ls : Bool -> Bool} {y : Option St} (h : cnd b (cnd (ls b) (exOp X C f o s) none) y = some s') :
    Even (fun m => cnd b (cnd (ls b) (exOp X (Cm m) f o s) none) y) s' := by
  cases b with
  | false => exact .const h
  | true =>
    revert h
    cases ls true with
    | false => exact fun h => .const h
    | true => exact fun h => exOp_lim hC h
theorem exOps_lim (hC : LimC Cm C) {ops : List Oper} : ∀ {l : List Oper} {s s' : St}, exOps X C f ops l s = some s' -> Even (fun m => exOps X (Cm m) f ops l s) s'
  | [], s, s', h => .const h
  | o :: r, s, s', h => by
    simp only [exOps] at h ⊢
    obtain ⟨b, hb, h1⟩ := bnd_get h
    obtain ⟨s1, hs1, h2⟩ := bnd_get h1
    refine Even.bnd (.const hb) (Even.bnd ?_ (exOps_lim hC h2))
    cases b with
    | false => exact .const hs1
    | true => exact exOp_lim hC hs1
theorem exPlan_lim (hC : LimC Cm C) {ops : List Oper} : ∀ {l : List PE} {s s' : St}, exPlan X C f ops l s = some s' -> Even (fun m => exPlan X (Cm m) f ops l s) s'
  | [], s, s', h => .const h
  | p :: r, s, s', h => by
    simp only [exPlan] at h ⊢
    split at h
    · rename_i o ho
      obtain ⟨b, hb, h1⟩ := bnd_get h
      obtain ⟨s1, hs1, h2⟩ := bnd_get h1
      refine Even.bnd (.const hb) (Even.bnd (a := s1) ?_ ?_)
      · exact step_lim (ls := fun _ => leadsT s.e p.2.1 o.op.operands.toList) hC hs1
      · revert h2
        cases p.2.2.all (again X ops s1) with
        | false => intro h2; cases h2
        | true => exact fun h2 => exPlan_lim hC h2
    · cases h
theorem evC_lim (hC : LimC Cm C) (hL : LimL Lm L) : ∀ (c : Code) {R : Type} (s : St) (k : Ex -> St -> Option R) (km : Nat -> Ex -> St -> Option R) (r : R), evC X C L f c s k = some r ->
    (∀ x s', k x s' = some r -> Even (fun m => km m x s') r) -> Even (fun m => evC X (Cm m) (Lm m) f c s (km m)) r := by
  intro c
  induction c with
  | skip => intro R s k km r h hk; exact hk _ _ h
  | label l => intro R s k km r h hk; exact hk _ _ h
  | exit id => intro R s k km r h hk; exact hk _ _ h
  | ret => intro R s k km r h hk; exact hk _ _ h
  | goto l => intro R s k km r h hk; cases h
  | refuse w => intro R s k km r h hk; cases h
  | scope c ih =>
    intro R s k km r h hk
    simp only [evC] at h ⊢
    exact ih s k km r h hk
  | region id ops draw =>
    intro R s k km r h hk
    simp only [evC] at h ⊢
    cases draw with
    | true =>
      obtain ⟨s1, h1, h2⟩ := bnd_get (x := exPlan X C f ops.toList (X.plan f id) s) h
      exact Even.bnd (exPlan_lim hC h1) (hk _ _ h2)
    | false =>
      obtain ⟨s1, h1, h2⟩ := bnd_get (x := exOps X C f ops.toList ops.toList s) h
      exact Even.bnd (exOps_lim hC h1) (hk _ _ h2)
  | seq a b iha ihb =>
    intro R s k km r h hk
    simp only [evC] at h ⊢
    refine iha s _ _ r h fun x s' hx => ?_
    cases x with
    | normal => exact ihb s' k km r hx hk
    | exit id => exact hk _ _ hx
    | ret => exact hk _ _ hx
  | cond o a b iha ihb =>
    intro R s k km r h hk
    simp only [evC] at h ⊢
    split at h
    · rename_i t ho
      cases t with
      | true => exact iha s k km r h hk
      | false => exact ihb s k km r h hk
    · cases h
  | block id c ih =>
    intro R s k km r h hk
    simp only [evC] at h ⊢
    refine ih s _ _ r h fun x s' hx => ?_
    cases x with
    | normal => exact hk _ _ hx
    | exit id' =>
      have hx' : cnd (decide (id' = id)) (k .normal s') (k (.exit id') s') = some r := hx
      show Even (fun m => cnd (decide (id' = id)) (km m .normal s') (km m (.exit id') s')) r
      revert hx'
      cases decide (id' = id) with
      | true => exact fun hx => hk _ _ hx
      | false => exact fun hx => hk _ _ hx
    | ret => exact hk _ _ hx
  | loop c _ =>
    intro R s k km r h hk
    simp only [evC] at h ⊢
    obtain ⟨p, hp, h2⟩ := bnd_get h
    exact Even.bnd (hL _ _ _ hp) (hk _ _ h2)
  | rangeFunc g ps a b _ _ =>
    intro R s k km r h hk
    simp only [evC] at h ⊢
    split at h
    · rename_i gf cap hg
      obtain ⟨p, hp, h2⟩ := bnd_get h
      refine Even.bnd (hC _ _ _ _ hp) ?_
      unfold endRF at h2 ⊢
      split at h2
      · rename_i lr hlr
        unfold grd at h2 ⊢
        split at h2
        · rename_i hg
          simp only [if_pos hg]
          split at h2
          · exact hk _ _ h2
          · exact hk _ _ h2
          · exact hk _ _ h2
          · cases h2
        · cases h2
      · cases h2
    · cases h
theorem evBody_lim {Lf : Nat -> FuncId -> LoopSem} {L : FuncId -> LoopSem} (hC : LimC Cm C) (hL : ∀ f, LimL (fun m => Lf m f) (L f)) {args : List V} {h : Heap} {r : V × Heap}
    (hh : evBody X C L f args h = some r) : Even (fun m => evBody X (Cm m) (Lf m) f args h) r := by
  unfold evBody at hh ⊢
  split at hh
  · refine evC_lim hC (hL f) _ _ _ _ r hh fun x s' hx => ?_
    exact .const hx
  · cases hh
theorem evRound_lim {Lf : Nat -> FuncId -> LoopSem} {L : FuncId -> LoopSem} (hC : LimC Cm C) (hL : ∀ f, LimL (fun m => Lf m f) (L f)) {l : Nat} {args : List V} {h : Heap} {r : V × Heap}
    (hh : evRound X C L l args h = some r) : Even (fun m => evRound X (Cm m) (Lf m) l args h) r := by
  unfold evRound at hh ⊢
  split at hh
  · rename_i lr hlr
    unfold grd at hh ⊢
    split at hh
    · rename_i hg
      simp only [if_pos hg]
      refine evC_lim hC (hL lr.fn) _ _ _ _ r hh fun x s' hx => ?_
      cases x with
      | normal =>
        obtain ⟨s2, h2, h3⟩ := bnd_get hx
        refine Even.bnd (.const h2) ?_
        exact evC_lim hC (hL lr.fn) _ _ _ _ r h3 fun x s' hx => .const hx
      | exit id => cases hx
      | ret => cases hx
    · cases hh
  · cases hh
theorem loopBody_lim {Am : Nat -> LoopSem} {A : LoopSem} (hC : LimC Cm C) (hL : LimL Lm L) (hA : LimL Am A) {c : Code} {s : St} {r : Ex × St} (hh : loopBody X C L A f c s = some r) :
    Even (fun m => loopBody X (Cm m) (Lm m) (Am m) f c s) r := by
  unfold loopBody at hh ⊢
  refine evC_lim hC hL c s _ _ r hh fun x s' hx => ?_
  cases x with
  | normal => exact hA _ _ _ hx
  | exit id => exact .const hx
  | ret => exact .const hx
end
open Classical in
noncomputable def last {α : Type} (x : Nat -> Option α) : Option α := if h : ∃ r, Even x r then some h.choose else none
theorem last_some {α : Type} {x : Nat -> Option α} {r : α} : last x = some r ↔ Even x r := by
  unfold last
  split
  · rename_i h
    constructor
    · intro e; injection e with e; exact e ▸ h.choose_spec
    · intro e; rw [h.choose_spec.unique e]
  · rename_i h
    constructor
    · intro e; cases e
    · intro e; exact absurd ⟨r, e⟩ h
noncomputable def D (X : Env) : CallSem := fun fv a h => last fun m => callN X m fv a h
noncomputable def Lo (X : Env) (f : FuncId) : LoopSem := fun c s => last fun m => loopN X (D X) f m c s
theorem limD (X : Env) : LimC (callN X) (D X) := fun _ _ _ _ h => last_some.1 h
theorem loopN_lim {X : Env} {f : FuncId} : ∀ (n : Nat) (c : Code) (s : St) (r : Ex × St), loopN X (D X) f n c s = some r -> ∀ g : Nat -> Nat, (∀ b, ∃ N, ∀ m, N <= m -> b <= g m) ->
    Even (fun m => loopN X (callN X m) f (g m) c s) r
  | 0, c, s, r, h, g, hg => by cases h
  | n + 1, c, s, r, h, g, hg => by
    have hg' : ∀ b, ∃ N, ∀ m, N <= m -> b <= g m - 1 := fun b => let ⟨N, hN⟩ := hg (b + 1); ⟨N, fun m hm => by have := hN m hm; omega⟩
    have ih : LimL (fun m => loopN X (callN X m) f (g m - 1)) (loopN X (D X) f n) := fun c s r h => loopN_lim n c s r h (fun m => g m - 1) hg'
    obtain ⟨N, hN⟩ := loopBody_lim (limD X) ih ih h
    obtain ⟨N', hN'⟩ := hg 1
    refine ⟨max N N', fun m hm => ?_⟩
    have h1 := hN m (by omega)
    have h2 := hN' m (by omega)
    obtain ⟨q, hq⟩ : ∃ q, g m = q + 1 := ⟨g m - 1, by omega⟩
    simp only [hq,Nat.add_sub_cancel] at h1 ⊢
    exact h1
theorem limL (X : Env) (f : FuncId) : LimL (fun m => loopN X (callN X m) f m) (Lo X f) := fun c s r h => by
  obtain ⟨n, hn⟩ := last_some.1 h
  exact loopN_lim n c s r (hn n (Nat.le_refl n)) (fun m => m) fun b => ⟨b, fun m hm => hm⟩
theorem Even.succ {α : Type} {x : Nat -> Option α} {r : α} (h : Even (fun m => x (m + 1)) r) : Even x r := by
  obtain ⟨n, hn⟩ := h
  refine ⟨n + 1, fun m hm => ?_⟩
  obtain ⟨k, rfl⟩ : ∃ k, m = k + 1 := ⟨m - 1, by omega⟩
  exact hn k (by omega)
theorem D_fn {X : Env} {f : FuncId} (hp : X.pin f = none) {cap args : List V} {h : Heap} {r : V × Heap} (hh : evBody X (D X) (Lo X) f (args ++ cap) h = some r) : D X (.fn f cap) args h = some r := by
  refine last_some.2 (Even.succ (Even.of_eq (evBody_lim (Lf := fun m f => loopN X (callN X m) f m) (limD X) (limL X) hh) fun m => ?_))
  simp only [callN,callBody,hp]
theorem D_pin {X : Env} {f : FuncId} {b : Bool} (hp : X.pin f = some (.b b)) (h : Heap) : D X (.fn f []) [] h = some (.bool b, h) := by
  refine last_some.2 (Even.succ (Even.of_eq (.const rfl) fun m => ?_))
  simp only [callN,callBody,hp,pinRun]
theorem D_sum {X : Env} {f : FuncId} {g : List V -> Heap -> Option (V × Heap)} (hp : X.pin f = some (.s g)) {args : List V} {h : Heap} {r : V × Heap} (hr : g args h = some r) : D X (.fn f []) args h = some r := by
  refine last_some.2 (Even.succ (Even.of_eq (.const rfl) fun m => ?_))
  simp only [callN,callBody,hp,pinRun,hr]
theorem D_yld {X : Env} {l : Nat} {args : List V} {h : Heap} {r : V × Heap} (hh : evRound X (D X) (Lo X) l args h = some r) : D X (.yld l) args h = some r :=
  last_some.2 (Even.succ (evRound_lim (Lf := fun m f => loopN X (callN X m) f m) (limD X) (limL X) hh))
theorem Lo_of {X : Env} {f : FuncId} {c : Code} {s : St} {r : Ex × St} (hh : loopBody X (D X) (Lo X f) (Lo X f) f c s = some r) : Lo X f c s = some r :=
  last_some.2 (Even.succ (loopBody_lim (Cm := fun _ => D X) (Lm := fun m => loopN X (D X) f m) (Am := fun m => loopN X (D X) f m) (fun _ _ _ _ h => .const h) (fun _ _ _ h => last_some.1 h) (fun _ _ _ h => last_some.1 h) hh))
end Go.Ev
namespace Go.Ev
open Go.RowKit
def RoK (K : KM) : Prop := ∀ (b : Nat) (e : KB), K[b]? = some e -> ∃ g B S N, e = .c g B S N false
theorem RoK.free [Good] {K : KM} (h : RoK K) (o : Owner) (B : Nat) : ¬ OwnBy K [] o B := by
  intro ho
  cases o with
  | loc s => exact own_nil_loc ho
  | blk b =>
    rcases ho with ⟨g, S, N, k, h1, h2⟩ | h1 | ⟨l, t, h1⟩
    · obtain ⟨_, _, _, _, e⟩ := h b _ h1; cases e; cases h2
    · obtain ⟨_, _, _, _, e⟩ := h b _ h1; cases e
    · obtain ⟨_, _, _, _, e⟩ := h b _ h1; cases e
  | lloc b s =>
    obtain ⟨B', l, ver, h1, _⟩ := ho
    obtain ⟨_, _, _, _, e⟩ := h b _ h1; cases e
theorem Fit.callsN {P : Program} {X : Env} (h : Fit P X) {n : Nat} {f : FuncId} {xs : List V} {hp h' : Heap} {v : V} (hn : callN X n (.fn f []) xs hp = some (v, h')) {K : KM} {w : World}
    (hm : @Mem (goodOf X) K [] [] hp w) (hro : RoK K) {ys : List Value} (hy : VRs K xs ys) :
    Calls P f ys.toArray w fun e w' => (∃ y K', e = .returned y /\ VR K' v y) /\ Below w.heap.size w w' := by
  letI := goodOf X
  have h1 := h.spec n _ _ _ _ _ hn K w hm
  have h2 := h1.2 ys (by simpa using hy)
  refine ((callsIn_wide (n := 0)).1 h2).mono fun e w' he => ?_
  cases e with
  | returned y =>
    obtain ⟨K', hv, _, hst⟩ := he
    exact ⟨⟨y, K', rfl, hv⟩, hst.os, hst.tape, hst.output, hst.size, fun k hk => hst.same k hk fun o ho => hro.free o k ho⟩
  | panicked ch => exact he.elim
  | outgrown => exact he.elim
theorem Fit.calls {P : Program} {X : Env} (h : Fit P X) {f : FuncId} {xs : List V} {hp h' : Heap} {v : V} (hD : D X (.fn f []) xs hp = some (v, h')) {K : KM} {w : World}
    (hm : @Mem (goodOf X) K [] [] hp w) (hro : RoK K) {ys : List Value} (hy : VRs K xs ys) :
    Calls P f ys.toArray w fun e w' => (∃ y K', e = .returned y /\ VR K' v y) /\ Below w.heap.size w w' := by
  obtain ⟨n, hn⟩ := last_some.1 hD
  exact h.callsN (hn n (Nat.le_refl n)) hm hro hy
theorem Fit.law {P : Program} {X : Env} (h : Fit P X) {f : FuncId} {xs : List V} {hp h' : Heap} (hD : D X (.fn f []) xs hp = some (.bool true, h')) {K : KM} {w : World}
    (hm : @Mem (goodOf X) K [] [] hp w) (hro : RoK K) {ys : List Value} (hy : VRs K xs ys) :
    Calls P f ys.toArray w fun e w' => e = .returned (.bool true) /\ Below w.heap.size w w' := by
  refine (h.calls hD hm hro hy).mono fun e w' ⟨⟨y, K', he, hv⟩, hb⟩ => ⟨?_, hb⟩
  rw [he]
  simp only [VR] at hv
  rw [hv]
theorem Mem.read [Good] {K : KM} {hp : Heap} {w : World} (hm : Mem K [] [] hp w) (hro : RoK K) {B S : Nat} {c : List V} {c' : Array Value} {ty : TypeId} {fr : Nat × Nat}
    (hB : w.heap[B]? = some (.cells c' ty fr)) (hN : S + c.length <= c'.size) (hc : CR K c c' S) :
    Mem (K ++ [.c 0 B S c'.size false]) [] [] (hp ++ [.cells 0 false c]) w /\ RoK (K ++ [.c 0 B S c'.size false]) := by
  have hle := KM.le_append K (.c 0 B S c'.size false)
  have hro' : RoK (K ++ [.c 0 B S c'.size false]) := by
    intro b e he
    rcases getElem?_snoc he with h1 | ⟨_, h1⟩
    · exact hro b e h1
    · exact ⟨_, _, _, _, h1⟩
  refine ⟨⟨⟨rfl, fun s ver c h => by simp at h⟩, ⟨by simp [hm.hr.1], fun b x hx => ?_⟩, ⟨fun o o' B' h1 _ => absurd h1 (hro'.free o B'), fun o B' h1 => absurd h1 (hro'.free o B'), fun b g B' S' N' hb => ⟨?_, fun o => hro'.free o B'⟩⟩⟩, hro'⟩
  · rcases getElem?_snoc hx with h1 | ⟨h1, rfl⟩
    · obtain ⟨e, he, hb⟩ := hm.hr.2 b x h1
      refine ⟨e, ?_, hb.keep hle fun _ _ => rfl⟩
      rw [List.getElem?_append_left (List.getElem?_eq_some_iff.1 he).1]; exact he
    · refine ⟨.c 0 B S c'.size false, ?_, B, S, c'.size, rfl, c', ty, fr, hB, rfl, hN, hc.mono hle, fun h => by cases h⟩
      rw [h1, hm.hr.1, List.getElem?_append_right (Nat.le_refl _)]; simp
  · rcases getElem?_snoc hb with h1 | ⟨_, h1⟩
    · exact (hm.inv.ro b g B' S' N' h1).1
    · cases h1
      exact (Array.getElem?_eq_some_iff.1 hB).1
theorem mem_nil [Good] (w : World) : Mem [] [] [] [] w /\ RoK [] :=
  ⟨⟨⟨rfl, fun s ver c h => by simp at h⟩, ⟨rfl, fun b x h => by simp at h⟩, ⟨fun o o' B h1 _ => absurd h1 (RoK.free (fun b e h => by simp at h) o B), fun o B h1 => absurd h1 (RoK.free (fun b e h => by simp at h) o B), fun b g B S N h => by simp at h⟩⟩, fun b e h => by simp at h⟩
theorem Fit.closed {P : Program} {X : Env} (h : Fit P X) {n : Nat} {f : FuncId} {b : Bool}
    (hn : ((callN X n (.fn f []) [] []).map fun r => match r.1 with | .bool b => some b | _ => none) = some (some b)) (w : World) :
    Calls P f #[] w fun e w' => e = .returned (.bool b) /\ Below w.heap.size w w' := by
  letI := goodOf X
  cases hc : callN X n (.fn f []) [] [] with
  | none => rw [hc] at hn; cases hn
  | some r =>
    obtain ⟨v, h'⟩ := r
    rw [hc] at hn
    simp only [Option.map_some,Option.some.injEq] at hn
    obtain ⟨hm, hro⟩ := mem_nil w
    refine (h.callsN hc hm hro (ys := []) rfl).mono fun e w' ⟨⟨y, K', he, hv⟩, hb⟩ => ⟨?_, hb⟩
    rw [he]
    cases v <;> simp at hn
    subst hn
    simp only [VR] at hv
    rw [hv]
def Env.pins (X : Env) (p : FuncId -> Option Pin) : Env := { X with pin := p }
theorem codeChk_pins (X : Env) (p : FuncId -> Option Pin) (f : FuncId) : ∀ c : Code, codeChk (X.pins p) f c = codeChk X f c := by
  intro c
  induction c with
  | region id ops draw => rfl
  | seq a b iha ihb => simp only [codeChk,iha,ihb]
  | cond c a b iha ihb => simp only [codeChk,iha,ihb]
  | block id c ih => simp only [codeChk,ih]
  | scope c ih => simp only [codeChk,ih]
  | loop c ih => simp only [codeChk,ih]
  | rangeFunc g ps a b iha ihb => simp only [codeChk,iha,ihb]
  | _ => rfl
theorem bodyChk_pins (X : Env) (p : FuncId -> Option Pin) (P : Program) (f : FuncId) : bodyChk (X.pins p) P f = bodyChk X P f := by
  unfold bodyChk
  split
  · split
    · rw [codeChk_pins]
    · rfl
  · rfl
theorem planOk_pins (X : Env) (p : FuncId -> Option Pin) (f : FuncId) (ops : Array Oper) (B : Array Nat) (π : List PE) : PlanOk (X.pins p) f ops B π ↔ PlanOk X f ops B π :=
  ⟨fun h => ⟨h.len, h.nodup, h.lt, h.all, h.tab, h.pairs, h.lin, h.entry, h.still⟩, fun h => ⟨h.len, h.nodup, h.lt, h.all, h.tab, h.pairs, h.lin, h.entry, h.still⟩⟩
theorem dOk_pins (X : Env) (p : FuncId -> Option Pin) : DOk (X.pins p) = DOk X := by
  funext f id ops
  exact propext ⟨Or.imp (fun ⟨B, h⟩ => ⟨B, (planOk_pins X p f ops B _).1 h⟩) (fun h => h), Or.imp (fun ⟨B, h⟩ => ⟨B, (planOk_pins X p f ops B _).2 h⟩) (fun h => h)⟩
theorem goodOf_pins (X : Env) (p : FuncId -> Option Pin) : goodOf (X.pins p) = goodOf X := by unfold goodOf; rw [dOk_pins]
theorem Fit.pinsFit {P : Program} {X : Env} (h : Fit P X) {p : FuncId -> Option Pin} (hp : ∀ f q, p f = some q -> @PinOk (goodOf X) P f q) : Fit P (X.pins p) :=
  ⟨h.ty, h.body, h.mixed, h.types, fun f hf => (bodyChk_pins X p P f).trans (h.bodies f hf), fun f q hq => by rw [goodOf_pins]; exact hp f q hq⟩
end Go.Ev
namespace Go.Ev
open Go.RowKit
def tiles (T : TypeId -> TI) : List (Nat × TypeId) -> Nat -> Nat -> Bool
  | [], o, n => decide (o = n)
  | p :: r, o, n => decide (p.1 = o) && tiles T r (o + (T p.2).size) n
def plainT (T : TypeId -> TI) : Nat -> TypeId -> Bool
  | 0, _ => false
  | d + 1, t => match (T t).desc with
    | .bool | .int _ | .str => true
    | .slice e => decide (0 < (T e).size) && plainT T d e
    | .struct fs => tiles T fs 0 (T t).size && fs.all fun p => plainT T d p.2
    | .arr n e => decide (n * (T e).size = (T t).size) && plainT T d e
    | _ => false
def Fits (T : TypeId -> TI) (h : Heap) : Nat -> TypeId -> List V -> Prop
  | 0, _, _ => False
  | d + 1, t, cs => match (T t).desc with
    | .bool => ∃ b, cs = [.bool b]
    | .int k => ∃ i, cs = [.int k i] /\ (Lit.int k i).wf = true
    | .str => ∃ s : ByteArray, cs = [.str s] /\ s.size <= maxLen
    | .slice e => cs = [.sl .nil 0 0 0] \/ cs = [.sl .any 0 0 1] \/ ∃ b len cap full, cs = [.sl (.at b 0 0) len cap 0] /\ 0 < cap /\ len <= cap /\ cap <= maxLen /\ h[b]? = some (.cells 0 false full) /\
        full.length = cap * (T e).size /\ ∀ i, i < cap -> Fits T h d e ((full.drop (i * (T e).size)).take (T e).size)
    | .struct fs => cs.length = (T t).size /\ ∀ p ∈ fs, Fits T h d p.2 ((cs.drop p.1).take (T p.2).size)
    | .arr n e => cs.length = (T t).size /\ ∀ i, i < n -> Fits T h d e ((cs.drop (i * (T e).size)).take (T e).size)
    | _ => False
theorem Fits.mono {T : TypeId -> TI} {h : Heap} (g : Heap) : ∀ {d : Nat} {t : TypeId} {cs : List V}, Fits T h d t cs -> Fits T (h ++ g) d t cs := by
  intro d
  induction d with
  | zero => intro t cs hf; exact hf
  | succ d ih =>
    intro t cs hf
    unfold Fits at hf ⊢
    split at hf
    · exact hf
    · exact hf
    · exact hf
    · rcases hf with hf | hf | ⟨b, len, cap, full, h1, h2, h3, h4, h5, h6, h7⟩
      · exact .inl hf
      · exact .inr (.inl hf)
      · exact .inr (.inr ⟨b, len, cap, full, h1, h2, h3, h4, by rw [List.getElem?_append_left (List.getElem?_eq_some_iff.1 h5).1]; exact h5, h6, fun i hi => ih (h7 i hi)⟩)
    · exact ⟨hf.1, fun p hp => ih (hf.2 p hp)⟩
    · exact ⟨hf.1, fun i hi => ih (hf.2 i hi)⟩
    · exact hf
theorem KM.le_apps (K K' : KM) : KM.le K (K ++ K') := fun b x hx => by
  refine ⟨x, ?_, x.le_refl⟩
  rw [List.getElem?_append_left (List.getElem?_eq_some_iff.1 hx).1]; exact hx
theorem desc_of {P : Program} {t : TypeId} {d : TD} (h : (tyOf P t).desc = d) (hd : d ≠ .other) : ∃ u, P.underlying t = some u /\ descOf u = d := by
  simp only [tyOf] at h
  cases hlt : decide (t < P.types.size) with
  | false => rw [hlt] at h; simp only [cond_false] at h; exact absurd h.symm hd
  | true =>
    rw [hlt] at h
    simp only [cond_true] at h
    cases hu : P.underlying t with
    | none => rw [hu] at h; simp only [Option.map_none,Option.getD_none] at h; exact absurd h.symm hd
    | some u => rw [hu] at h; simp only [Option.map_some,Option.getD_some] at h; exact ⟨u, rfl, h⟩
theorem flat_part {α : Type} : ∀ (L : List (List α)) (i : Nat) (x : List α), L[i]? = some x -> (L.flatten.drop ((L.take i).flatten.length)).take x.length = x
  | [], i, x, h => by simp at h
  | a :: L, 0, x, h => by
    simp at h; subst h
    simp
  | a :: L, i + 1, x, h => by
    have ih := flat_part L i x (by simpa using h)
    simp only [List.take_succ_cons,List.flatten_cons,List.length_append]
    rw [<- List.drop_drop, List.drop_left]
    exact ih
section
variable [Good] {H : Type} {enc : TypeId × Value -> H} {P : Program} {w : World}
def Got (P : Program) (w : World) (d : Nat) (K : KM) (hp : Heap) (t : TypeId) (cs : List Value) : Prop :=
  ∃ K' hp' xs, Mem (K ++ K') [] [] (hp ++ hp') w /\ RoK (K ++ K') /\ VRs (K ++ K') xs cs /\ Fits (tyOf P) (hp ++ hp') d t xs /\ xs.all isCell = true
theorem got_seq {d : Nat} : ∀ (segs : List (TypeId × List Value)), (∀ p ∈ segs, ∀ K hp, Mem K [] [] hp w -> RoK K -> Got P w d K hp p.1 p.2) -> ∀ K hp, Mem K [] [] hp w -> RoK K ->
    ∃ (K' : KM) (hp' : Heap) (xss : List (List V)), Mem (K ++ K') [] [] (hp ++ hp') w /\ RoK (K ++ K') /\ VRs (K ++ K') xss.flatten (segs.map (·.2)).flatten /\ xss.flatten.all isCell = true /\ xss.length = segs.length /\
      ∀ (i : Nat) (p : TypeId × List Value), segs[i]? = some p -> ∃ xs, xss[i]? = some xs /\ xs.length = p.2.length /\ Fits (tyOf P) (hp ++ hp') d p.1 xs
  | [], _, K, hp, hm, hro => ⟨[], [], [], by simpa using hm, by simpa using hro, by simp [VRs], rfl, rfl, fun i p h => by simp at h⟩
  | p :: segs, hg, K, hp, hm, hro => by
    obtain ⟨K1, hp1, xs, hm1, hro1, hv1, hf1, hc1⟩ := hg p (by simp) K hp hm hro
    obtain ⟨K2, hp2, xss, hm2, hro2, hv2, hc2, hl2, hf2⟩ := got_seq segs (fun q hq => hg q (by simp [hq])) (K ++ K1) (hp ++ hp1) hm1 hro1
    refine ⟨K1 ++ K2, hp1 ++ hp2, xs :: xss, by simpa using hm2, by simpa using hro2, ?_, by simp [hc1, hc2], by simp [hl2], ?_⟩
    · simp only [List.map_cons,List.flatten_cons]
      rw [<- List.append_assoc]
      exact (VRs.mono (KM.le_apps _ _) _ _ hv1).append hv2
    · intro i q hq
      cases i with
      | zero =>
        simp at hq; subst hq
        exact ⟨xs, rfl, hv1.length.symm, by rw [<- List.append_assoc]; exact hf1.mono _⟩
      | succ i =>
        obtain ⟨ys, h1, h2, h3⟩ := hf2 i q (by simpa using hq)
        exact ⟨ys, by simpa using h1, h2, by rw [<- List.append_assoc]; exact h3⟩
omit [Good] in
theorem parts_flat {α : Type} (s : Nat) : ∀ (n : Nat) (l : List α), l.length = n * s -> ((List.range n).map fun i => (l.drop (i * s)).take s).flatten = l
  | 0, l, h => by
    have h0 : l.length = 0 := by omega
    simp [List.length_eq_zero_iff.1 h0]
  | n + 1, l, h => by
    have hl : (l.take (n * s)).length = n * s := by rw [List.length_take, h, Nat.add_mul]; omega
    have e : ((List.range n).map fun i => (l.drop (i * s)).take s) = (List.range n).map fun i => ((l.take (n * s)).drop (i * s)).take s := by
      apply List.map_congr_left
      intro i hi
      have hi' : i < n := List.mem_range.1 hi
      rw [List.drop_take, List.take_take]
      have : (i + 1) * s <= n * s := Nat.mul_le_mul_right s hi'
      rw [Nat.add_mul] at this
      rw [Nat.min_eq_left (by omega)]
    rw [List.range_succ, List.map_append, List.flatten_append, e, parts_flat s n _ hl]
    simp only [List.map_cons,List.map_nil,List.flatten_cons,List.flatten_nil,List.append_nil]
    rw [List.take_of_length_le (l := l.drop (n * s)) (by rw [List.length_drop, h, Nat.add_mul]; omega), List.take_append_drop]
omit [Good] in
theorem flat_len {α : Type} {s : Nat} : ∀ {L : List (List α)}, (∀ x ∈ L, x.length = s) -> L.flatten.length = L.length * s
  | [], _ => by simp
  | a :: L, h => by
    have h1 := flat_len (L := L) (s := s) fun x hx => h x (List.mem_cons_of_mem _ hx)
    have h2 := h a (by simp)
    simp only [List.flatten_cons,List.length_append,List.length_cons,h1,h2,Nat.add_mul]
    omega
omit [Good] in
theorem flat_part_same {α : Type} {s : Nat} {L : List (List α)} (h : ∀ x ∈ L, x.length = s) {i : Nat} {x : List α} (hx : L[i]? = some x) : (L.flatten.drop (i * s)).take s = x := by
  have h1 := flat_part L i x hx
  have hi := (List.getElem?_eq_some_iff.1 hx).1
  rw [flat_len (fun y hy => h y (List.mem_of_mem_take hy)), List.length_take, Nat.min_eq_left (by omega), h x (List.mem_of_getElem? hx)] at h1
  exact h1
omit [Good] in
theorem tiles_flat {T : TypeId -> TI} {α : Type} : ∀ (fs : List (Nat × TypeId)) (o n : Nat) (l : List α), tiles T fs o n = true -> l.length = n -> (fs.map fun p => (l.drop p.1).take (T p.2).size).flatten = l.drop o
  | [], o, n, l, h, hl => by
    simp only [tiles,decide_eq_true_eq] at h
    simp [List.drop_of_length_le (show l.length <= o by omega)]
  | p :: fs, o, n, l, h, hl => by
    simp only [tiles,Bool.and_eq_true,decide_eq_true_eq] at h
    obtain ⟨rfl, h⟩ := h
    simp only [List.map_cons,List.flatten_cons]
    rw [tiles_flat fs _ n l h hl, <- List.drop_drop, List.take_append_drop]
omit [Good] in
theorem tiles_le {T : TypeId -> TI} : ∀ {fs : List (Nat × TypeId)} {o n : Nat}, tiles T fs o n = true -> o <= n
  | [], o, n, h => by simp only [tiles,decide_eq_true_eq] at h; omega
  | p :: fs, o, n, h => by
    simp only [tiles,Bool.and_eq_true,decide_eq_true_eq] at h
    have := tiles_le h.2
    omega
omit [Good] in
theorem tiles_part {T : TypeId -> TI} {α : Type} : ∀ (fs : List (Nat × TypeId)) (o n : Nat) (L : List (List α)) (pre : List α), tiles T fs o n = true -> L.length = fs.length -> pre.length = o ->
    (∀ (i : Nat) (p : Nat × TypeId), fs[i]? = some p -> ∃ x, L[i]? = some x /\ x.length = (T p.2).size) -> ∀ (i : Nat) (p : Nat × TypeId), fs[i]? = some p -> ∃ x, L[i]? = some x /\ (((pre ++ L.flatten).drop p.1).take (T p.2).size) = x
  | [], o, n, L, pre, h, hl, hp, hx, i, p, hi => by simp at hi
  | q :: fs, o, n, [], pre, h, hl, hp, hx, i, p, hi => by simp at hl
  | q :: fs, o, n, a :: L, pre, h, hl, hp, hx, i, p, hi => by
    simp only [tiles,Bool.and_eq_true,decide_eq_true_eq] at h
    obtain ⟨h1, h2⟩ := h
    cases i with
    | zero =>
      simp at hi; subst hi
      obtain ⟨x, hx1, hx2⟩ := hx 0 q (by simp)
      simp at hx1; subst hx1
      refine ⟨a, by simp, ?_⟩
      rw [show q.1 = pre.length by omega, List.drop_left, List.flatten_cons, <- hx2, List.take_left]
    | succ i =>
      obtain ⟨x0, hx1, hx2⟩ := hx 0 q (by simp)
      simp at hx1; subst hx1
      have := tiles_part fs (o + (T q.2).size) n L (pre ++ a) h2 (by simpa using hl) (by simp [hp, hx2]) (fun j r hj => by simpa using hx (j + 1) r (by simpa using hj)) i p (by simpa using hi)
      simpa using this
omit [Good] in
theorem addr_none {a : Addr} (h : a.spot = none) (n : Nat) : a.add n = ⟨a.block, a.off + n, none⟩ := by
  cases a
  simp only at h
  subst h
  unfold Addr.add
  split
  · rename_i h0; subst h0; rfl
  · rfl
omit [Good] in
theorem rows_get {w : World} {a : Addr} {n : Nat} {vs : List Value} (h : w.cells? 0 a n = some vs) : vs.length = n /\ ∀ i, i < n -> w.cell? (a.add i) = vs[i]? := by
  unfold World.cells? at h
  rw [if_pos (Nat.zero_le _)] at h
  exact ⟨by simpa using mapM_some_length h, fun i hi => mapM_some_get h i i (by simp [hi])⟩
theorem got_of : ∀ (d : Nat) (t : TypeId), plainT (tyOf P) d t = true -> ∀ (n : Nat) (cs : List Value) (x : DataW H × List MemPlace), DataW.trod enc P w 0 (fun _ => true) true n t cs = some x ->
    (cs.length = (tyOf P t).size \/ True) -> ∀ K hp, Mem K [] [] hp w -> RoK K -> Got P w d K hp t cs := by
  intro d
  induction d with
  | zero => intro t h; cases h
  | succ d ih =>
    intro t hp n cs x hx _ K hp0 hm hro
    unfold plainT at hp
    split at hp
    · rename_i hd
      obtain ⟨u, hu, hdu⟩ := desc_of hd (by simp)
      cases u <;> simp only [descOf] at hdu <;> try (cases hdu)
      obtain ⟨b, rfl, _⟩ := DataW.trod_bool hu hx
      exact ⟨[], [], [.bool b], by simpa using hm, by simpa using hro, by simp [VRs, VR], by unfold Fits; rw [hd]; exact ⟨b, rfl⟩, rfl⟩
    · rename_i k hd
      obtain ⟨u, hu, hdu⟩ := desc_of hd (by simp)
      cases u <;> simp only [descOf] at hdu <;> try (cases hdu)
      obtain ⟨i, rfl, _, hw⟩ := DataW.trod_int hu hx
      exact ⟨[], [], [.int k i], by simpa using hm, by simpa using hro, by simp [VRs, VR], by unfold Fits; rw [hd]; exact ⟨i, rfl, hw⟩, rfl⟩
    · rename_i hd
      obtain ⟨u, hu, hdu⟩ := desc_of hd (by simp)
      cases u <;> simp only [descOf] at hdu <;> try (cases hdu)
      obtain ⟨s, rfl, _, hs⟩ := DataW.trod_string hu hx
      exact ⟨[], [], [.str s], by simpa using hm, by simpa using hro, by simp [VRs, VR], by unfold Fits; rw [hd]; exact ⟨s, rfl, hs⟩, rfl⟩
    · rename_i e hd
      obtain ⟨u, hu, hdu⟩ := desc_of hd (by simp)
      cases u <;> simp only [descOf] at hdu <;> try (cases hdu)
      simp only [Bool.and_eq_true,decide_eq_true_eq] at hp
      obtain ⟨hsz, hpe⟩ := hp
      have hsz' : 0 < P.cellsOf e := hsz
      rcases DataW.trod_slice hu hx with ⟨rfl, _⟩ | ⟨a, len, cap, elems, rest, m, rfl, rfl, _, _, hlc, hcm, hel, hel2, hsp, _⟩
      · exact ⟨[], [], [.sl .nil 0 0 0], by simpa using hm, by simpa using hro, by simp [VRs, VR, SlR], by unfold Fits; rw [hd]; exact .inl rfl, rfl⟩
      · obtain ⟨hrl, hr2⟩ := hsp rfl
        by_cases hc0 : cap = 0
        · subst hc0
          obtain rfl : len = 0 := by omega
          refine ⟨[], [], [.sl .any 0 0 1], by simpa using hm, by simpa using hro, ?_, by unfold Fits; rw [hd]; exact .inr (.inl rfl), rfl⟩
          simp only [List.append_nil,VRs,VR,SlR]
          exact ⟨_, [], rfl, ⟨trivial, trivial, by omega, a, 0, rfl⟩, rfl⟩
        · have hall : ∀ i, i < cap -> ∃ vs y, w.cells? 0 (a.add (i * P.cellsOf e)) (P.cellsOf e) = some vs /\ DataW.trod enc P w 0 (fun _ => true) true m e vs = some y := by
            intro i hi
            have : ∃ z, (w.cells? 0 (a.add (i * P.cellsOf e)) (P.cellsOf e)).bind (DataW.trod enc P w 0 (fun _ => true) true m e) = some z := by
              by_cases hil : i < len
              · rw [hel2 i hil]; exact ⟨elems[i]'(by omega), by simp⟩
              · have := hr2 (i - len) (by omega)
                rw [show len + (i - len) = i by omega] at this
                rw [this]; exact ⟨rest[i - len]'(by omega), by simp⟩
            obtain ⟨z, hz⟩ := this
            rw [Option.bind_eq_some_iff] at hz
            obtain ⟨vs, h1, h2⟩ := hz
            exact ⟨vs, z, h1, h2⟩
          obtain ⟨vs0, y0, hv0, _⟩ := hall 0 (by omega)
          have hv00 := rows_get hv0
          have hcell0 : ∃ v, w.cell? a = some v := by
            have h1 := hv00.2 0 hsz'
            rw [show (a.add (0 * P.cellsOf e)).add 0 = a by simp [Addr.add]] at h1
            rw [h1]
            exact ⟨vs0[0]'(by omega), by simp⟩
          have hblk : ∃ c ty fr, w.heap[a.block]? = some (.cells c ty fr) /\ a.spot = none := by
            obtain ⟨v, hv⟩ := hcell0
            unfold World.cell? at hv
            split at hv
            · rename_i c ty fr hh
              refine ⟨c, ty, fr, hh, ?_⟩
              split at hv
              · cases hv
              · rename_i hs; simpa using hs
            · cases hv
          obtain ⟨c, ty, fr, hblk, hspot⟩ := hblk
          have hcell : ∀ j, j < cap * P.cellsOf e -> ∃ v, c[a.off + j]? = some v /\ v = c[a.off + j]! := by
            intro j hj
            have hdiv : j / P.cellsOf e < cap := (Nat.div_lt_iff_lt_mul hsz').2 hj
            obtain ⟨vs, y, h1, _⟩ := hall (j / P.cellsOf e) hdiv
            have h2 := rows_get h1
            have h3 := h2.2 (j % P.cellsOf e) (Nat.mod_lt _ hsz')
            have hlt : j % P.cellsOf e < vs.length := by rw [h2.1]; exact Nat.mod_lt _ hsz'
            rw [show (a.add (j / P.cellsOf e * P.cellsOf e)).add (j % P.cellsOf e) = ⟨a.block, a.off + j, none⟩ by
              have := Nat.div_add_mod' j (P.cellsOf e)
              rw [addr_none hspot, addr_none rfl]
              simp only [Nat.add_assoc]; rw [this]] at h3
            unfold World.cell? at h3
            simp only [hblk,hspot,Option.isSome_none,Bool.false_eq_true,if_false] at h3
            rw [List.getElem?_eq_getElem hlt] at h3
            exact ⟨_, h3, by rw [getElem!_def, h3]⟩
          let l : List Value := (List.range (cap * P.cellsOf e)).map fun j => c[a.off + j]!
          have hll : l.length = cap * P.cellsOf e := by simp [l]
          have hlg : ∀ j, j < cap * P.cellsOf e -> c[a.off + j]? = l[j]? := by
            intro j hj
            obtain ⟨v, h1, h2⟩ := hcell j hj
            rw [h1, h2]
            simp [l, hj]
          have hseg : ∀ i, i < cap -> ∃ y, DataW.trod enc P w 0 (fun _ => true) true m e ((l.drop (i * P.cellsOf e)).take (P.cellsOf e)) = some y := by
            intro i hi
            obtain ⟨vs, y, h1, h2⟩ := hall i hi
            have h3 := rows_get h1
            have e1 : (l.drop (i * P.cellsOf e)).take (P.cellsOf e) = vs := by
              apply List.ext_getElem?
              intro j
              by_cases hj : j < P.cellsOf e
              · rw [List.getElem?_take, if_pos hj, List.getElem?_drop, <- h3.2 j hj]
                have hij : i * P.cellsOf e + j < cap * P.cellsOf e := by
                  have := Nat.mul_le_mul_right (P.cellsOf e) (show i + 1 <= cap from hi)
                  rw [Nat.add_mul] at this; omega
                rw [<- hlg _ hij]
                rw [addr_none hspot, addr_none rfl]
                unfold World.cell?
                simp only [hblk,hspot,Option.isSome_none,Bool.false_eq_true,if_false,Nat.add_assoc]
              · rw [List.getElem?_take, if_neg hj, List.getElem?_eq_none (by omega)]
            rw [e1]; exact ⟨y, h2⟩
          obtain ⟨K1, hp1, xss, hm1, hro1, hv1, hc1, hl1, hf1⟩ := got_seq (P := P) (d := d) ((List.range cap).map fun i => (e, (l.drop (i * P.cellsOf e)).take (P.cellsOf e))) (by
            intro p hpm K2 hp2 hm2 hro2
            obtain ⟨i, hi, rfl⟩ := List.mem_map.1 hpm
            obtain ⟨y, hy⟩ := hseg i (List.mem_range.1 hi)
            exact ih e hpe m _ y hy (.inr trivial) K2 hp2 hm2 hro2) K hp0 hm hro
          have eflat : (((List.range cap).map fun i => (e, (l.drop (i * P.cellsOf e)).take (P.cellsOf e))).map (·.2)).flatten = l := by
            rw [List.map_map]
            exact parts_flat (P.cellsOf e) cap l hll
          rw [eflat] at hv1
          have hxl : xss.flatten.length = cap * P.cellsOf e := by rw [<- hv1.length, hll]
          have hsz2 : a.off + cap * P.cellsOf e <= c.size := by
            have hpos : 0 < cap * P.cellsOf e := Nat.mul_pos (by omega) hsz'
            obtain ⟨v, h1, _⟩ := hcell (cap * P.cellsOf e - 1) (by omega)
            have := (Array.getElem?_eq_some_iff.1 h1).1
            omega
          have hcr : CR (K ++ K1) xss.flatten c a.off := by
            intro j v hj
            have hjl : j < cap * P.cellsOf e := by rw [<- hxl]; exact (List.getElem?_eq_some_iff.1 hj).1
            refine ⟨List.all_eq_true.1 hc1 v (List.mem_of_getElem? hj), ?_⟩
            obtain ⟨x, h1, h2⟩ := hv1.get j v hj
            exact ⟨x, by rw [hlg j hjl]; exact h1, h2⟩
          have hm2 := Mem.read hm1 hro1 hblk (S := a.off) (c := xss.flatten) (by rw [hxl]; exact hsz2) hcr
          have hxs : ∀ x ∈ xss, x.length = P.cellsOf e := by
            intro x hx
            obtain ⟨i, hi⟩ := List.getElem?_of_mem hx
            have hi' : i < cap := by have := (List.getElem?_eq_some_iff.1 hi).1; simp at hl1; omega
            obtain ⟨xs, h1, h2, _⟩ := hf1 i (e, (l.drop (i * P.cellsOf e)).take (P.cellsOf e)) (by simp [hi'])
            rw [hi] at h1; cases h1
            rw [h2]
            have := Nat.mul_le_mul_right (P.cellsOf e) (show i + 1 <= cap from hi')
            rw [Nat.add_mul] at this
            simp [hll]; omega
          refine ⟨K1 ++ [.c 0 a.block a.off c.size false], hp1 ++ [.cells 0 false xss.flatten], [.sl (.at (hp0 ++ hp1).length 0 0) len cap 0], by simpa using hm2.1, by simpa using hm2.2, ?_, ?_, rfl⟩
          · simp only [VRs,VR,SlR]
            refine ⟨_, [], rfl, ⟨a, cap, rfl, ⟨0, a.block, a.off, c.size, false, ?_, by omega, fun _ => ?_⟩, Nat.le_refl _, fun _ => rfl, fun h => absurd h (by omega)⟩, rfl⟩
            · have : (hp0 ++ hp1).length = (K ++ K1).length := hm1.hr.1
              rw [<- List.append_assoc, this]; simp
            · cases a; simp_all
          · unfold Fits
            rw [hd]
            refine .inr (.inr ⟨_, len, cap, xss.flatten, rfl, by omega, hlc, hcm, ?_, by exact hxl, fun i hi => ?_⟩)
            · rw [<- List.append_assoc]; simp
            · obtain ⟨xs, h1, h2, h3⟩ := hf1 i (e, (l.drop (i * P.cellsOf e)).take (P.cellsOf e)) (by simp [hi])
              have := flat_part_same hxs h1
              rw [show (tyOf P e).size = P.cellsOf e from rfl, this, <- List.append_assoc]
              exact h3.mono _
    · rename_i fs hd
      obtain ⟨u, hu, hdu⟩ := desc_of hd (by simp)
      cases u <;> simp only [descOf] at hdu <;> try (cases hdu)
      rename_i fs'
      simp only [Bool.and_eq_true] at hp
      obtain ⟨ht, hpf⟩ := hp
      obtain ⟨ys, m, rfl, _, hcl, hyl, hyf⟩ := DataW.trod_struct hu hx
      have hcl' : cs.length = (tyOf P t).size := hcl
      have hin : ∀ (fs' : List (Nat × TypeId)) (o : Nat), tiles (tyOf P) fs' o (tyOf P t).size = true -> ∀ p ∈ fs', p.1 + (tyOf P p.2).size <= (tyOf P t).size := by
        intro fs'
        induction fs' with
        | nil => intro o _ p hp; cases hp
        | cons q r ihr =>
          intro o hti p hp
          simp only [tiles,Bool.and_eq_true,decide_eq_true_eq] at hti
          have := tiles_le hti.2
          rcases List.mem_cons.1 hp with rfl | hp
          · omega
          · exact ihr _ hti.2 p hp
      obtain ⟨K1, hp1, xss, hm1, hro1, hv1, hc1, hl1, hf1⟩ := got_seq (P := P) (d := d) ((fs'.toList.map fun f => (f.offset, f.type)).map fun p => (p.2, (cs.drop p.1).take (tyOf P p.2).size)) (by
        intro p hpm K2 hp2 hm2 hro2
        obtain ⟨q, hq, rfl⟩ := List.mem_map.1 hpm
        obtain ⟨f, hf, rfl⟩ := List.mem_map.1 hq
        obtain ⟨i, hi⟩ := Array.getElem?_of_mem (Array.mem_toList_iff.1 hf)
        have := hyf i f hi
        have hil := (Array.getElem?_eq_some_iff.1 hi).1
        exact ih f.type (List.all_eq_true.1 hpf _ hq) m _ (ys[i]'(by omega)) (this.trans (by simp)) (.inr trivial) K2 hp2 hm2 hro2) K hp0 hm hro
      have eflat : (((fs'.toList.map fun f => (f.offset, f.type)).map fun p => (p.2, (cs.drop p.1).take (tyOf P p.2).size)).map (·.2)).flatten = cs := by
        rw [List.map_map]
        exact tiles_flat (T := tyOf P) _ 0 _ cs ht hcl'
      rw [eflat] at hv1
      refine ⟨K1, hp1, xss.flatten, hm1, hro1, hv1, ?_, hc1⟩
      unfold Fits
      rw [hd]
      refine ⟨by rw [<- hv1.length]; exact hcl', fun p hpm => ?_⟩
      obtain ⟨i, hi⟩ := List.getElem?_of_mem hpm
      have hxx : ∀ (i : Nat) (p : Nat × TypeId), (fs'.toList.map fun f => (f.offset, f.type))[i]? = some p -> ∃ x, xss[i]? = some x /\ x.length = (tyOf P p.2).size := by
        intro i p hi
        obtain ⟨xs, h1, h2, _⟩ := hf1 i (p.2, (cs.drop p.1).take (tyOf P p.2).size) (by rw [List.getElem?_map, hi]; rfl)
        refine ⟨xs, h1, ?_⟩
        rw [h2]
        have := hin _ 0 ht p (List.mem_of_getElem? hi)
        simp [hcl']; omega
      obtain ⟨x1, h1, h2⟩ := tiles_part (T := tyOf P) _ 0 _ xss [] ht (by simpa using hl1) rfl hxx i p hi
      obtain ⟨xs, h3, _, h5⟩ := hf1 i (p.2, (cs.drop p.1).take (tyOf P p.2).size) (by rw [List.getElem?_map, hi]; rfl)
      rw [h1] at h3; cases h3
      simp only [List.nil_append] at h2
      rw [h2]; exact h5
    · rename_i k e hd
      obtain ⟨u, hu, hdu⟩ := desc_of hd (by simp)
      cases u <;> simp only [descOf] at hdu <;> try (cases hdu)
      simp only [Bool.and_eq_true,decide_eq_true_eq] at hp
      obtain ⟨hsz, hpe⟩ := hp
      obtain ⟨ys, m, rfl, _, hcl, hyl, hyf⟩ := DataW.trod_array hu hx
      have hcl' : cs.length = k * P.cellsOf e := by rw [hcl]; exact hsz.symm
      obtain ⟨K1, hp1, xss, hm1, hro1, hv1, hc1, hl1, hf1⟩ := got_seq (P := P) (d := d) ((List.range k).map fun i => (e, (cs.drop (i * P.cellsOf e)).take (P.cellsOf e))) (by
        intro p hpm K2 hp2 hm2 hro2
        obtain ⟨i, hi, rfl⟩ := List.mem_map.1 hpm
        have hik := List.mem_range.1 hi
        exact ih e hpe m _ (ys[i]'(by omega)) ((hyf i hik).trans (by simp)) (.inr trivial) K2 hp2 hm2 hro2) K hp0 hm hro
      have eflat : (((List.range k).map fun i => (e, (cs.drop (i * P.cellsOf e)).take (P.cellsOf e))).map (·.2)).flatten = cs := by
        rw [List.map_map]
        exact parts_flat (P.cellsOf e) k cs hcl'
      rw [eflat] at hv1
      refine ⟨K1, hp1, xss.flatten, hm1, hro1, hv1, ?_, hc1⟩
      unfold Fits
      rw [hd]
      refine ⟨by rw [<- hv1.length]; exact hcl, fun i hi => ?_⟩
      have hxs : ∀ x ∈ xss, x.length = P.cellsOf e := by
        intro x hx
        obtain ⟨i, hi⟩ := List.getElem?_of_mem hx
        have hi' : i < k := by have := (List.getElem?_eq_some_iff.1 hi).1; simp at hl1; omega
        obtain ⟨xs, h1, h2, _⟩ := hf1 i (e, (cs.drop (i * P.cellsOf e)).take (P.cellsOf e)) (by simp [hi'])
        rw [hi] at h1; cases h1
        rw [h2]
        have := Nat.mul_le_mul_right (P.cellsOf e) (show i + 1 <= k from hi')
        rw [Nat.add_mul] at this
        simp [hcl']; omega
      obtain ⟨xs, h1, h2, h3⟩ := hf1 i (e, (cs.drop (i * P.cellsOf e)).take (P.cellsOf e)) (by simp [hi])
      have := flat_part_same hxs h1
      rw [show (tyOf P e).size = P.cellsOf e from rfl, this]
      exact h3
    · cases hp
end
end Go.Ev
namespace Go.Ev
open Go.ChangeShapes Go.WideShapes Go.ChangeAt Go.RowKit
def argV (T : TypeId -> TI) (t : TypeId) (xs : List V) : V := match (T t).kind with
  | some true => .agg xs
  | _ => xs.headD .nilp
def argVs (T : TypeId -> TI) : List TypeId -> List (List V) -> List V
  | t :: ts, xs :: xss => argV T t xs :: argVs T ts xss
  | _, _ => []
def FitsAll (T : TypeId -> TI) (h : Heap) (d : Nat) : List TypeId -> List (List V) -> Prop
  | [], [] => True
  | t :: ts, xs :: xss => Fits T h d t xs /\ FitsAll T h d ts xss
  | _, _ => False
section
variable {H : Type} {enc : TypeId × Value -> H} {P : Program} {w : World}
theorem argV_ok {K : KM} {base : Nat} {d n : Nat} {t : TypeId} {v : Value} {x : DataW H × List MemPlace} {xs : List V} (hp : plainT (tyOf P) d t = true) (hval : Value.okWide P w .any base t v)
    (hx : DataW.trod enc P w 0 (fun _ => true) true n t v.cells.toList = some x) (hv : VRs K xs v.cells.toList) (hc : xs.all isCell = true) : VR K (argV (tyOf P) t xs) v := by
  cases d with
  | zero => cases hp
  | succ d =>
    unfold plainT at hp
    have one : ∀ (y : Value), v = y -> y.cells = #[y] -> (tyOf P t).kind = some false -> VR K (argV (tyOf P) t xs) v := by
      intro y e hy hk
      subst e
      rw [hy] at hv
      unfold argV
      rw [hk]
      cases xs with
      | nil => simp [VRs] at hv
      | cons a r =>
        simp only [VRs] at hv
        obtain ⟨y, ys, h1, h2, h3⟩ := hv
        simp at h1
        obtain ⟨rfl, rfl⟩ := h1
        exact h2
    have agg : (∃ cs, v = .agg cs) -> (tyOf P t).kind = some true -> VR K (argV (tyOf P) t xs) v := by
      intro ⟨cs, e⟩ hk
      subst e
      unfold argV
      rw [hk]
      simp only [VR]
      exact ⟨cs, rfl, hv, hc⟩
    split at hp
    · rename_i hd
      obtain ⟨u, hu, hdu⟩ := desc_of hd (by simp)
      cases u <;> simp only [descOf] at hdu <;> try (cases hdu)
      obtain ⟨b, rfl⟩ := okWide_bool hu hval
      exact one _ rfl rfl (by simp [TI.kind, hd])
    · rename_i k hd
      obtain ⟨u, hu, hdu⟩ := desc_of hd (by simp)
      cases u <;> simp only [descOf] at hdu <;> try (cases hdu)
      obtain ⟨b, rfl⟩ := okWide_int hu hval
      exact one _ rfl rfl (by simp [TI.kind, hd])
    · rename_i hd
      obtain ⟨u, hu, hdu⟩ := desc_of hd (by simp)
      cases u <;> simp only [descOf] at hdu <;> try (cases hdu)
      obtain ⟨b, rfl⟩ := okWide_string hu hval
      exact one _ rfl rfl (by simp [TI.kind, hd])
    · rename_i e hd
      obtain ⟨u, hu, hdu⟩ := desc_of hd (by simp)
      cases u <;> simp only [descOf] at hdu <;> try (cases hdu)
      obtain ⟨a, l, c, rfl⟩ := okWide_slice hu hval
      exact one _ rfl rfl (by simp [TI.kind, hd])
    · rename_i fs hd
      obtain ⟨u, hu, hdu⟩ := desc_of hd (by simp)
      cases u <;> simp only [descOf] at hdu <;> try (cases hdu)
      obtain ⟨cs, rfl, _⟩ := okWide_struct hu hval
      exact agg ⟨cs, rfl⟩ (by simp [TI.kind, hd])
    · rename_i k e hd
      obtain ⟨u, hu, hdu⟩ := desc_of hd (by simp)
      cases u <;> simp only [descOf] at hdu <;> try (cases hdu)
      have hval' := hval
      simp only [Value.okWide,hu] at hval'
      obtain ⟨cs, rfl, _⟩ := hval'
      exact agg ⟨cs, rfl⟩ (by simp [TI.kind, hd])
    · cases hp
theorem args_ok [Good] {base d : Nat} : ∀ {ts : List TypeId} {vs : List Value} {ds : List (DataW H)} {ps : List MemPlace}, DataW.TrodAll enc P w 0 (fun _ => true) true ts vs ds ps ->
    (∀ (j : Nat) t v, ts[j]? = some t -> vs[j]? = some v -> Value.okWide P w .any base t v) -> ts.all (plainT (tyOf P) d) = true -> ∀ K hp, Mem K [] [] hp w -> RoK K ->
    ∃ (K' : KM) (hp' : Heap) (xss : List (List V)), Mem (K ++ K') [] [] (hp ++ hp') w /\ RoK (K ++ K') /\ VRs (K ++ K') (argVs (tyOf P) ts xss) vs /\ FitsAll (tyOf P) (hp ++ hp') d ts xss
  | [], vs, ds, ps, h, hval, hp, K, h0, hm, hro => by
    obtain ⟨rfl, _, _⟩ := trodAll_nil h
    exact ⟨[], [], [], by simpa using hm, by simpa using hro, by simp [argVs, VRs], trivial⟩
  | t :: ts, vs, ds, ps, h, hval, hp, K, h0, hm, hro => by
    obtain ⟨v, vs, dd, ds, p, q, rfl, rfl, rfl, hd, hr⟩ := trodAll_cons h
    simp only [List.all_cons,Bool.and_eq_true] at hp
    obtain ⟨n, hn⟩ := hd
    have hv0 := hval 0 t v rfl rfl
    obtain ⟨K1, hp1, xs, hm1, hro1, hv1, hf1, hc1⟩ := got_of (P := P) d t hp.1 n _ _ hn (.inr trivial) K h0 hm hro
    obtain ⟨K2, hp2, xss, hm2, hro2, hv2, hf2⟩ := args_ok hr (fun j t v h1 h2 => hval (j + 1) t v (by simpa using h1) (by simpa using h2)) hp.2 (K ++ K1) (h0 ++ hp1) hm1 hro1
    refine ⟨K1 ++ K2, hp1 ++ hp2, xs :: xss, by simpa using hm2, by simpa using hro2, ?_, ?_⟩
    · simp only [argVs,VRs]
      refine ⟨v, vs, rfl, ?_, by simpa using hv2⟩
      rw [<- List.append_assoc]
      exact VR.mono (KM.le_apps _ _) _ _ (argV_ok hp.1 hv0 hn hv1 hc1)
    · simp only [FitsAll]
      refine ⟨?_, by simpa using hf2⟩
      rw [<- List.append_assoc]
      exact hf1.mono _
theorem trodAll_behind (hl : laidOutB P = true) {W W' : World} (hb : Below W.heap.size W W') : ∀ {ts : List TypeId} {vs : List Value} {ds : List (DataW H)} {ps : List MemPlace},
    ts.all (fun t => P.readableRec t && decide (t < P.types.size)) = true -> DataW.TrodAll enc P W 0 (fun _ => true) true ts vs ds ps -> DataW.TrodAll enc P W' 0 (fun b => decide (b < W.heap.size)) true ts vs ds ps
  | [], vs, ds, ps, _, h => by
    obtain ⟨rfl, rfl, rfl⟩ := trodAll_nil h
    exact trodAll_mk0
  | t :: ts, vs, ds, ps, hr, h => by
    obtain ⟨v, vs, dd, ds, p, q, rfl, rfl, rfl, hd, hrest⟩ := trodAll_cons h
    simp only [List.all_cons,Bool.and_eq_true,decide_eq_true_eq] at hr
    exact trodAll_cons_mk (Below.trod hl hr.1.1 hr.1.2 hd hb (by obtain ⟨n, hn⟩ := hd; exact DataW.trod_lt n _ _ _ hn)) (trodAll_behind hl hb hr.2 hrest)
theorem lifted_of {C : Checked} {X : Env} (hfit : Fit C.prog X) {f : FuncId} {fn : Func} {s : ChangeSpec} {os : Os} {conds : List PathCond} (d : Nat) {tb : TypeId}
    (own : ownKnob C.prog.godebug = none) (started : os.Started) (noInit : C.prog.inits.idxOf? f = none) (hfn : C.prog.funcs[f]? = some fn)
    (witness : ∃ (w : World) (tape : Tape) (i : Input), w.os = os /\ (w.forCall tape i).Shaped C.prog /\ i.vars = [] /\ Input.okWide C.prog (w.forCall tape i) .any w.heap.size f i /\
      s.pre6 enc C.prog fn conds false (w.forCall tape i).memory i.args /\ ({} : Assume).holds C.prog (lone (Frame.enter C.prog f i.args .normal) [] (w.forCall tape i)))
    (hl : laidOutB C.prog = true) (hvars : s.vars = []) (hspec : ∀ ds : List (DataW H), ds.length = fn.params.size -> s.fn H ds = { results := [.lit (.bool true)], args := ds })
    (hres : fn.resultTypes = #[tb]) (hb : C.prog.underlying tb = some .bool)
    (hps : fn.params.toList.all (fun t => C.prog.readableRec t && decide (t < C.prog.types.size)) = true) (hpl : fn.params.toList.all (plainT (tyOf C.prog) d) = true)
    (law : ∀ (hp : Heap) (xss : List (List V)), FitsAll (tyOf C.prog) hp d fn.params.toList xss -> ∃ h', D X (.fn f []) (argVs (tyOf C.prog) fn.params.toList xss) hp = some (.bool true, h')) :
    ReturnsInHanded {} C os f .any (s.pre6 enc C.prog fn conds false) (s.post enc C.prog fn false true false false) := by
  refine returnsInHanded_of_change own started noInit hfn witness ?_
  intro W base args ds gs before hval hW hcnd _
  have hW' := hW
  obtain ⟨p, q, hA, hV, rfl, hfz, hnd⟩ := hW
  rw [hvars] at hV
  obtain ⟨rfl, rfl⟩ := trodVars_none hV
  letI := goodOf X
  obtain ⟨hm0, hro0⟩ := mem_nil W
  obtain ⟨K, hp, xss, hm, hro, hvs, hft⟩ := args_ok hA (fun j t v h1 h2 => hval j t v (by simpa using h1) (by simpa using h2)) hpl [] [] hm0 hro0
  simp only [List.nil_append] at hm hro hvs hft
  obtain ⟨h', hD⟩ := law hp xss hft
  refine ((hfit.law hD hm hro hvs).mono fun e W' ⟨he, bel⟩ => ?_)
  rw [he]
  have hlen : ds.length = fn.params.size := by
    have := (trodAll_length hA).2
    simpa using this
  refine ⟨_, rfl, ds, [], p ++ [], [], p, [], hW', ?_, ?_, ?_, bel.frame _, fun h => by cases h⟩
  · rw [hres, List.append_nil, hspec ds hlen]
    exact trodAll_mk1 (shut_bool hb _)
  · rw [List.append_nil, hspec ds hlen]
    exact trodAll_behind hl bel hps hA
  · rw [List.append_nil, hspec ds hlen, hvars]
    exact rfl
end
end Go.Ev
namespace Go.Ev
theorem bnd_s {α β : Type} (a : α) (k : α -> Option β) : bnd (some a) k = k a := rfl
theorem cnd_t {α : Type} (x y : Option α) : cnd true x y = x := rfl
theorem cnd_f {α : Type} (x y : Option α) : cnd false x y = y := rfl
theorem grd_t {α : Type} {c : Prop} [Decidable c] (h : c) (x : Option α) : grd c x = x := if_pos h
theorem grd_tr {α : Type} [Decidable True] (x : Option α) : grd True x = x := if_pos trivial
section
variable {X : Env} {C : CallSem} {L : LoopSem} {f : FuncId} {R : Type}
def putK (o : Option Tmp) (p : TV × St) : Option St := some (p.2.put o p.1)
theorem putK_eq (o : Option Tmp) (v : TV) (s : St) : putK o (v, s) = some (s.put o v) := rfl
def stepK (X : Env) (C : CallSem) (f : FuncId) (o : Oper) (s : St) : Bool -> Option St
  | true => exOp X C f o s
  | false => some (s.put o.dst .u)
theorem stepK_t (o : Oper) (s : St) : stepK X C f o s true = exOp X C f o s := rfl
theorem stepK_f (o : Oper) (s : St) : stepK X C f o s false = some (s.put o.dst .u) := rfl
theorem exOps_nil (ops : List Oper) (s : St) : exOps X C f ops [] s = some s := rfl
theorem exOps_cons (ops : List Oper) (o : Oper) (r : List Oper) (s : St) :
    exOps X C f ops (o :: r) s = bnd (bnd (wantedT ops s.e o.guard) (stepK X C f o s)) (exOps X C f ops r) := by
  simp only [exOps]
  cases wantedT ops s.e o.guard with
  | none => rfl
  | some b => cases b <;> rfl
theorem exOp_move {x'} (d : Option Tmp) (ty : TypeId) (pos : String) (af : Array Edge) (g : Option (Nat × Bool)) (s : St) : exOp X C f ⟨d, .move x', ty, pos, af, g⟩ s = bnd (exPure X.ty (d.bind (X.slot f)) (.move x') s) (putK d) := rfl
theorem exOp_assign {x'} (d : Option Tmp) (ty : TypeId) (pos : String) (af : Array Edge) (g : Option (Nat × Bool)) (s : St) : exOp X C f ⟨d, .assign x', ty, pos, af, g⟩ s = bnd (exPure X.ty (d.bind (X.slot f)) (.assign x') s) (putK d) := rfl
theorem exOp_pick {a' b' c'} (d : Option Tmp) (ty : TypeId) (pos : String) (af : Array Edge) (g : Option (Nat × Bool)) (s : St) : exOp X C f ⟨d, .pick a' b' c', ty, pos, af, g⟩ s = bnd (exPure X.ty (d.bind (X.slot f)) (.pick a' b' c') s) (putK d) := rfl
theorem exOp_alloc {t'} (d : Option Tmp) (ty : TypeId) (pos : String) (af : Array Edge) (g : Option (Nat × Bool)) (s : St) : exOp X C f ⟨d, .alloc t', ty, pos, af, g⟩ s = bnd (exPure X.ty (d.bind (X.slot f)) (.alloc t') s) (putK d) := rfl
theorem exOp_box {t' x'} (d : Option Tmp) (ty : TypeId) (pos : String) (af : Array Edge) (g : Option (Nat × Bool)) (s : St) : exOp X C f ⟨d, .box t' x', ty, pos, af, g⟩ s = bnd (exPure X.ty (d.bind (X.slot f)) (.box t' x') s) (putK d) := rfl
theorem exOp_build {t' ps'} (d : Option Tmp) (ty : TypeId) (pos : String) (af : Array Edge) (g : Option (Nat × Bool)) (s : St) : exOp X C f ⟨d, .build t' ps', ty, pos, af, g⟩ s = bnd (exPure X.ty (d.bind (X.slot f)) (.build t' ps') s) (putK d) := rfl
theorem exOp_buildSlice {t' n' ps'} (d : Option Tmp) (ty : TypeId) (pos : String) (af : Array Edge) (g : Option (Nat × Bool)) (s : St) : exOp X C f ⟨d, .buildSlice t' n' ps', ty, pos, af, g⟩ s = bnd (exPure X.ty (d.bind (X.slot f)) (.buildSlice t' n' ps') s) (putK d) := rfl
theorem exOp_load {t' a'} (d : Option Tmp) (ty : TypeId) (pos : String) (af : Array Edge) (g : Option (Nat × Bool)) (s : St) : exOp X C f ⟨d, .load t' a', ty, pos, af, g⟩ s = bnd (exPure X.ty (d.bind (X.slot f)) (.load t' a') s) (putK d) := rfl
theorem exOp_store {t' a' x'} (d : Option Tmp) (ty : TypeId) (pos : String) (af : Array Edge) (g : Option (Nat × Bool)) (s : St) : exOp X C f ⟨d, .store t' a' x', ty, pos, af, g⟩ s = bnd (exPure X.ty (d.bind (X.slot f)) (.store t' a' x') s) (putK d) := rfl
theorem exOp_nilCheck {x'} (d : Option Tmp) (ty : TypeId) (pos : String) (af : Array Edge) (g : Option (Nat × Bool)) (s : St) : exOp X C f ⟨d, .nilCheck x', ty, pos, af, g⟩ s = bnd (exPure X.ty (d.bind (X.slot f)) (.nilCheck x') s) (putK d) := rfl
theorem exOp_binOp {op' t' x' y' u'} (d : Option Tmp) (ty : TypeId) (pos : String) (af : Array Edge) (g : Option (Nat × Bool)) (s : St) : exOp X C f ⟨d, .binOp op' t' x' y' u', ty, pos, af, g⟩ s = bnd (exPure X.ty (d.bind (X.slot f)) (.binOp op' t' x' y' u') s) (putK d) := rfl
theorem exOp_unOp {op' t' x'} (d : Option Tmp) (ty : TypeId) (pos : String) (af : Array Edge) (g : Option (Nat × Bool)) (s : St) : exOp X C f ⟨d, .unOp op' t' x', ty, pos, af, g⟩ s = bnd (exPure X.ty (d.bind (X.slot f)) (.unOp op' t' x') s) (putK d) := rfl
theorem exOp_convert {t' u' x'} (d : Option Tmp) (ty : TypeId) (pos : String) (af : Array Edge) (g : Option (Nat × Bool)) (s : St) : exOp X C f ⟨d, .convert t' u' x', ty, pos, af, g⟩ s = bnd (exPure X.ty (d.bind (X.slot f)) (.convert t' u' x') s) (putK d) := rfl
theorem exOp_makeFunc {g' xs' ys'} (d : Option Tmp) (ty : TypeId) (pos : String) (af : Array Edge) (g : Option (Nat × Bool)) (s : St) : exOp X C f ⟨d, .makeFunc g' xs' ys', ty, pos, af, g⟩ s = bnd (exPure X.ty (d.bind (X.slot f)) (.makeFunc g' xs' ys') s) (putK d) := rfl
theorem exOp_makeSlice {t' l' c'} (d : Option Tmp) (ty : TypeId) (pos : String) (af : Array Edge) (g : Option (Nat × Bool)) (s : St) : exOp X C f ⟨d, .makeSlice t' l' c', ty, pos, af, g⟩ s = bnd (exPure X.ty (d.bind (X.slot f)) (.makeSlice t' l' c') s) (putK d) := rfl
theorem exOp_makeMap {t'} (d : Option Tmp) (ty : TypeId) (pos : String) (af : Array Edge) (g : Option (Nat × Bool)) (s : St) : exOp X C f ⟨d, .makeMap t' none, ty, pos, af, g⟩ s = bnd (exPure X.ty (d.bind (X.slot f)) (.makeMap t' none) s) (putK d) := rfl
theorem exOp_lookup {t' m' k' o'} (d : Option Tmp) (ty : TypeId) (pos : String) (af : Array Edge) (g : Option (Nat × Bool)) (s : St) : exOp X C f ⟨d, .lookup t' m' k' o', ty, pos, af, g⟩ s = bnd (exPure X.ty (d.bind (X.slot f)) (.lookup t' m' k' o') s) (putK d) := rfl
theorem exOp_mapUpdate {t' m' k' x'} (d : Option Tmp) (ty : TypeId) (pos : String) (af : Array Edge) (g : Option (Nat × Bool)) (s : St) : exOp X C f ⟨d, .mapUpdate t' m' k' x', ty, pos, af, g⟩ s = bnd (exPure X.ty (d.bind (X.slot f)) (.mapUpdate t' m' k' x') s) (putK d) := rfl
theorem exOp_slice {t' x' l' h' m'} (d : Option Tmp) (ty : TypeId) (pos : String) (af : Array Edge) (g : Option (Nat × Bool)) (s : St) : exOp X C f ⟨d, .slice t' x' l' h' m', ty, pos, af, g⟩ s = bnd (exPure X.ty (d.bind (X.slot f)) (.slice t' x' l' h' m') s) (putK d) := rfl
theorem exOp_fieldAddr {t' x' n'} (d : Option Tmp) (ty : TypeId) (pos : String) (af : Array Edge) (g : Option (Nat × Bool)) (s : St) : exOp X C f ⟨d, .fieldAddr t' x' n', ty, pos, af, g⟩ s = bnd (exPure X.ty (d.bind (X.slot f)) (.fieldAddr t' x' n') s) (putK d) := rfl
theorem exOp_field {t' x' n'} (d : Option Tmp) (ty : TypeId) (pos : String) (af : Array Edge) (g : Option (Nat × Bool)) (s : St) : exOp X C f ⟨d, .field t' x' n', ty, pos, af, g⟩ s = bnd (exPure X.ty (d.bind (X.slot f)) (.field t' x' n') s) (putK d) := rfl
theorem exOp_indexAddr {t' x' i'} (d : Option Tmp) (ty : TypeId) (pos : String) (af : Array Edge) (g : Option (Nat × Bool)) (s : St) : exOp X C f ⟨d, .indexAddr t' x' i', ty, pos, af, g⟩ s = bnd (exPure X.ty (d.bind (X.slot f)) (.indexAddr t' x' i') s) (putK d) := rfl
theorem exOp_index {t' x' i'} (d : Option Tmp) (ty : TypeId) (pos : String) (af : Array Edge) (g : Option (Nat × Bool)) (s : St) : exOp X C f ⟨d, .index t' x' i', ty, pos, af, g⟩ s = bnd (exPure X.ty (d.bind (X.slot f)) (.index t' x' i') s) (putK d) := rfl
theorem exOp_extract {x' i'} (d : Option Tmp) (ty : TypeId) (pos : String) (af : Array Edge) (g : Option (Nat × Bool)) (s : St) : exOp X C f ⟨d, .extract x' i', ty, pos, af, g⟩ s = bnd (exPure X.ty (d.bind (X.slot f)) (.extract x' i') s) (putK d) := rfl
theorem exOp_builtin {b' as' ts'} (d : Option Tmp) (ty : TypeId) (pos : String) (af : Array Edge) (g : Option (Nat × Bool)) (s : St) : exOp X C f ⟨d, .call ⟨.builtin b', as', ts'⟩, ty, pos, af, g⟩ s = bnd (exPure X.ty (d.bind (X.slot f)) (.call ⟨.builtin b', as', ts'⟩) s) (putK d) := rfl
def callK (d : Option Tmp) (s : St) (p : V × Heap) : Option St := some ({ s with h := p.2 }.put d (.v p.1))
theorem callK_eq (d : Option Tmp) (e : List TV) (l : Locs) (h h' : Heap) (v : V) : callK d ⟨e, l, h⟩ (v, h') = some ((⟨e, l, h'⟩ : St).put d (.v v)) := rfl
theorem exOp_call {g' as' ts'} (d : Option Tmp) (ty : TypeId) (pos : String) (af : Array Edge) (g : Option (Nat × Bool)) (s : St) :
    exOp X C f ⟨d, .call ⟨.value g', as', ts'⟩, ty, pos, af, g⟩ s = (match opd s.e g' with | .v fv => bnd (allV (as'.toList.map (opd s.e))) fun vs => bnd (C fv vs s.h) (callK d s) | _ => none) := rfl
def leadK (X : Env) (C : CallSem) (f : FuncId) (sl : List Nat) (o : Oper) (s : St) : Bool -> Option St
  | true => cond (leadsT s.e sl o.op.operands.toList) (exOp X C f o s) none
  | false => some (s.put o.dst .u)
theorem leadK_t (sl : List Nat) (o : Oper) (s : St) : leadK X C f sl o s true = cond (leadsT s.e sl o.op.operands.toList) (exOp X C f o s) none := rfl
theorem leadK_f (sl : List Nat) (o : Oper) (s : St) : leadK X C f sl o s false = some (s.put o.dst .u) := rfl
def lookK (X : Env) (C : CallSem) (f : FuncId) (ops : List Oper) (re : List (Nat × List Nat)) (r : List PE) (s : St) : Option St := cond (re.all (again X ops s)) (exPlan X C f ops r s) none
theorem lookK_nil (ops : List Oper) (r : List PE) (s : St) : lookK X C f ops [] r s = exPlan X C f ops r s := rfl
theorem lookK_cons (ops : List Oper) (j : Nat × List Nat) (re : List (Nat × List Nat)) (r : List PE) (s : St) :
    lookK X C f ops (j :: re) r s = cond (again X ops s j) (lookK X C f ops re r s) none := by
  unfold lookK
  simp only [List.all_cons]
  cases again X ops s j <;> rfl
def entryK (X : Env) (C : CallSem) (f : FuncId) (ops : List Oper) (sl : List Nat) (re : List (Nat × List Nat)) (r : List PE) (s : St) : Option Oper -> Option St
  | some o => bnd (bnd (wantedT ops s.e o.guard) (leadK X C f sl o s)) (lookK X C f ops re r)
  | none => none
theorem entryK_eq (ops : List Oper) (sl : List Nat) (re : List (Nat × List Nat)) (r : List PE) (s : St) (o : Oper) :
    entryK X C f ops sl re r s (some o) = bnd (bnd (wantedT ops s.e o.guard) (leadK X C f sl o s)) (lookK X C f ops re r) := rfl
theorem exPlan_nil (ops : List Oper) (s : St) : exPlan X C f ops [] s = some s := rfl
theorem exPlan_cons (ops : List Oper) (i : Nat) (sl : List Nat) (re : List (Nat × List Nat)) (r : List PE) (s : St) :
    exPlan X C f ops ((i, sl, re) :: r) s = entryK X C f ops sl re r s ops[i]? := by
  simp only [exPlan]
  cases ops[i]? with
  | none => rfl
  | some o =>
    simp only [entryK]
    cases wantedT ops s.e o.guard with
    | none => rfl
    | some b =>
      cases b with
      | false =>
        simp only [bnd,cnd,leadK,lookK]
        cases re.all (again X ops (s.put o.dst .u)) <;> rfl
      | true =>
        simp only [bnd,cnd,leadK]
        cases leadsT s.e sl o.op.operands.toList with
        | false => rfl
        | true =>
          simp only [cond_true]
          cases exOp X C f o s with
          | none => rfl
          | some s1 =>
            simp only [lookK]
            cases re.all (again X ops s1) <;> rfl
def seqK (X : Env) (C : CallSem) (L : LoopSem) (f : FuncId) (b : Code) (k : Ex -> St -> Option R) : Ex -> St -> Option R
  | .normal, s => evC X C L f b s k
  | x, s => k x s
theorem seqK_n (b : Code) (k : Ex -> St -> Option R) (s : St) : seqK X C L f b k .normal s = evC X C L f b s k := rfl
theorem seqK_e (b : Code) (k : Ex -> St -> Option R) (id : Nat) (s : St) : seqK X C L f b k (.exit id) s = k (.exit id) s := rfl
theorem seqK_r (b : Code) (k : Ex -> St -> Option R) (s : St) : seqK X C L f b k .ret s = k .ret s := rfl
def blockK (id : Nat) (k : Ex -> St -> Option R) : Ex -> St -> Option R
  | .exit id', s => cnd (decide (id' = id)) (k .normal s) (k (.exit id') s)
  | x, s => k x s
theorem blockK_n (id : Nat) (k : Ex -> St -> Option R) (s : St) : blockK id k .normal s = k .normal s := rfl
theorem blockK_r (id : Nat) (k : Ex -> St -> Option R) (s : St) : blockK id k .ret s = k .ret s := rfl
theorem blockK_e (id id' : Nat) (k : Ex -> St -> Option R) (s : St) : blockK id k (.exit id') s = cnd (decide (id' = id)) (k .normal s) (k (.exit id') s) := rfl
theorem evC_skip (s : St) (k : Ex -> St -> Option R) : evC X C L f .skip s k = k .normal s := rfl
theorem evC_label (l : Nat) (s : St) (k : Ex -> St -> Option R) : evC X C L f (.label l) s k = k .normal s := rfl
theorem evC_exit (id : Nat) (s : St) (k : Ex -> St -> Option R) : evC X C L f (.exit id) s k = k (.exit id) s := rfl
theorem evC_ret (s : St) (k : Ex -> St -> Option R) : evC X C L f .ret s k = k .ret s := rfl
theorem evC_seq (a b : Code) (s : St) (k : Ex -> St -> Option R) : evC X C L f (.seq a b) s k = evC X C L f a s (seqK X C L f b k) := by
  simp only [evC]
  congr 1
  funext x s'
  cases x <;> rfl
theorem evC_block (id : Nat) (c : Code) (s : St) (k : Ex -> St -> Option R) : evC X C L f (.block id c) s k = evC X C L f c s (blockK id k) := by
  simp only [evC]
  congr 1
  funext x s'
  cases x <;> rfl
theorem evC_scope (c : Code) (s : St) (k : Ex -> St -> Option R) : evC X C L f (.scope c) s k = evC X C L f c s k := rfl
theorem evC_region (id : Nat) (ops : List Oper) (s : St) (k : Ex -> St -> Option R) : evC X C L f (.region id ⟨ops⟩ false) s k = bnd (exOps X C f ops ops s) (k .normal) := rfl
theorem evC_plan (id : Nat) (ops : List Oper) (s : St) (k : Ex -> St -> Option R) : evC X C L f (.region id ⟨ops⟩ true) s k = bnd (exPlan X C f ops (X.plan f id) s) (k .normal) := rfl
def brK (X : Env) (C : CallSem) (L : LoopSem) (f : FuncId) (t e : Code) (s : St) (k : Ex -> St -> Option R) : TV -> Option R
  | .v (.bool b) => cnd b (evC X C L f t s k) (evC X C L f e s k)
  | _ => none
theorem evC_cond (c : Operand) (t e : Code) (s : St) (k : Ex -> St -> Option R) : evC X C L f (.cond c t e) s k = brK X C L f t e s k (opd s.e c) := rfl
def loopK (k : Ex -> St -> Option R) (p : Ex × St) : Option R := k p.1 p.2
theorem evC_loop (c : Code) (s : St) (k : Ex -> St -> Option R) : evC X C L f (.loop c) s k = bnd (L c s) (loopK k) := rfl
theorem loopK_eq (k : Ex -> St -> Option R) (x : Ex) (s : St) : loopK k (x, s) = k x s := rfl
def resK (X : Env) (rs : List ResultVar) : Ex -> St -> Option (V × Heap)
  | .exit _, _ => none
  | _, s => bnd (results X s rs) fun vs => some (resV vs, s.h)
theorem resK_n (rs : List ResultVar) (s : St) : resK X rs .normal s = bnd (results X s rs) fun vs => some (resV vs, s.h) := rfl
theorem resK_r (rs : List ResultVar) (s : St) : resK X rs .ret s = bnd (results X s rs) fun vs => some (resV vs, s.h) := rfl
theorem evBody_eq {Lf : FuncId -> LoopSem} {c : Code} {n : Nat} {rs : List ResultVar} (hb : X.body f = some (c, n, rs)) (args : List V) (h : Heap) :
    evBody X C Lf f args h = evC X C (Lf f) f c ⟨args.map .v ++ List.replicate (n - args.length) .u, List.replicate (X.nslots f) (0, []), h⟩ (resK X rs) := by
  unfold evBody
  rw [hb]
  dsimp only
  congr 1
  funext x s
  cases x <;> rfl
def loopE (again : LoopSem) (c : Code) : Ex -> St -> Option (Ex × St)
  | .normal, s => again c s
  | x, s => some (x, s)
theorem loopBody_eq (again : LoopSem) (c : Code) (s : St) : loopBody X C L again f c s = evC X C L f c s (loopE again c) := by
  unfold loopBody
  congr 1
  funext x s'
  cases x <;> rfl
end
end Go.Ev
namespace Go.Ev
theorem itT {α : Type} {a b : α} [Decidable True] : (if True then a else b) = a := if_pos trivial
theorem itF {α : Type} {a b : α} [Decidable False] : (if False then a else b) = b := if_neg id
theorem beq_f (b : Bool) : (b == false) = !b := by cases b <;> rfl
theorem beq_t (b : Bool) : (b == true) = b := by cases b <;> rfl
theorem wrap_i64 {e : Int} (h : -9223372036854775808 <= e /\ e < 9223372036854775808) : IntKind.i64.wrap e = e := by
  simp only [IntKind.wrap,IntKind.signed,IntKind.bits]
  simp
  omega
def Ok {α : Type} (x : Option α) (Q : α -> Prop) : Prop := ∃ r, x = some r /\ Q r
theorem ok_some {α : Type} (r : α) (Q : α -> Prop) : Ok (some r) Q = Q r := by
  simp [Ok]
theorem Ok.ret {α : Type} {r : α} {Q : α -> Prop} (h : Q r) : Ok (some r) Q := ⟨r, rfl, h⟩
theorem Ok.mono {α : Type} {x : Option α} {P Q : α -> Prop} (h : Ok x P) (k : ∀ r, P r -> Q r) : Ok x Q := let ⟨r, e, p⟩ := h; ⟨r, e, k r p⟩
theorem Ok.eq {α : Type} {x : Option α} {r : α} (h : Ok x (fun y => y = r)) : x = some r := by obtain ⟨y, e, rfl⟩ := h; exact e
theorem Ok.bnd {α β : Type} {x : Option α} {P : α -> Prop} {k : α -> Option β} {Q : β -> Prop} (h : Ok x P) (hk : ∀ a, P a -> Ok (k a) Q) : Ok (Ev.bnd x k) Q := by
  obtain ⟨a, rfl, pa⟩ := h
  exact hk a pa
theorem Ok.bnd2 {α β γ : Type} {x : Option (α × γ)} {P : α × γ -> Prop} {k : α × γ -> Option β} {Q : β -> Prop} (h : Ok x P) (hk : ∀ a c, P (a, c) -> Ok (k (a, c)) Q) : Ok (Ev.bnd x k) Q :=
  Ok.bnd h fun a pa => hk a.1 a.2 pa
theorem Ok.aim {α : Type} {x : Option α} {P : α -> Prop} (h : ∀ Q : α -> Prop, (∀ r, P r -> Q r) -> Ok x Q) : Ok x P := h P fun _ p => p
def thenK {α β γ : Type} (k1 : α -> Option β) (k2 : β -> Option γ) (a : α) : Option γ := bnd (k1 a) k2
theorem thenK_eq {α β γ : Type} (k1 : α -> Option β) (k2 : β -> Option γ) (a : α) : thenK k1 k2 a = bnd (k1 a) k2 := rfl
theorem bnd_bnd {α β γ : Type} (x : Option α) (k1 : α -> Option β) (k2 : β -> Option γ) : bnd (bnd x k1) k2 = bnd x (thenK k1 k2) := by
  cases x <;> rfl
section
variable {X : Env} {C : CallSem} {L : LoopSem} {f : FuncId} {R : Type}
theorem brK_t (t e : Code) (s : St) (k : Ex -> St -> Option R) : brK X C L f t e s k (.v (.bool true)) = evC X C L f t s k := rfl
theorem brK_f (t e : Code) (s : St) (k : Ex -> St -> Option R) : brK X C L f t e s k (.v (.bool false)) = evC X C L f e s k := rfl
theorem Ok.br {t e : Code} {s : St} {k : Ex -> St -> Option R} {b : Bool} {Q : R -> Prop} (ht : b = true -> Ok (evC X C L f t s k) Q) (hf : b = false -> Ok (evC X C L f e s k) Q) : Ok (brK X C L f t e s k (.v (.bool b))) Q := by
  cases b
  · exact hf rfl
  · exact ht rfl
theorem Ok.gd {o : Oper} {s : St} {k : St -> Option R} {b : Bool} {Q : R -> Prop} (ht : b = true -> Ok (Ev.bnd (exOp X C f o s) k) Q) (hf : b = false -> Ok (Ev.bnd (some (s.put o.dst .u)) k) Q) : Ok (Ev.bnd (stepK X C f o s b) k) Q := by
  cases b
  · exact hf rfl
  · exact ht rfl
theorem Ok.ld {sl : List Nat} {o : Oper} {s : St} {k : St -> Option R} {b : Bool} {Q : R -> Prop} (ht : b = true -> Ok (Ev.bnd (_root_.cond (leadsT s.e sl o.op.operands.toList) (exOp X C f o s) none) k) Q) (hf : b = false -> Ok (Ev.bnd (some (s.put o.dst .u)) k) Q) : Ok (Ev.bnd (leadK X C f sl o s b) k) Q := by
  cases b
  · exact hf rfl
  · exact ht rfl
theorem Ok.cnd {α : Type} {b : Bool} {x y : Option α} {Q : α -> Prop} (ht : b = true -> Ok x Q) (hf : b = false -> Ok y Q) : Ok (Ev.cnd b x y) Q := by
  cases b
  · exact hf rfl
  · exact ht rfl
theorem Ok.grd {α : Type} {c : Prop} [Decidable c] {x : Option α} {Q : α -> Prop} (hc : c) (h : Ok x Q) : Ok (Ev.grd c x) Q := by
  rw [grd_t hc]; exact h
end
theorem Ok.body {X : Env} {f : FuncId} {c : Code} {n : Nat} {rs : List ResultVar} (hb : X.body f = some (c, n, rs)) (hp : X.pin f = none) {cap args : List V} {h : Heap} {Q : V × Heap -> Prop}
    (hh : Ok (evC X (D X) (Lo X f) f c ⟨(args ++ cap).map .v ++ List.replicate (n - (args ++ cap).length) .u, List.replicate (X.nslots f) (0, []), h⟩ (resK X rs)) Q) : Ok (D X (.fn f cap) args h) Q := by
  obtain ⟨r, e, q⟩ := hh
  exact ⟨r, D_fn hp (by rw [evBody_eq hb]; exact e), q⟩
theorem callops_v (g : Operand) (as0 : Array Operand) (ts : Array TypeId) : (Call.mk (.value g) as0 ts).operands.toList = g :: as0.toList := by simp [Call.operands]
theorem callops_b (b : Builtin) (as0 : Array Operand) (ts : Array TypeId) : (Call.mk (.builtin b) as0 ts).operands.toList = as0.toList := by simp [Call.operands]
def veqM (T : TypeId -> TI) (d : Nat) (ti : TI) (x y : V) : Option Bool :=
  match ti.desc, x, y with
  | .int _, .int k a, .int k' b => grd (k = k') (some (decide (a = b)))
  | .str, .str a, .str b => some (strEq a b)
  | .bool, .bool a, .bool b => some (a == b)
  | .ptr _, .nilp, .nilp => some true
  | .ptr _, .nilp, .ptr _ _ _ => some false
  | .ptr _, .ptr _ _ _, .nilp => some false
  | .slice _, .sl .nil _ _ _, .sl .nil _ _ _ => some true
  | .slice _, .sl .nil _ _ _, .sl (.at _ _ _) _ _ _ => some false
  | .slice _, .sl .nil _ _ _, .sl .any _ _ _ => some false
  | .slice _, .sl (.at _ _ _) _ _ _, .sl .nil _ _ _ => some false
  | .slice _, .sl .any _ _ _, .sl .nil _ _ _ => some false
  | .map _ _, .nilm, .nilm => some true
  | .map _ _, .nilm, .map _ => some false
  | .map _ _, .map _, .nilm => some false
  | .func, .nilFn, .nilFn => some true
  | .func, .nilFn, .fn _ _ => some false
  | .func, .fn _ _, .nilFn => some false
  | .struct fs, .agg xs, .agg ys => cnd ti.eqok (fs.foldr (fun p acc => bnd (rd xs p.1 (T p.2)) fun a => bnd (rd ys p.1 (T p.2)) fun b => bnd (veq T d p.2 a b) fun r => cnd r acc (some false)) (some true)) none
  | .arr n e, .agg xs, .agg ys => cnd ti.eqok ((List.range n).foldr (fun i acc => bnd (rd xs (i * (T e).size) (T e)) fun a => bnd (rd ys (i * (T e).size) (T e)) fun b => bnd (veq T d e a b) fun r => cnd r acc (some false)) (some true)) none
  | _, _, _ => none
section
variable (T : TypeId -> TI) (d : Nat)
theorem veq_eq (t : TypeId) (x y : V) : veq T (d + 1) t x y = veqM T d (T t) x y := by unfold veq veqM; rfl
def veqF (xs ys : List V) (fs : List (Nat × TypeId)) : Option Bool := fs.foldr (fun p acc => bnd (rd xs p.1 (T p.2)) fun a => bnd (rd ys p.1 (T p.2)) fun b => bnd (veq T d p.2 a b) fun r => cnd r acc (some false)) (some true)
def veqA (e : TypeId) (xs ys : List V) (l : List Nat) : Option Bool := l.foldr (fun i acc => bnd (rd xs (i * (T e).size) (T e)) fun a => bnd (rd ys (i * (T e).size) (T e)) fun b => bnd (veq T d e a b) fun r => cnd r acc (some false)) (some true)
def partK (t : TypeId) (acc : Option Bool) : Option V -> Option V -> Option Bool
  | some a, some b => bnd (veq T d t a b) fun r => cnd r acc (some false)
  | _, _ => none
theorem partK_eq (t : TypeId) (acc : Option Bool) (a b : V) : partK T d t acc (some a) (some b) = bnd (veq T d t a b) fun r => cnd r acc (some false) := rfl
theorem veqF_nil (xs ys : List V) : veqF T d xs ys [] = some true := rfl
theorem veqF_cons (xs ys : List V) (o : Nat) (t : TypeId) (r : List (Nat × TypeId)) : veqF T d xs ys ((o, t) :: r) = partK T d t (veqF T d xs ys r) (rd xs o (T t)) (rd ys o (T t)) := by
  show bnd (rd xs o (T t)) (fun a => bnd (rd ys o (T t)) fun b => bnd (veq T d t a b) fun q => cnd q (veqF T d xs ys r) (some false)) = _
  cases rd xs o (T t) <;> cases rd ys o (T t) <;> rfl
theorem veqA_nil (e : TypeId) (xs ys : List V) : veqA T d e xs ys [] = some true := rfl
theorem veqA_cons (e : TypeId) (xs ys : List V) (i : Nat) (r : List Nat) : veqA T d e xs ys (i :: r) = partK T d e (veqA T d e xs ys r) (rd xs (i * (T e).size) (T e)) (rd ys (i * (T e).size) (T e)) := by
  show bnd (rd xs (i * (T e).size) (T e)) (fun a => bnd (rd ys (i * (T e).size) (T e)) fun b => bnd (veq T d e a b) fun q => cnd q (veqA T d e xs ys r) (some false)) = _
  cases rd xs (i * (T e).size) (T e) <;> cases rd ys (i * (T e).size) (T e) <;> rfl
variable (s b : Nat) (z : List V)
theorem veqM_int (k : IntKind) (q : Bool) (k1 k2 : IntKind) (m n : Int) : veqM T d ⟨.int k, s, b, z, q⟩ (.int k1 m) (.int k2 n) = grd (k1 = k2) (some (decide (m = n))) := rfl
theorem veqM_str (q : Bool) (m n : ByteArray) : veqM T d ⟨.str, s, b, z, q⟩ (.str m) (.str n) = some (strEq m n) := rfl
theorem veqM_bool (q : Bool) (m n : Bool) : veqM T d ⟨.bool, s, b, z, q⟩ (.bool m) (.bool n) = some (m == n) := rfl
theorem veqM_p1 (e : TypeId) (q : Bool) : veqM T d ⟨.ptr e, s, b, z, q⟩ .nilp .nilp = some true := rfl
theorem veqM_p2 (e : TypeId) (q : Bool) (m n o : Nat) : veqM T d ⟨.ptr e, s, b, z, q⟩ .nilp (.ptr m n o) = some false := rfl
theorem veqM_p3 (e : TypeId) (q : Bool) (m n o : Nat) : veqM T d ⟨.ptr e, s, b, z, q⟩ (.ptr m n o) .nilp = some false := rfl
theorem veqM_s1 (e : TypeId) (q : Bool) (l c y l' c' y' : Nat) : veqM T d ⟨.slice e, s, b, z, q⟩ (.sl .nil l c y) (.sl .nil l' c' y') = some true := rfl
theorem veqM_s2 (e : TypeId) (q : Bool) (m n o l c y l' c' y' : Nat) : veqM T d ⟨.slice e, s, b, z, q⟩ (.sl .nil l c y) (.sl (.at m n o) l' c' y') = some false := rfl
theorem veqM_s3 (e : TypeId) (q : Bool) (l c y l' c' y' : Nat) : veqM T d ⟨.slice e, s, b, z, q⟩ (.sl .nil l c y) (.sl .any l' c' y') = some false := rfl
theorem veqM_s4 (e : TypeId) (q : Bool) (m n o l c y l' c' y' : Nat) : veqM T d ⟨.slice e, s, b, z, q⟩ (.sl (.at m n o) l c y) (.sl .nil l' c' y') = some false := rfl
theorem veqM_s5 (e : TypeId) (q : Bool) (l c y l' c' y' : Nat) : veqM T d ⟨.slice e, s, b, z, q⟩ (.sl .any l c y) (.sl .nil l' c' y') = some false := rfl
theorem veqM_m1 (k e : TypeId) (q : Bool) : veqM T d ⟨.map k e, s, b, z, q⟩ .nilm .nilm = some true := rfl
theorem veqM_m2 (k e : TypeId) (q : Bool) (m : Nat) : veqM T d ⟨.map k e, s, b, z, q⟩ .nilm (.map m) = some false := rfl
theorem veqM_m3 (k e : TypeId) (q : Bool) (m : Nat) : veqM T d ⟨.map k e, s, b, z, q⟩ (.map m) .nilm = some false := rfl
theorem veqM_f1 (q : Bool) : veqM T d ⟨.func, s, b, z, q⟩ .nilFn .nilFn = some true := rfl
theorem veqM_f2 (q : Bool) (f : FuncId) (c : List V) : veqM T d ⟨.func, s, b, z, q⟩ .nilFn (.fn f c) = some false := rfl
theorem veqM_f3 (q : Bool) (f : FuncId) (c : List V) : veqM T d ⟨.func, s, b, z, q⟩ (.fn f c) .nilFn = some false := rfl
theorem veqM_struct (fs : List (Nat × TypeId)) (xs ys : List V) : veqM T d ⟨.struct fs, s, b, z, true⟩ (.agg xs) (.agg ys) = veqF T d xs ys fs := rfl
theorem veqM_arr (n : Nat) (e : TypeId) (xs ys : List V) : veqM T d ⟨.arr n e, s, b, z, true⟩ (.agg xs) (.agg ys) = veqA T d e xs ys (List.range n) := rfl
end
theorem cnd_and (b c : Bool) : cnd b (some c) (some false) = some (b && c) := by cases b <;> rfl
structure Hid (P : Prop) : Prop where
  out : P
theorem leaf_t {P : Prop} [Decidable P] {h : Heap} (p : P) : ((V.bool true, h) : V × Heap) = (V.bool (decide P), h) := by rw [decide_eq_true p]
theorem leaf_f {P : Prop} [Decidable P] {h : Heap} (p : ¬ P) : ((V.bool false, h) : V × Heap) = (V.bool (decide P), h) := by rw [decide_eq_false p]
theorem leaf_b {P : Prop} [Decidable P] {h : Heap} {b : Bool} (p : b = true ↔ P) : ((V.bool b, h) : V × Heap) = (V.bool (decide P), h) := by
  by_cases q : P
  · rw [decide_eq_true q, p.2 q]
  · rw [decide_eq_false q]; cases b
    · rfl
    · exact absurd (p.1 rfl) q
def tv (e : List TV) (i : Nat) : TV := e.getD i .u
def mask : List Bool -> List TV -> List TV
  | b :: m, v :: e => cond b .u v :: mask m e
  | [], e => e
  | _ :: _, [] => []
def OutW (W : List Bool) (e0 e : List TV) : Prop := mask W e = mask W e0
theorem OutW.refl (W : List Bool) (e : List TV) : OutW W e e := rfl
def spread : List Bool -> List TV -> List TV -> Nat -> List TV
  | b :: m, v :: e0, e, i => cond b (tv e i) v :: spread m e0 e (i + 1)
  | [], e0, _, _ => e0
  | _ :: _, [], _, _ => []
theorem spread_t (m : List Bool) (v : TV) (e0 e : List TV) (i : Nat) : spread (true :: m) (v :: e0) e i = tv e i :: spread m e0 e (i + 1) := rfl
theorem spread_f (m : List Bool) (v : TV) (e0 e : List TV) (i : Nat) : spread (false :: m) (v :: e0) e i = v :: spread m e0 e (i + 1) := rfl
theorem spread_n (e0 e : List TV) (i : Nat) : spread [] e0 e i = e0 := rfl
theorem spread_of : ∀ (W : List Bool) (e0 e pre : List TV), mask W e = mask W e0 -> e = spread W e0 (pre ++ e) pre.length
  | [], e0, e, pre, h => by simpa [mask, spread] using h
  | b :: m, [], [], pre, h => rfl
  | b :: m, [], v :: e, pre, h => by simp [mask] at h
  | b :: m, v :: e0, [], pre, h => by simp [mask] at h
  | b :: m, v0 :: e0, v :: e, pre, h => by
    simp only [mask,List.cons.injEq] at h
    have ih := spread_of m e0 e (pre ++ [v]) h.2
    simp only [List.append_assoc,List.cons_append,List.nil_append,List.length_append,List.length_cons,List.length_nil] at ih
    simp only [spread]
    rw [Nat.zero_add] at ih
    rw [<- ih]
    cases b with
    | true => simp [tv]
    | false =>
      have h1 : v = v0 := h.1
      rw [h1]; rfl
theorem OutW.spread {W : List Bool} {e0 e : List TV} (h : OutW W e0 e) : e = spread W e0 e 0 := spread_of W e0 e [] h
def stopK (x : Ex) (s : St) : Option (Ex × St) := some (x, s)
theorem stopK_eq (x : Ex) (s : St) : stopK x s = some (x, s) := rfl
section
variable {X : Env} {C : CallSem} {L : LoopSem} {f : FuncId} {R : Type}
theorem bnd_congr {α β : Type} {x : Option α} {k k' : α -> Option β} (h : ∀ a, k a = k' a) : bnd x k = bnd x k' := by
  cases x
  · rfl
  · exact h _
theorem bnd_assoc {α β γ : Type} (x : Option α) (k1 : α -> Option β) (k2 : β -> Option γ) : bnd (bnd x k1) k2 = bnd x fun a => bnd (k1 a) k2 := by
  cases x <;> rfl
theorem cnd_bnd {α β : Type} (b : Bool) (x y : Option α) (k : α -> Option β) : bnd (cnd b x y) k = cnd b (bnd x k) (bnd y k) := by cases b <;> rfl
theorem grd_bnd {α β : Type} (c : Prop) [Decidable c] (x : Option α) (k : α -> Option β) : bnd (grd c x) k = grd c (bnd x k) := by unfold grd; split <;> rfl
theorem endRF_stop (k : Ex -> St -> Option R) (e : List TV) (l : Nat) (h : Heap) : endRF k e l h = bnd (endRF stopK e l h) fun p => k p.1 p.2 := by
  unfold endRF
  split
  · rw [grd_bnd]
    split <;> rfl
  · rfl
theorem evC_stop : ∀ (c : Code) {R : Type} (s : St) (k : Ex -> St -> Option R), evC X C L f c s k = bnd (evC X C L f c s stopK) fun p => k p.1 p.2 := by
  intro c
  induction c with
  | skip => intro R s k; rfl
  | label l => intro R s k; rfl
  | exit id => intro R s k; rfl
  | ret => intro R s k; rfl
  | goto l => intro R s k; rfl
  | refuse w => intro R s k; rfl
  | scope c ih => intro R s k; exact ih s k
  | region id ops draw =>
    intro R s k
    simp only [evC]
    rw [cnd_bnd, bnd_assoc, bnd_assoc]
    rfl
  | seq a b iha ihb =>
    intro R s k
    rw [evC_seq, evC_seq, iha s (seqK X C L f b k), iha s (seqK X C L f b stopK), bnd_assoc]
    refine bnd_congr fun p => ?_
    obtain ⟨x, s'⟩ := p
    cases x with
    | normal => exact ihb s' k
    | exit id => rfl
    | ret => rfl
  | cond o a b iha ihb =>
    intro R s k
    simp only [evC]
    split
    · rw [cnd_bnd, <- iha, <- ihb]
    · rfl
  | block id c ih =>
    intro R s k
    rw [evC_block, evC_block, ih s (blockK id k), ih s (blockK id stopK), bnd_assoc]
    refine bnd_congr fun p => ?_
    obtain ⟨x, s'⟩ := p
    cases x with
    | normal => rfl
    | exit id' => dsimp only [blockK]; rw [cnd_bnd]; rfl
    | ret => rfl
  | loop c _ =>
    intro R s k
    simp only [evC]
    rw [bnd_assoc]
    rfl
  | rangeFunc g ps a b _ _ =>
    intro R s k
    simp only [evC]
    split
    · rw [bnd_assoc]
      refine bnd_congr fun p => ?_
      exact endRF_stop _ _ _ _
    · rfl
end
def Turn (I : Nat -> St -> Prop) (E : Ex -> St -> Prop) (n : Nat) (p : Ex × St) : Prop :=
  match p.1 with
  | .normal => ∃ m, m < n /\ I m p.2
  | x => E x p.2
theorem Turn.next {I : Nat -> St -> Prop} {E : Ex -> St -> Prop} {n : Nat} {s : St} (m : Nat) (hm : m < n) (h : I m s) : Turn I E n (.normal, s) := ⟨m, hm, h⟩
theorem Turn.exit {I : Nat -> St -> Prop} {E : Ex -> St -> Prop} {n id : Nat} {s : St} (h : E (.exit id) s) : Turn I E n (.exit id, s) := h
theorem Turn.ret {I : Nat -> St -> Prop} {E : Ex -> St -> Prop} {n : Nat} {s : St} (h : E .ret s) : Turn I E n (.ret, s) := h
theorem Lo_ok {X : Env} {f : FuncId} {c : Code} {I : Nat -> St -> Prop} {E : Ex -> St -> Prop}
    (hs : ∀ n s, I n s -> Ok (evC X (D X) (Lo X f) f c s stopK) (Turn I E n)) : ∀ (n : Nat) (s : St), I n s -> Ok (Lo X f c s) fun p => E p.1 p.2 := by
  intro n
  induction n using Nat.strongRecOn with
  | _ n ih =>
    intro s hi
    obtain ⟨⟨x, s'⟩, e, q⟩ := hs n s hi
    have hb : loopBody X (D X) (Lo X f) (Lo X f) f c s = loopE (Lo X f) c x s' := by
      rw [loopBody_eq, evC_stop, e]; rfl
    cases x with
    | normal =>
      obtain ⟨m, hm, hi'⟩ := q
      obtain ⟨r, e', q'⟩ := ih m hm s' hi'
      exact ⟨r, Lo_of (by rw [hb]; exact e'), q'⟩
    | exit id => exact ⟨(.exit id, s'), Lo_of (by rw [hb]; rfl), q⟩
    | ret => exact ⟨(.ret, s'), Lo_of (by rw [hb]; rfl), q⟩
theorem Ok.loop {X : Env} {f : FuncId} {c : Code} {R : Type} {k : Ex × St -> Option R} {Q : R -> Prop} (W : List Bool) (I : Nat -> St -> Prop) (E : Ex -> St -> Prop) (n : Nat) {s : St} (hi : I n s)
    (hs : ∀ n s', OutW W s.e s'.e -> I n s' -> Ok (evC X (D X) (Lo X f) f c s' stopK) (Turn (fun m s' => OutW W s.e s'.e /\ I m s') (fun x s' => OutW W s.e s'.e /\ E x s') n))
    (hk : ∀ x s', OutW W s.e s'.e -> E x s' -> Ok (k (x, s')) Q) : Ok (Ev.bnd (Lo X f c s) k) Q := by
  refine Ok.bnd2 (Lo_ok (I := fun m s' => OutW W s.e s'.e /\ I m s') (E := fun x s' => OutW W s.e s'.e /\ E x s') (fun n s' h => hs n s' h.1 h.2) n s ⟨.refl W s.e, hi⟩) fun x s' h => hk x s' h.1 h.2
end Go.Ev
namespace Go.Ev
theorem nat_cast_0 : ((0 : Nat) : Int) = 0 := rfl
theorem nat_cast_1 : ((1 : Nat) : Int) = 1 := rfl
theorem wrap_u64_0 : IntKind.u64.wrap 0 = 0 := by decide
theorem arr_empty {α : Type} : (#[] : Array α).isEmpty = true := rfl
theorem reps_0 (z : List V) : reps 0 z = [] := by simp [reps]
theorem reps_1 (z : List V) : reps 1 z = z := by simp [reps]
noncomputable def unrK (X : Env) (f : FuncId) (c : Code) {R : Type} (k : Ex × St -> Option R) : Ex -> St -> Option R
  | .normal, s => bnd (Lo X f c s) k
  | x, s => k (x, s)
section
variable {X : Env} {f : FuncId} {c : Code} {R : Type}
theorem unrK_n (k : Ex × St -> Option R) (s : St) : unrK X f c k .normal s = bnd (Lo X f c s) k := rfl
theorem unrK_e (k : Ex × St -> Option R) (id : Nat) (s : St) : unrK X f c k (.exit id) s = k (.exit id, s) := rfl
theorem unrK_r (k : Ex × St -> Option R) (s : St) : unrK X f c k .ret s = k (.ret, s) := rfl
theorem Ok.unroll {k : Ex × St -> Option R} {s : St} {Q : R -> Prop} (h : Ok (evC X (D X) (Lo X f) f c s (unrK X f c k)) Q) : Ok (Ev.bnd (Lo X f c s) k) Q := by
  obtain ⟨r, e, q⟩ := h
  rw [evC_stop] at e
  obtain ⟨⟨x, s'⟩, e1, e2⟩ := bnd_get e
  have hb : loopBody X (D X) (Lo X f) (Lo X f) f c s = loopE (Lo X f) c x s' := by
    rw [loopBody_eq, evC_stop, e1]; rfl
  cases x with
  | normal =>
    obtain ⟨p, e3, e4⟩ := bnd_get (x := Lo X f c s') e2
    exact ⟨r, by rw [Lo_of (hb.trans e3)]; exact e4, q⟩
  | exit id => exact ⟨r, by rw [Lo_of (hb.trans rfl)]; exact e2, q⟩
  | ret => exact ⟨r, by rw [Lo_of (hb.trans rfl)]; exact e2, q⟩
end
theorem loopN_more {X : Env} {n : Nat} (hC : LimC (fun m => callN X (n + m)) (callN X n)) {f : FuncId} : ∀ (k : Nat) (c : Code) (s : St) (r : Ex × St), loopN X (callN X n) f k c s = some r ->
    ∀ g : Nat -> Nat, (∀ b, ∃ N, ∀ m, N <= m -> b <= g m) -> Even (fun m => loopN X (callN X (n + m)) f (g m) c s) r
  | 0, c, s, r, h, g, hg => by cases h
  | k + 1, c, s, r, h, g, hg => by
    have hg' : ∀ b, ∃ N, ∀ m, N <= m -> b <= g m - 1 := fun b => let ⟨N, hN⟩ := hg (b + 1); ⟨N, fun m hm => by have := hN m hm; omega⟩
    have ih : LimL (fun m => loopN X (callN X (n + m)) f (g m - 1)) (loopN X (callN X n) f k) := fun c s r h => loopN_more hC k c s r h (fun m => g m - 1) hg'
    obtain ⟨N, hN⟩ := loopBody_lim hC ih ih h
    obtain ⟨N', hN'⟩ := hg 1
    refine ⟨max N N', fun m hm => ?_⟩
    have h1 := hN m (by omega)
    have h2 := hN' m (by omega)
    obtain ⟨q, hq⟩ : ∃ q, g m = q + 1 := ⟨g m - 1, by omega⟩
    simp only [hq,Nat.add_sub_cancel] at h1 ⊢
    exact h1
theorem callN_more {X : Env} : ∀ n : Nat, LimC (fun m => callN X (n + m)) (callN X n)
  | 0 => fun fv a h r e => by cases e
  | n + 1 => fun fv a h r e => by
    have hC := callN_more (X := X) n
    have hL : ∀ f, LimL (fun m => loopN X (callN X (n + m)) f (n + m)) (loopN X (callN X n) f n) := fun f c s r h =>
      loopN_more hC n c s r h (fun m => n + m) fun b => ⟨b, fun m hm => by omega⟩
    have e' : callBody X (callN X n) (fun f => loopN X (callN X n) f n) fv a h = some r := e
    have goal : Even (fun m => callBody X (callN X (n + m)) (fun f => loopN X (callN X (n + m)) f (n + m)) fv a h) r := by
      unfold callBody at e' ⊢
      cases fv with
      | fn f cap =>
        dsimp only at e' ⊢
        cases hp : X.pin f with
        | some b => rw [hp] at e'; exact .const e'
        | none => rw [hp] at e'; exact evBody_lim (Lf := fun m f => loopN X (callN X (n + m)) f (n + m)) hC hL e'
      | yld l => exact evRound_lim (Lf := fun m f => loopN X (callN X (n + m)) f (n + m)) hC hL e'
      | _ => cases e'
    obtain ⟨N, hN⟩ := goal
    refine ⟨N, fun m hm => ?_⟩
    have := hN m hm
    show callN X (n + 1 + m) fv a h = some r
    rw [show n + 1 + m = (n + m) + 1 by omega]
    exact this
theorem D_closed {X : Env} (n : Nat) {fv : V} {a : List V} {h : Heap} {r : V × Heap} (e : callN X n fv a h = some r) : D X fv a h = some r := by
  obtain ⟨N, hN⟩ := callN_more n fv a h r e
  refine last_some.2 ⟨n + N, fun m hm => ?_⟩
  have h1 : callN X (n + (m - n)) fv a h = some r := hN (m - n) (by omega)
  rw [show n + (m - n) = m by omega] at h1
  exact h1
theorem hcells_lt {h : Heap} {b g : Nat} {p : Bool × List V} (e : hcells h b g = some p) : b < h.length := by
  unfold hcells at e
  cases hx : h[b]? with
  | none => rw [hx] at e; cases e
  | some y => exact (List.getElem?_eq_some_iff.1 hx).1
theorem hcells_set_ne {h : Heap} {b l g : Nat} {x : Blk} (e : b ≠ l) : hcells (h.set l x) b g = hcells h b g := by
  unfold hcells; rw [List.getElem?_set_ne (Ne.symm e)]
theorem hcells_set_eq {h : Heap} {l g : Nat} {k : Bool} {c : List V} (e : l < h.length) : hcells (h.set l (.cells g k c)) l g = some (k, c) := by
  unfold hcells; rw [List.getElem?_set_self e]; exact grd_t rfl _
theorem hcells_app {h : Heap} {l : List Blk} {b g : Nat} (hb : b < h.length) : hcells (h ++ l) b g = hcells h b g := by
  unfold hcells; rw [List.getElem?_append_left hb]
theorem hcells_new {h : Heap} {g : Nat} {k : Bool} {c : List V} : hcells (h ++ [.cells g k c]) h.length g = some (k, c) := by
  unfold hcells
  rw [List.getElem?_append_right (Nat.le_refl _), Nat.sub_self]
  exact grd_t rfl _
theorem hcells_at {h : Heap} {i g g' : Nat} {k : Bool} {c : List V} (e : i = h.length) : hcells (h ++ [.cells g' k c]) i g = grd (g' = g) (some (k, c)) := by
  subst e
  unfold hcells
  rw [List.getElem?_append_right (Nat.le_refl _), Nat.sub_self]
  rfl
theorem hcells_ge {h l : Heap} {i g : Nat} (e : h.length <= i) : hcells (h ++ l) i g = hcells l (i - h.length) g := by
  unfold hcells; rw [List.getElem?_append_right e]
theorem hcells_c0 {l : Heap} {g g' : Nat} {k : Bool} {c : List V} : hcells (.cells g' k c :: l) 0 g = grd (g' = g) (some (k, c)) := rfl
theorem hcells_cs {l : Heap} {x : Blk} {i g : Nat} : hcells (x :: l) (i + 1) g = hcells l i g := rfl
theorem heap_set_ge {h l : Heap} {i : Nat} {x : Blk} (e : h.length <= i) : (h ++ l).set i x = h ++ l.set (i - h.length) x := List.set_append_right _ _ e
theorem heap_set_lt {h l : Heap} {i : Nat} {x : Blk} (e : i < h.length) : (h ++ l).set i x = h.set i x ++ l := List.set_append_left _ _ e
def Keeps (F : List Nat) (h h' : Heap) : Prop := h.length <= h'.length /\ ∀ b, b < h.length -> b ∉ F -> h'[b]? = h[b]?
theorem Keeps.refl (F : List Nat) (h : Heap) : Keeps F h h := ⟨Nat.le_refl _, fun _ _ _ => rfl⟩
theorem Keeps.trans {F : List Nat} {a b c : Heap} (h : Keeps F a b) (k : Keeps F b c) : Keeps F a c :=
  ⟨Nat.le_trans h.1 k.1, fun i hi hF => (k.2 i (Nat.lt_of_lt_of_le hi h.1) hF).trans (h.2 i hi hF)⟩
theorem Keeps.mono {F G : List Nat} {a b : Heap} (h : Keeps F a b) (hs : ∀ i, i < a.length -> i ∈ F -> i ∈ G) : Keeps G a b := ⟨h.1, fun i hi hG => h.2 i hi fun hF => hG (hs i hi hF)⟩
theorem Keeps.app (F : List Nat) (h : Heap) (l : List Blk) : Keeps F h (h ++ l) := ⟨by simp, fun b hb _ => List.getElem?_append_left hb⟩
theorem Keeps.set {F : List Nat} {a b : Heap} (h : Keeps F a b) {i : Nat} (hi : i ∈ F \/ a.length <= i) (x : Blk) : Keeps F a (b.set i x) :=
  ⟨by rw [List.length_set]; exact h.1, fun j hj hF => by
    rw [List.getElem?_set_ne, h.2 j hj hF]
    rintro rfl
    rcases hi with hi | hi
    · exact hF hi
    · omega⟩
theorem Keeps.cells {F : List Nat} {h h' : Heap} (k : Keeps F h h') {b g : Nat} {p : Bool × List V} (e : hcells h b g = some p) (hb : b ∉ F) : hcells h' b g = some p := by
  have := k.2 b (hcells_lt e) hb
  unfold hcells at e ⊢
  rw [this]; exact e
def loopAt (h : Heap) (l : Nat) : Option LoopR := match h[l]? with | some (.loop r) => some r | _ => none
theorem loopAt_lt {h : Heap} {l : Nat} {r : LoopR} (e : loopAt h l = some r) : l < h.length := by
  unfold loopAt at e
  cases hx : h[l]? with
  | none => rw [hx] at e; cases e
  | some y => exact (List.getElem?_eq_some_iff.1 hx).1
theorem loopAt_get {h : Heap} {l : Nat} {r : LoopR} (e : loopAt h l = some r) : h[l]? = some (.loop r) := by
  unfold loopAt at e
  split at e
  · rename_i r' hr; cases e; exact hr
  · cases e
theorem loopAt_set_ne {h : Heap} {b l : Nat} {x : Blk} (e : l ≠ b) : loopAt (h.set b x) l = loopAt h l := by
  unfold loopAt; rw [List.getElem?_set_ne (Ne.symm e)]
theorem loopAt_set_eq {h : Heap} {l : Nat} {r : LoopR} (e : l < h.length) : loopAt (h.set l (.loop r)) l = some r := by
  unfold loopAt; rw [List.getElem?_set_self e]
theorem loopAt_app {h : Heap} {l : List Blk} {b : Nat} (hb : b < h.length) : loopAt (h ++ l) b = loopAt h b := by
  unfold loopAt; rw [List.getElem?_append_left hb]
theorem Keeps.loop {F : List Nat} {h h' : Heap} (k : Keeps F h h') {l : Nat} {r : LoopR} (e : loopAt h l = some r) (hb : l ∉ F) : loopAt h' l = some r := by
  have := k.2 l (loopAt_lt e) hb
  unfold loopAt at e ⊢
  rw [this]; exact e
noncomputable def asgK (X : Env) (l : Nat) (fn : FuncId) (body : Code) : Ex -> St -> Option (V × Heap)
  | .normal, s => bnd (beginRound l s) fun s' => evC X (D X) (Lo X fn) fn body s' (endRound l)
  | _, _ => none
noncomputable def asgM (X : Env) (l : Nat) (fn : FuncId) (body : Code) (e : List TV) (lc : Locs) (h : Heap) : Option LoopR -> Option (V × Heap)
  | some r => grd (r.state = 0) (evC X (D X) (Lo X fn) fn body ⟨e, lc, h.set l (.loop { r with state := 1 })⟩ (endRound l))
  | none => none
theorem asgM_s {X : Env} {l : Nat} {fn : FuncId} {body : Code} {e : List TV} {lc : Locs} {h : Heap} {r : LoopR} :
    asgM X l fn body e lc h (some r) = grd (r.state = 0) (evC X (D X) (Lo X fn) fn body ⟨e, lc, h.set l (.loop { r with state := 1 })⟩ (endRound l)) := rfl
theorem asgK_n {X : Env} {l : Nat} {fn : FuncId} {body : Code} {e : List TV} {lc : Locs} {h : Heap} : asgK X l fn body .normal ⟨e, lc, h⟩ = asgM X l fn body e lc h (loopAt h l) := by
  simp only [asgK,beginRound,loopAt]
  cases hx : h[l]? with
  | none => rfl
  | some b =>
    cases b with
    | loop r =>
      simp only [asgM]
      unfold grd
      split <;> rfl
    | cells g k c => rfl
    | map ex es c => rfl
def endM (x : Ex) (l : Nat) (lc : Locs) (h : Heap) : Option LoopR -> Option (V × Heap)
  | some r => match x with
    | .normal => some (.bool true, h.set l (.loop { r with state := 0, pending := none, l := lc, lent := false }))
    | .ret => some (.bool false, h.set l (.loop { r with state := 2, pending := some .ret, l := lc, lent := false }))
    | .exit id => some (.bool false, h.set l (.loop { r with state := 2, pending := some (.exit id), l := lc, lent := false }))
  | none => none
theorem endM_n {l : Nat} {lc : Locs} {h : Heap} {r : LoopR} : endM .normal l lc h (some r) = some (.bool true, h.set l (.loop { r with state := 0, pending := none, l := lc, lent := false })) := rfl
theorem endM_r {l : Nat} {lc : Locs} {h : Heap} {r : LoopR} : endM .ret l lc h (some r) = some (.bool false, h.set l (.loop { r with state := 2, pending := some .ret, l := lc, lent := false })) := rfl
theorem endM_e {l id : Nat} {lc : Locs} {h : Heap} {r : LoopR} : endM (.exit id) l lc h (some r) = some (.bool false, h.set l (.loop { r with state := 2, pending := some (.exit id), l := lc, lent := false })) := rfl
theorem endRound_eq {x : Ex} {l : Nat} {e : List TV} {lc : Locs} {h : Heap} : endRound l x ⟨e, lc, h⟩ = endM x l lc h (loopAt h l) := by
  simp only [endRound,loopAt]
  cases hx : h[l]? with
  | none => rfl
  | some b =>
    cases b with
    | loop r => cases x <;> rfl
    | cells g k c => rfl
    | map ex es c => rfl
def endFM {R : Type} (k : Ex -> St -> Option R) (e : List TV) (l : Nat) (h : Heap) : Option LoopR -> Option R
  | some r => grd (r.state ≠ 1 /\ r.lent = false) (
      match r.pending with
      | none => k .normal ⟨e, r.l, h.set l (.loop { r with state := 3, lent := true })⟩
      | some .ret => k .ret ⟨e, r.l, h.set l (.loop { r with state := 3, lent := true })⟩
      | some (.exit id) => k (.exit id) ⟨e, r.l, h.set l (.loop { r with state := 3, lent := true })⟩
      | _ => none)
  | none => none
theorem endRF_eq {R : Type} {k : Ex -> St -> Option R} {e : List TV} {l : Nat} {h : Heap} : endRF k e l h = endFM k e l h (loopAt h l) := by
  simp only [endRF,loopAt]
  cases hx : h[l]? with
  | none => rfl
  | some b =>
    cases b with
    | loop r => rfl
    | cells g k c => rfl
    | map ex es c => rfl
section
variable {R : Type} {k : Ex -> St -> Option R} {e e' : List TV} {l : Nat} {h : Heap} {fn : FuncId} {lc : Locs} {ps : List Tmp} {a b : Code}
theorem endFM_n : endFM k e l h (some ⟨0, none, fn, e', lc, ps, a, b, false⟩) = k .normal ⟨e, lc, h.set l (.loop ⟨3, none, fn, e', lc, ps, a, b, true⟩)⟩ := grd_t ⟨(by simp), rfl⟩ _
theorem endFM_r : endFM k e l h (some ⟨2, some .ret, fn, e', lc, ps, a, b, false⟩) = k .ret ⟨e, lc, h.set l (.loop ⟨3, some .ret, fn, e', lc, ps, a, b, true⟩)⟩ := grd_t ⟨(by simp), rfl⟩ _
theorem endFM_e {id : Nat} : endFM k e l h (some ⟨2, some (.exit id), fn, e', lc, ps, a, b, false⟩) = k (.exit id) ⟨e, lc, h.set l (.loop ⟨3, some (.exit id), fn, e', lc, ps, a, b, true⟩)⟩ := grd_t ⟨(by simp), rfl⟩ _
end
theorem loopAt_ge {h l : Heap} {i : Nat} (e : h.length <= i) : loopAt (h ++ l) i = loopAt l (i - h.length) := by
  unfold loopAt; rw [List.getElem?_append_right e]
theorem loopAt_c0 {l : Heap} {r : LoopR} : loopAt (.loop r :: l) 0 = some r := rfl
theorem loopAt_cs {l : Heap} {x : Blk} {i : Nat} : loopAt (x :: l) (i + 1) = loopAt l i := rfl
theorem Ok.round {X : Env} {l : Nat} {args : List V} {h : Heap} {r : LoopR} {Q : V × Heap -> Prop} (hl : loopAt h l = some r) (hlen : args.length = r.params.length) (ht : r.lent = false)
    (hh : Ok (evC X (D X) (Lo X r.fn) r.fn r.assign ⟨setArgs r.e r.params args, r.l, h.set l (.loop { r with lent := true })⟩ (asgK X l r.fn r.body)) Q) : Ok (D X (.yld l) args h) Q := by
  obtain ⟨q, e, p⟩ := hh
  refine ⟨q, D_yld ?_, p⟩
  unfold evRound
  rw [loopAt_get hl]
  dsimp only
  rw [grd_t ⟨hlen, ht⟩, <- e]
  congr 1
  funext x s
  cases x <;> rfl
def rfK {R : Type} (k : Ex -> St -> Option R) (e : List TV) (l : Nat) (p : V × Heap) : Option R := endRF k e l p.2
theorem rfK_eq {R : Type} (k : Ex -> St -> Option R) (e : List TV) (l : Nat) (v : V) (h : Heap) : rfK k e l (v, h) = endRF k e l h := rfl
theorem evC_rf {X : Env} {C : CallSem} {L : LoopSem} {f : FuncId} {R : Type} (g : Operand) (ps : Array Tmp) (a b : Code) (s : St) (k : Ex -> St -> Option R) :
    evC X C L f (.rangeFunc g ps a b) s k = (match opd s.e g with
      | .v (.fn gf cap) => bnd (C (.fn gf cap) [.yld s.h.length] (s.h ++ [.loop { state := 0, pending := none, fn := f, e := s.e, l := s.l, params := ps.toList, assign := a, body := b, lent := false }])) (rfK k s.e s.h.length)
      | _ => none) := rfl
def rangesOf : Code -> List (Code × Code)
  | .rangeFunc _ _ a b => (a, b) :: (rangesOf a ++ rangesOf b)
  | .seq a b => rangesOf a ++ rangesOf b
  | .cond _ a b => rangesOf a ++ rangesOf b
  | .block _ c => rangesOf c
  | .scope c => rangesOf c
  | .loop c => rangesOf c
  | _ => []
theorem expand {e : List TV} : ∀ (n : Nat) (pre : List TV), e.length = n -> e = spread (List.replicate n true) (List.replicate n .u) (pre ++ e) pre.length := fun n pre h =>
  spread_of _ _ e pre (by
    induction n generalizing e pre with
    | zero => simp only [List.length_eq_zero_iff.1 h]; rfl
    | succ n ih =>
      cases e with
      | nil => cases h
      | cons v e =>
        simp only [List.replicate_succ,mask,cond_true,List.cons.injEq,true_and]
        exact ih [] (by simpa using h))
theorem expand' {e : List TV} {n : Nat} (h : e.length = n) : e = spread (List.replicate n true) (List.replicate n .u) e 0 := expand n [] h
end Go.Ev
namespace Go.Ev
open Go.Proofs
def slotTab : FuncId -> List Tmp
  | 3 => [3, 7, 10, 14, 16, 18, 20, 65]
  | 4 => [2, 8, 9, 11, 13, 15, 16]
  | 6 => [4, 10]
  | 7 => [7, 10, 11, 13]
  | 8 => [13]
  | 9 => [12, 19, 20]
  | 10 => [1]
  | 11 => [5, 6, 8, 9, 10]
  | 12 => [1, 4]
  | 13 => [3, 6]
  | 14 => [12, 13]
  | 15 => [3, 4]
  | 16 => [4, 5, 9, 11]
  | 18 => [3, 5, 7, 9, 14]
  | 19 => [3, 4]
  | 20 => [2, 3]
  | 22 => [3, 4, 5, 7, 8, 11]
  | 23 => [2, 3]
  | 24 => [7]
  | 25 => [23, 53, 62, 71]
  | 27 => [1]
  | 28 => [4]
  | 29 => [5, 7, 9, 135]
  | 30 => [4, 6, 8, 11, 14, 29]
  | 31 => [2, 3]
  | 32 => [1]
  | 33 => [3, 6, 7, 10, 67, 77]
  | 34 => [3]
  | 35 => [2, 3, 14]
  | 36 => [1]
  | 37 => [2, 3]
  | 42 => [3, 4, 6]
  | 43 => [3, 5]
  | 44 => [1]
  | 46 => [3, 4, 5]
  | 47 => [3, 4]
  | 48 => [2, 3, 4, 5]
  | 49 => [3, 4, 148]
  | 50 => [2, 3]
  | 51 => [3, 8, 28, 32, 39]
  | 52 => [3, 4]
  | 53 => [4, 5, 11]
  | 55 => [1]
  | 56 => [7]
  | 57 => [4, 5, 8, 9, 10, 32]
  | 59 => [4]
  | 60 => [3, 8, 22, 26, 33]
  | 61 => [3, 5, 7, 9, 11, 122]
  | 64 => [5, 6, 10, 24, 69]
  | 66 => [3, 4]
  | 67 => [6]
  | 71 => [1, 2]
  | 72 => [1]
  | 73 => [1]
  | 74 => [2, 3]
  | 75 => [1]
  | 76 => [4]
  | 77 => [3, 4, 5]
  | 78 => [8, 39]
  | 79 => [4, 5, 6, 9]
  | 80 => [3]
  | 81 => [3, 5, 37]
  | 83 => [5]
  | 84 => [3, 6]
  | 85 => [2, 3]
  | 86 => [1]
  | 91 => [4, 24]
  | 92 => [2, 3]
  | 93 => [2, 3]
  | 96 => [2, 3]
  | 98 => [2, 3]
  | 102 => [7, 8, 42]
  | 103 => [5]
  | 104 => [4, 5]
  | 107 => [2, 3]
  | 109 => [3]
  | 110 => [4, 5]
  | 111 => [8, 9, 10, 12, 13, 17, 35, 43, 66]
  | 113 => [2, 3]
  | 119 => [2, 3]
  | 120 => [1]
  | 121 => [2, 3, 4]
  | _ => []
def planTab : FuncId -> Nat -> List PE
  | 3, 24 => [(0, [], []), (1, [], []), (2, [2], []), (3, [2], []), (4, [], []), (5, [], []), (6, [3], []), (7, [], []), (8, [], []), (9, [], []), (10, [], []), (11, [], []), (12, [], []), (13, [], []), (14, [5], []), (15, [3], []), (16, [], []), (17, [], []), (18, [], []), (19, [], [])]
  | 6, 5 => [(0, [0], []), (1, [], []), (2, [], []), (3, [0], []), (4, [0], []), (5, [], []), (6, [], []), (7, [], []), (8, [], []), (9, [], []), (10, [], []), (11, [], []), (12, [], [])]
  | 6, 9 => [(0, [], []), (1, [], []), (2, [], []), (3, [], []), (4, [], []), (5, [], []), (6, [], []), (7, [], []), (8, [], []), (9, [0], []), (10, [], [(5, []), (8, [])]), (11, [], []), (12, [], [])]
  | 6, 11 => [(0, [], []), (1, [], []), (2, [], []), (3, [], []), (4, [], []), (5, [], []), (6, [], []), (7, [0], []), (12, [], []), (8, [], []), (9, [], []), (10, [], []), (11, [], []), (13, [1], []), (14, [], [])]
  | 7, 23 => [(0, [], []), (1, [], []), (2, [], []), (3, [], []), (4, [], []), (5, [], []), (6, [], []), (7, [], []), (8, [], []), (9, [], []), (10, [], []), (11, [], []), (12, [], []), (13, [2], [])]
  | 7, 27 => [(0, [], []), (1, [], []), (2, [], []), (3, [], []), (4, [], []), (5, [], []), (6, [], []), (7, [2], []), (12, [], []), (8, [], []), (9, [], []), (10, [], []), (11, [], []), (13, [3], []), (14, [], [])]
  | 8, 13 => [(0, [], []), (1, [], []), (2, [], []), (3, [], []), (4, [], []), (5, [], []), (6, [], []), (7, [], []), (8, [], []), (9, [], []), (10, [], []), (11, [], []), (12, [], []), (13, [], []), (14, [], [(3, [])]), (15, [], []), (16, [], [])]
  | 9, 22 => [(0, [], []), (1, [], []), (2, [], []), (3, [], []), (4, [], []), (5, [0], []), (6, [], []), (7, [], []), (8, [], []), (9, [], []), (10, [], []), (11, [], []), (12, [0], []), (13, [0], []), (14, [], []), (15, [], []), (16, [], []), (17, [], [])]
  | 12, 8 => [(0, [1], []), (1, [], []), (2, [], []), (3, [], []), (4, [], []), (5, [], []), (6, [], []), (7, [0], []), (8, [0], []), (9, [], []), (10, [], []), (11, [], []), (12, [], []), (13, [1], []), (14, [], []), (15, [], []), (16, [], []), (17, [], [])]
  | 14, 7 => [(0, [], []), (1, [], []), (2, [], []), (3, [], []), (4, [0], []), (5, [0], []), (10, [], []), (6, [], []), (7, [], []), (8, [], []), (9, [], []), (11, [1], []), (12, [], [])]
  | 14, 8 => [(0, [], []), (1, [], []), (2, [], []), (3, [0], []), (4, [0], []), (5, [0], []), (6, [], []), (7, [], []), (8, [], []), (9, [], []), (10, [], []), (11, [], []), (12, [], []), (13, [], []), (14, [0], []), (15, [], []), (16, [], []), (17, [], [])]
  | 15, 1 => [(0, [], []), (1, [], []), (2, [], []), (3, [0], []), (4, [0], []), (5, [], []), (6, [], []), (7, [], []), (8, [], []), (9, [], []), (10, [], []), (11, [], []), (12, [0], []), (13, [0], []), (14, [], []), (15, [], []), (16, [], []), (17, [], []), (18, [], []), (19, [], []), (20, [], []), (21, [0], []), (22, [0], []), (23, [], []), (24, [], []), (25, [], []), (26, [], []), (27, [], []), (28, [], []), (29, [], []), (30, [0], []), (31, [0], []), (32, [], []), (33, [], []), (34, [], []), (35, [0], []), (36, [0], []), (37, [], []), (38, [], [])]
  | 15, 3 => [(0, [], []), (1, [], []), (2, [], []), (3, [], []), (4, [0], []), (5, [0], []), (6, [], []), (7, [], []), (8, [], []), (9, [0], []), (10, [0], []), (11, [], []), (12, [], []), (13, [], []), (14, [], []), (15, [], []), (16, [], []), (17, [], []), (18, [], []), (19, [0], []), (20, [0], []), (21, [0], []), (22, [0], []), (23, [], []), (24, [], []), (25, [], [])]
  | 16, 15 => [(0, [3], []), (1, [3], []), (2, [], []), (3, [], []), (4, [3], []), (5, [3], []), (6, [0], []), (7, [0], []), (8, [], []), (9, [], []), (10, [], []), (11, [3], []), (12, [3], []), (13, [], []), (14, [], []), (15, [], []), (16, [3], []), (17, [3], []), (18, [], []), (19, [], []), (20, [], []), (21, [3], []), (22, [3], []), (23, [], []), (24, [], []), (25, [], []), (26, [], []), (27, [], []), (28, [], [(22, [3])]), (29, [], []), (30, [], []), (31, [], [])]
  | 18, 5 => [(0, [1], []), (1, [2], []), (2, [], []), (3, [1], [(1, [2])]), (4, [], []), (5, [2], []), (6, [], [])]
  | 18, 8 => [(0, [3], []), (1, [2], []), (2, [], []), (3, [1], [(1, [2])]), (4, [], []), (5, [2], []), (6, [], [])]
  | 18, 10 => [(0, [1], []), (1, [1], []), (2, [], []), (3, [1], []), (4, [], []), (5, [2], []), (6, [], [])]
  | 18, 12 => [(0, [1], []), (1, [1], []), (2, [1], []), (3, [1], []), (4, [1], []), (5, [], []), (6, [], []), (7, [1], []), (8, [], []), (9, [2], []), (10, [], [])]
  | 18, 16 => [(0, [1], []), (1, [2], []), (2, [], []), (3, [1], [(1, [2])]), (4, [], []), (5, [2], []), (6, [], [])]
  | 18, 19 => [(0, [1], []), (1, [1], []), (2, [1], []), (3, [1], []), (4, [], []), (5, [1], []), (6, [], []), (7, [2], []), (8, [], [])]
  | 18, 20 => [(0, [1], []), (1, [2], []), (2, [], []), (3, [1], [(1, [2])]), (4, [], []), (5, [2], []), (6, [], [])]
  | 18, 33 => [(0, [], []), (1, [3], []), (2, [3], []), (4, [2], []), (3, [], [(4, [2])]), (5, [], []), (6, [1], [(4, [2])]), (7, [], []), (8, [2], []), (9, [], [])]
  | 18, 34 => [(0, [1], []), (1, [1], []), (2, [], []), (3, [], []), (4, [1], []), (5, [], []), (6, [2], []), (7, [], [])]
  | 18, 37 => [(0, [1], []), (1, [1], []), (2, [], []), (3, [1], []), (4, [], []), (5, [2], []), (6, [], [])]
  | 18, 40 => [(0, [3], []), (1, [3], []), (2, [], []), (3, [1], [(1, [3])]), (4, [], []), (5, [2], []), (6, [], [])]
  | 18, 42 => [(0, [1], []), (1, [1], []), (2, [], []), (3, [1], []), (4, [], []), (5, [2], []), (6, [], [])]
  | 18, 44 => [(0, [1], []), (1, [1], []), (2, [], []), (3, [1], []), (4, [], []), (5, [2], []), (6, [], [])]
  | 19, 3 => [(0, [], []), (1, [], []), (2, [], []), (3, [], []), (4, [0], []), (5, [], []), (6, [], []), (7, [], []), (8, [1], []), (9, [], [])]
  | 22, 5 => [(0, [], []), (1, [], []), (2, [], []), (3, [], []), (4, [], []), (5, [], []), (6, [], []), (7, [], []), (8, [], []), (9, [], []), (10, [], []), (11, [], []), (14, [], []), (12, [], [(3, [])]), (13, [], []), (15, [3], [])]
  | 22, 7 => [(0, [], []), (1, [], []), (2, [], []), (3, [], []), (4, [0], []), (5, [3], []), (6, [], []), (7, [], []), (8, [], []), (9, [], []), (10, [], []), (11, [], [])]
  | 22, 12 => [(0, [3], []), (1, [], []), (2, [], [(0, [3])]), (3, [1], []), (4, [2], []), (5, [], [])]
  | 29, 6 => [(0, [], []), (1, [], []), (2, [], []), (3, [], []), (4, [], []), (5, [], []), (6, [], []), (7, [], []), (8, [], []), (9, [], []), (10, [], []), (11, [], []), (12, [1], []), (13, [], [(3, [])]), (14, [], []), (15, [], [])]
  | 29, 13 => [(0, [], []), (1, [], []), (2, [], []), (3, [], []), (4, [], []), (5, [], []), (6, [2], []), (7, [2], []), (8, [], []), (9, [], []), (10, [], []), (11, [], []), (12, [2], []), (13, [2], []), (14, [], []), (15, [], []), (16, [], []), (17, [], []), (18, [2], []), (19, [2], []), (20, [], []), (21, [], []), (22, [], []), (23, [2], []), (24, [2], []), (25, [], []), (26, [], []), (27, [], []), (28, [], []), (29, [], []), (30, [], []), (31, [], []), (32, [], []), (33, [2], []), (34, [2], []), (35, [], []), (36, [], []), (37, [], []), (38, [], []), (39, [], [])]
  | 29, 14 => [(0, [], []), (1, [], []), (2, [], []), (3, [], []), (4, [], []), (5, [], []), (6, [], []), (7, [], []), (8, [], []), (9, [], []), (10, [], []), (11, [], []), (12, [], []), (13, [], []), (14, [], []), (15, [], []), (16, [], []), (17, [], []), (18, [], []), (19, [], []), (20, [2], []), (21, [2], []), (22, [], []), (23, [], []), (24, [], []), (25, [], []), (26, [], []), (27, [], []), (28, [], []), (29, [], []), (30, [], []), (31, [], []), (32, [], []), (33, [], []), (34, [], []), (35, [], []), (36, [], []), (37, [], [])]
  | 29, 15 => [(0, [], []), (1, [], []), (2, [], []), (3, [], []), (4, [], []), (5, [2], []), (6, [], []), (7, [3], []), (8, [], []), (9, [], []), (10, [], [])]
  | 30, 11 => [(0, [], []), (1, [], []), (2, [], []), (3, [], []), (4, [2], []), (5, [], []), (6, [], [])]
  | 30, 12 => [(0, [], []), (1, [], []), (2, [], []), (3, [], []), (4, [2], []), (5, [], [])]
  | 30, 20 => [(0, [], []), (1, [], []), (2, [], []), (3, [], []), (4, [3], []), (5, [], []), (6, [], [])]
  | 30, 21 => [(0, [], []), (1, [], []), (2, [], []), (3, [], []), (4, [3], []), (5, [], [])]
  | 30, 22 => [(0, [], []), (1, [], []), (2, [], []), (3, [], []), (4, [3], []), (5, [], []), (6, [], []), (7, [], []), (8, [], []), (9, [], [])]
  | 30, 23 => [(11, [], [])]
  | 30, 24 => [(0, [], []), (1, [], []), (2, [], []), (3, [], []), (4, [3], []), (5, [], [])]
  | 31, 6 => [(0, [0], []), (1, [0], []), (2, [], []), (3, [], []), (4, [], []), (5, [1], []), (6, [1], []), (7, [], []), (8, [], []), (9, [], []), (10, [], [])]
  | 33, 1 => [(0, [0], []), (1, [0], []), (2, [], []), (3, [], []), (4, [], []), (5, [], []), (6, [], []), (7, [], []), (8, [], [])]
  | 33, 6 => [(0, [], []), (1, [], []), (2, [], []), (3, [], []), (4, [], []), (5, [], []), (6, [], []), (7, [0], []), (8, [0], []), (14, [], []), (15, [], []), (9, [], []), (10, [], []), (11, [], []), (12, [], []), (13, [], []), (16, [1], []), (17, [2], []), (18, [], [])]
  | 33, 10 => [(0, [], []), (1, [], []), (2, [], []), (3, [], []), (4, [], []), (5, [1], []), (6, [], []), (7, [4], []), (8, [], []), (9, [], []), (10, [], [])]
  | 33, 17 => [(0, [0], []), (1, [0], []), (2, [], []), (3, [], []), (4, [], []), (5, [], []), (6, [], []), (7, [], []), (8, [], [])]
  | 33, 20 => [(0, [], []), (2, [], []), (3, [], []), (4, [], []), (5, [], []), (6, [], []), (7, [], []), (9, [], []), (10, [], []), (11, [], []), (12, [], []), (13, [], []), (14, [], []), (15, [], []), (1, [], [(5, []), (12, [])]), (8, [], [(12, [])]), (16, [], []), (17, [], []), (18, [], []), (19, [], [])]
  | 33, 26 => [(0, [], []), (1, [], []), (2, [], []), (3, [], []), (4, [], []), (5, [], []), (6, [], []), (7, [], []), (8, [], []), (9, [], []), (10, [], []), (11, [], []), (12, [], []), (13, [], []), (14, [], []), (15, [], []), (16, [], []), (17, [], [])]
  | 33, 31 => [(0, [], []), (1, [], []), (2, [], []), (3, [], []), (4, [], []), (5, [], []), (6, [], []), (7, [], []), (8, [], []), (9, [], []), (10, [], []), (11, [], []), (12, [], []), (13, [], []), (14, [], [])]
  | 34, 1 => [(0, [], []), (1, [], []), (2, [], []), (3, [], []), (4, [0], []), (5, [0], []), (6, [], []), (7, [], []), (8, [], []), (9, [], []), (10, [], []), (11, [], []), (12, [], []), (13, [], []), (14, [0], []), (15, [0], []), (16, [], []), (17, [], []), (18, [], []), (19, [], [])]
  | 34, 2 => [(0, [], []), (1, [0], []), (2, [0], []), (3, [], []), (4, [], []), (5, [], []), (6, [], []), (7, [0], []), (8, [0], []), (9, [], []), (10, [], []), (11, [0], []), (12, [], [(2, [0])]), (13, [], [])]
  | 42, 3 => [(0, [], []), (1, [], []), (2, [], []), (3, [], []), (4, [0], []), (9, [], []), (5, [], []), (6, [], []), (7, [], []), (8, [], []), (10, [2], []), (11, [], [])]
  | 43, 5 => [(0, [], []), (1, [], []), (2, [], []), (3, [], []), (4, [0], []), (5, [0], []), (10, [], []), (6, [], []), (7, [], []), (8, [], []), (9, [], []), (11, [1], []), (12, [], [])]
  | 43, 8 => [(0, [], []), (1, [], []), (2, [], []), (3, [], []), (4, [0], []), (5, [0], []), (6, [0], []), (7, [], [(3, []), (5, [0])]), (8, [], [])]
  | 46, 1 => [(0, [], []), (1, [0], []), (2, [0], []), (3, [0], []), (5, [0], []), (6, [0], []), (7, [], []), (8, [], []), (4, [], [(6, [0])]), (9, [1], [(6, [0])]), (10, [2], [])]
  | 46, 6 => [(0, [], []), (1, [], []), (2, [], []), (3, [], []), (4, [2], []), (5, [2], []), (6, [], [])]
  | 47, 2 => [(0, [], []), (1, [], []), (2, [], []), (3, [], []), (4, [0], []), (5, [0], []), (6, [], [])]
  | 49, 2 => [(0, [], []), (1, [], []), (2, [], []), (3, [], []), (4, [1], []), (5, [1], []), (6, [], []), (7, [], [])]
  | 49, 5 => [(0, [], []), (1, [], []), (2, [], []), (3, [], []), (4, [1], []), (5, [1], []), (6, [], [])]
  | 49, 6 => [(0, [], []), (1, [], []), (2, [], []), (3, [], []), (4, [1], []), (5, [1], []), (6, [], [])]
  | 49, 7 => [(0, [], []), (1, [], []), (2, [], []), (3, [], []), (4, [1], []), (5, [1], []), (6, [], []), (7, [], []), (8, [], []), (9, [], []), (10, [1], []), (11, [1], []), (13, [1], []), (14, [1], []), (15, [1], []), (12, [], [(3, []), (5, [1]), (15, [1])]), (16, [], []), (17, [], [])]
  | 49, 9 => [(0, [], []), (1, [], []), (2, [], []), (3, [], []), (4, [], []), (5, [], []), (6, [], []), (7, [], []), (8, [], []), (9, [], []), (10, [], []), (11, [1], []), (12, [1], []), (13, [], []), (14, [], []), (15, [], []), (16, [], []), (17, [0], []), (18, [0], []), (19, [], []), (20, [], []), (21, [], []), (22, [], []), (23, [], [])]
  | 49, 10 => [(0, [], []), (1, [0], []), (2, [0], []), (3, [], []), (4, [], []), (5, [], []), (6, [], [])]
  | 49, 13 => [(0, [], []), (1, [], []), (2, [], []), (3, [], []), (4, [], []), (5, [], []), (6, [1], []), (7, [1], []), (8, [], []), (9, [], []), (10, [], []), (11, [], []), (12, [], []), (13, [], []), (14, [], []), (15, [], []), (16, [1], []), (17, [1], []), (18, [], []), (19, [], []), (20, [], []), (21, [], []), (22, [], []), (23, [], []), (24, [], []), (25, [], []), (26, [], []), (27, [], [])]
  | 49, 14 => [(0, [], []), (1, [], []), (2, [], []), (3, [], []), (4, [], []), (5, [], []), (6, [1], []), (7, [1], []), (8, [], []), (9, [], []), (10, [], []), (11, [], []), (12, [], []), (13, [1], []), (14, [1], []), (15, [], [(5, []), (7, [1])]), (16, [], [(5, []), (7, [1])]), (17, [], []), (18, [], []), (19, [], []), (20, [], []), (21, [], []), (22, [], [])]
  | 49, 16 => [(0, [], []), (1, [], []), (2, [], []), (3, [], []), (4, [], []), (5, [0], []), (6, [0], []), (7, [1], []), (8, [], []), (9, [], []), (10, [2], []), (11, [], []), (12, [], []), (13, [], [])]
  | 54, 6 => [(0, [], []), (1, [], []), (2, [], []), (3, [], []), (4, [], []), (5, [], []), (6, [], []), (7, [], []), (8, [], [])]
  | 57, 8 => [(0, [2], []), (1, [], []), (2, [3], []), (3, [], []), (4, [], [])]
  | 59, 3 => [(0, [], []), (1, [], []), (2, [], []), (3, [], []), (4, [], []), (5, [], []), (6, [], []), (7, [], []), (8, [], [])]
  | 59, 4 => [(0, [], []), (1, [], []), (2, [], []), (3, [], []), (4, [0], []), (5, [0], []), (6, [], []), (7, [], [])]
  | 61, 18 => [(0, [], []), (1, [], []), (2, [], []), (3, [], []), (4, [], []), (5, [], []), (6, [], []), (7, [], []), (8, [], []), (9, [], []), (10, [], []), (11, [], []), (12, [], []), (13, [], [])]
  | 61, 25 => [(0, [], []), (1, [], []), (2, [], []), (3, [], []), (4, [], []), (5, [0], []), (6, [], []), (7, [5], []), (8, [], []), (9, [], []), (10, [], [])]
  | 64, 9 => [(0, [0], []), (1, [], []), (2, [], []), (3, [], [(0, [0])]), (4, [], []), (5, [0], [])]
  | 64, 14 => [(0, [2], []), (1, [], []), (2, [], []), (3, [], []), (4, [], []), (5, [], []), (6, [], []), (7, [], []), (8, [2], []), (9, [2], []), (10, [], []), (11, [], []), (12, [], [])]
  | 65, 2 => [(0, [], []), (1, [], []), (2, [], []), (3, [], []), (4, [], []), (5, [], []), (6, [], []), (7, [], []), (9, [], []), (10, [], []), (11, [], []), (12, [], []), (13, [], []), (16, [], []), (18, [], []), (8, [], [(12, [])]), (14, [], []), (15, [], []), (17, [], []), (19, [], []), (20, [], [])]
  | 66, 2 => [(0, [1], []), (1, [1], []), (2, [1], []), (3, [], []), (4, [], []), (5, [], []), (6, [], []), (7, [0], []), (8, [], [(2, [1])]), (9, [], []), (10, [], []), (11, [], [])]
  | 66, 6 => [(0, [1], []), (1, [1], []), (2, [0], []), (3, [1], []), (4, [1], []), (5, [], []), (6, [], []), (7, [], []), (8, [], []), (9, [], []), (10, [1], []), (11, [], []), (12, [], [(1, [1]), (2, [0]), (4, [1])]), (13, [], []), (14, [], []), (15, [], [])]
  | 66, 7 => [(0, [], []), (1, [], []), (2, [], []), (3, [], []), (4, [], []), (5, [], []), (6, [], []), (7, [], []), (8, [], [])]
  | 66, 8 => [(0, [], []), (1, [], []), (2, [], []), (3, [], []), (4, [0], []), (5, [], []), (6, [], [])]
  | 76, 4 => [(0, [0], []), (1, [], []), (2, [], []), (3, [], []), (4, [], []), (5, [], []), (6, [], []), (7, [], []), (8, [], []), (9, [], []), (10, [], []), (11, [], []), (12, [0], []), (13, [], []), (14, [], []), (15, [], []), (16, [], [])]
  | 77, 1 => [(0, [], []), (1, [], []), (2, [], []), (3, [], []), (4, [0], []), (9, [], []), (5, [], []), (6, [], []), (7, [], []), (8, [], []), (10, [2], []), (11, [], [])]
  | 78, 1 => [(0, [0], []), (1, [0], []), (2, [0], []), (4, [0], []), (5, [0], []), (3, [], [(5, [0])]), (7, [0], []), (8, [0], []), (6, [], []), (9, [0], []), (10, [0], []), (11, [0], [])]
  | 78, 2 => [(0, [], []), (1, [], []), (2, [], []), (3, [], []), (4, [], []), (5, [], []), (6, [], []), (7, [], []), (8, [], []), (9, [], []), (10, [], []), (11, [], []), (12, [], []), (13, [], []), (14, [], []), (15, [], []), (16, [0], []), (17, [], []), (18, [], []), (19, [], []), (20, [1], []), (21, [], []), (22, [], []), (23, [], []), (24, [], [])]
  | 79, 7 => [(0, [], []), (1, [], []), (2, [], []), (3, [], []), (4, [2], []), (5, [2], []), (6, [2], []), (7, [2], []), (8, [], []), (9, [], []), (10, [], []), (11, [], []), (12, [], []), (13, [], [])]
  | 79, 9 => [(0, [2], []), (1, [2], []), (2, [], []), (3, [2], []), (4, [2], []), (5, [], []), (6, [], []), (7, [2], []), (8, [2], []), (11, [3], []), (9, [], [(1, [2]), (4, [2])]), (10, [], [(1, [2]), (4, [2])]), (12, [3], [(4, [2])]), (13, [3], []), (14, [3], []), (15, [3], []), (16, [3], [])]
  | 80, 1 => [(0, [], []), (1, [], []), (2, [], []), (3, [], []), (4, [0], []), (5, [0], []), (6, [], []), (7, [], [])]
  | 80, 2 => [(0, [], []), (1, [], []), (2, [], []), (3, [], []), (4, [], []), (5, [], []), (6, [], []), (7, [0], []), (8, [0], []), (9, [], []), (10, [], [])]
  | 80, 3 => [(0, [], []), (1, [], []), (2, [], []), (3, [], []), (4, [0], []), (5, [0], []), (6, [], [])]
  | 81, 1 => [(0, [], []), (1, [], []), (2, [], []), (3, [], []), (4, [0], []), (5, [], []), (6, [], [])]
  | 81, 2 => [(0, [], []), (1, [], []), (2, [], []), (3, [], []), (4, [0], []), (5, [0], []), (6, [], [])]
  | 81, 4 => [(0, [], []), (1, [], []), (2, [], []), (3, [], []), (4, [0], []), (5, [0], []), (10, [], []), (6, [], []), (7, [], []), (8, [], []), (9, [], []), (11, [1], []), (12, [], [])]
  | 81, 5 => [(0, [], []), (1, [], []), (2, [], []), (3, [], []), (4, [], []), (5, [], []), (6, [1], []), (7, [], []), (8, [2], []), (9, [], []), (10, [], []), (11, [], []), (12, [], [])]
  | 82, 6 => [(0, [], []), (1, [], []), (2, [], []), (3, [], []), (4, [], []), (5, [], []), (6, [], []), (7, [], []), (8, [], [])]
  | 83, 5 => [(0, [], []), (1, [], []), (2, [], []), (3, [], []), (4, [], []), (5, [], []), (6, [], []), (7, [], []), (8, [0], []), (9, [0], [(7, [])]), (10, [0], []), (11, [0], [])]
  | 83, 6 => [(0, [], []), (1, [0], []), (2, [], []), (3, [], []), (4, [], []), (5, [], []), (6, [], [])]
  | 85, 5 => [(0, [0], []), (1, [0], []), (2, [0], []), (3, [0], []), (4, [], []), (5, [], [])]
  | 96, 1 => [(0, [0], []), (1, [1], []), (3, [1], []), (4, [0], []), (2, [], [(3, [1]), (4, [0])]), (5, [], []), (6, [], []), (7, [], [])]
  | 99, 6 => [(0, [], []), (1, [], []), (2, [], []), (3, [], []), (4, [], []), (5, [], []), (6, [], []), (7, [], []), (8, [], []), (9, [], [])]
  | 99, 11 => [(0, [], []), (1, [], []), (2, [], []), (3, [], []), (4, [], []), (5, [], []), (6, [], []), (7, [], []), (8, [], []), (9, [], [])]
  | 102, 6 => [(0, [], []), (1, [], []), (2, [], []), (3, [], []), (4, [0], []), (9, [], []), (5, [], []), (6, [], []), (7, [], []), (8, [], []), (10, [1], []), (11, [], [])]
  | 103, 4 => [(0, [], []), (1, [], []), (2, [], []), (3, [], []), (4, [], []), (5, [0], []), (6, [], []), (7, [], []), (8, [], [])]
  | 104, 7 => [(0, [], []), (1, [], []), (2, [], []), (3, [], []), (4, [0], []), (5, [1], []), (6, [], [(3, []), (4, [0])]), (7, [], [])]
  | 109, 3 => [(0, [], []), (1, [], []), (2, [], []), (3, [], []), (4, [0], []), (5, [0], []), (6, [], [])]
  | 110, 1 => [(0, [1], []), (1, [1], []), (2, [0], []), (3, [0], [(1, [1])]), (4, [0], []), (5, [0], []), (6, [0], []), (7, [0], []), (8, [0], []), (9, [0], [])]
  | 110, 4 => [(0, [], []), (1, [], []), (2, [], []), (3, [], []), (4, [], []), (5, [], []), (6, [], []), (7, [], []), (8, [], [])]
  | 110, 5 => [(0, [], []), (1, [], []), (2, [], []), (3, [], []), (4, [0], []), (5, [0], []), (6, [], []), (7, [], [])]
  | 111, 21 => [(0, [], []), (1, [2], []), (2, [], []), (3, [], []), (4, [], []), (5, [], []), (6, [], [])]
  | 111, 23 => [(0, [], []), (1, [], []), (2, [], []), (3, [], []), (4, [], []), (5, [], []), (6, [], []), (7, [], []), (8, [], [])]
  | 111, 26 => [(0, [], []), (1, [], []), (2, [], []), (3, [], []), (4, [4], []), (5, [4], []), (6, [4], []), (7, [4], []), (8, [], []), (9, [], []), (10, [], []), (11, [], []), (12, [], []), (13, [], [])]
  | 111, 33 => [(0, [], []), (1, [], []), (2, [], []), (3, [], []), (4, [], []), (5, [], []), (6, [], []), (7, [], []), (8, [], []), (9, [], []), (10, [4], []), (11, [4], [(7, [])]), (12, [4], []), (13, [4], []), (14, [4], []), (15, [4], []), (16, [4], []), (17, [4], []), (18, [4], []), (19, [4], [])]
  | 111, 12 => [(0, [], []), (1, [], []), (2, [], []), (3, [], []), (4, [], []), (5, [], []), (6, [], []), (7, [], []), (8, [], []), (9, [], []), (10, [], []), (11, [], [])]
  | 116, 17 => [(0, [], []), (1, [], []), (2, [], []), (3, [], []), (4, [], []), (5, [], []), (6, [], []), (7, [], []), (8, [], []), (9, [], []), (10, [], []), (11, [], []), (12, [], []), (13, [], []), (14, [], []), (15, [], []), (16, [], [])]
  | 122, 4 => [(0, [], []), (1, [], []), (2, [], []), (3, [], []), (4, [], []), (5, [], []), (6, [], []), (7, [], []), (8, [], []), (9, [], []), (10, [], []), (11, [], []), (12, [], []), (13, [], []), (14, [], []), (15, [], []), (16, [], [])]
  | 122, 6 => [(0, [], []), (1, [], []), (2, [], []), (3, [], []), (4, [], []), (5, [], []), (6, [], []), (7, [], []), (8, [], []), (9, [], []), (10, [], []), (11, [], []), (12, [], []), (13, [], []), (14, [], []), (15, [], []), (16, [], []), (17, [], [])]
  | 123, 10 => [(0, [], []), (1, [], []), (2, [], []), (3, [], []), (4, [], []), (5, [], []), (6, [], []), (7, [], []), (8, [], []), (9, [], []), (10, [], []), (11, [], []), (12, [], []), (13, [], []), (14, [], []), (15, [], []), (16, [], []), (17, [], []), (18, [], []), (19, [], [])]
  | 124, 10 => [(0, [], []), (1, [], []), (2, [], []), (3, [], []), (4, [], []), (5, [], []), (6, [], []), (7, [], []), (8, [], []), (9, [], []), (10, [], []), (11, [], []), (12, [], []), (13, [], []), (14, [], []), (15, [], []), (16, [], []), (17, [], []), (18, [], []), (19, [], [])]
  | 126, 3 => [(0, [], []), (1, [], []), (2, [], []), (3, [], []), (4, [], []), (5, [], []), (6, [], []), (7, [], []), (8, [], []), (9, [], []), (10, [], []), (11, [], []), (12, [], []), (13, [], []), (14, [], []), (15, [], [])]
  | 127, 5 => [(0, [], []), (1, [], []), (2, [], []), (3, [], []), (4, [], []), (5, [], []), (6, [], []), (7, [], []), (8, [], []), (9, [], []), (10, [], []), (11, [], []), (12, [], []), (13, [], []), (14, [], []), (15, [], []), (16, [], []), (17, [], [])]
  | 127, 11 => [(0, [], []), (1, [], []), (2, [], []), (3, [], []), (4, [], []), (5, [], []), (6, [], []), (7, [], []), (8, [], []), (9, [], []), (10, [], []), (11, [], []), (12, [], []), (13, [], []), (14, [], []), (15, [], []), (16, [], []), (17, [], [])]
  | 127, 16 => [(0, [], []), (1, [], []), (2, [], []), (3, [], []), (4, [], []), (5, [], []), (6, [], []), (7, [], []), (8, [], []), (9, [], []), (10, [], []), (11, [], []), (12, [], [])]
  | 127, 17 => [(0, [], []), (1, [], []), (2, [], []), (3, [], []), (4, [], []), (5, [], []), (6, [], []), (7, [], []), (8, [], []), (9, [], []), (10, [], []), (11, [], []), (12, [], []), (13, [], []), (14, [], []), (15, [], []), (16, [], []), (17, [], [])]
  | 127, 22 => [(0, [], []), (1, [], []), (2, [], []), (3, [], []), (4, [], []), (5, [], []), (6, [], []), (7, [], []), (8, [], []), (9, [], []), (10, [], []), (11, [], []), (12, [], [])]
  | 127, 23 => [(0, [], []), (1, [], []), (2, [], []), (3, [], []), (4, [], []), (5, [], []), (6, [], []), (7, [], []), (8, [], []), (9, [], []), (10, [], []), (11, [], []), (12, [], []), (13, [], []), (14, [], []), (15, [], []), (16, [], []), (17, [], [])]
  | 128, 1 => [(0, [], []), (1, [], []), (2, [], []), (3, [], []), (4, [], []), (5, [], []), (6, [], []), (7, [], []), (8, [], []), (9, [], []), (10, [], []), (11, [], []), (12, [], []), (13, [], []), (14, [], []), (15, [], [])]
  | 128, 3 => [(0, [], []), (1, [], []), (2, [], []), (3, [], []), (4, [], []), (5, [], []), (6, [], []), (7, [], []), (8, [], []), (9, [], []), (10, [], []), (11, [], []), (12, [], []), (13, [], []), (14, [], []), (15, [], []), (16, [], [])]
  | 128, 5 => [(0, [], []), (1, [], []), (2, [], []), (3, [], []), (4, [], []), (5, [], []), (6, [], []), (7, [], []), (8, [], []), (9, [], []), (10, [], []), (11, [], []), (12, [], []), (13, [], []), (14, [], []), (15, [], [])]
  | 128, 8 => [(0, [], []), (1, [], []), (2, [], []), (3, [], []), (4, [], []), (5, [], []), (6, [], []), (7, [], []), (8, [], []), (9, [], []), (10, [], []), (11, [], []), (12, [], []), (13, [], []), (14, [], []), (15, [], [])]
  | 129, 1 => [(0, [], []), (1, [], []), (2, [], []), (3, [], []), (4, [], []), (5, [], []), (6, [], []), (7, [], []), (8, [], []), (9, [], []), (10, [], []), (11, [], []), (12, [], []), (13, [], []), (14, [], []), (15, [], [])]
  | 129, 3 => [(0, [], []), (1, [], []), (2, [], []), (3, [], []), (4, [], []), (5, [], []), (6, [], []), (7, [], []), (8, [], []), (9, [], []), (10, [], []), (11, [], []), (12, [], []), (13, [], []), (14, [], []), (15, [], [])]
  | 129, 5 => [(0, [], []), (1, [], []), (2, [], []), (3, [], []), (4, [], []), (5, [], []), (6, [], []), (7, [], []), (8, [], []), (9, [], []), (10, [], []), (11, [], []), (12, [], []), (13, [], []), (14, [], []), (15, [], []), (16, [], [])]
  | 129, 8 => [(0, [], []), (1, [], []), (2, [], []), (3, [], []), (4, [], []), (5, [], []), (6, [], []), (7, [], []), (8, [], []), (9, [], []), (10, [], []), (11, [], []), (12, [], []), (13, [], []), (14, [], []), (15, [], [])]
  | 129, 10 => [(0, [], []), (1, [], []), (2, [], []), (3, [], []), (4, [], []), (5, [], []), (6, [], []), (7, [], []), (8, [], []), (9, [], []), (10, [], []), (11, [], []), (12, [], []), (13, [], []), (14, [], []), (15, [], [])]
  | 129, 13 => [(0, [], []), (1, [], []), (2, [], []), (3, [], []), (4, [], []), (5, [], []), (6, [], []), (7, [], []), (8, [], []), (9, [], []), (10, [], []), (11, [], []), (12, [], []), (13, [], []), (14, [], []), (15, [], [])]
  | 129, 15 => [(0, [], []), (1, [], []), (2, [], []), (3, [], []), (4, [], []), (5, [], []), (6, [], []), (7, [], []), (8, [], []), (9, [], []), (10, [], []), (11, [], []), (12, [], []), (13, [], []), (14, [], []), (15, [], []), (16, [], [])]
  | 129, 18 => [(0, [], []), (1, [], []), (2, [], []), (3, [], []), (4, [], []), (5, [], []), (6, [], []), (7, [], []), (8, [], []), (9, [], []), (10, [], []), (11, [], []), (12, [], []), (13, [], []), (14, [], []), (15, [], [])]
  | 129, 21 => [(0, [], []), (1, [], []), (2, [], []), (3, [], []), (4, [], []), (5, [], []), (6, [], []), (7, [], []), (8, [], []), (9, [], []), (10, [], []), (11, [], []), (12, [], []), (13, [], []), (14, [], []), (15, [], [])]
  | 132, 6 => [(0, [], []), (1, [], []), (2, [], []), (3, [], []), (4, [], []), (5, [], []), (6, [], []), (7, [], []), (8, [], [])]
  | 133, 3 => [(0, [], []), (1, [], []), (2, [], []), (3, [], []), (4, [], []), (5, [], []), (6, [], []), (7, [], []), (8, [], []), (9, [], []), (10, [], []), (11, [], []), (12, [], []), (13, [], []), (14, [], []), (15, [], []), (16, [], []), (17, [], []), (18, [], []), (19, [], []), (20, [], []), (21, [], [])]
  | 133, 5 => [(0, [], []), (1, [], []), (2, [], []), (3, [], []), (4, [], []), (5, [], []), (6, [], []), (7, [], []), (8, [], []), (9, [], []), (10, [], []), (11, [], []), (12, [], []), (13, [], []), (14, [], []), (15, [], [])]
  | 133, 6 => [(0, [], []), (1, [], []), (2, [], []), (3, [], []), (4, [], []), (5, [], []), (6, [], []), (7, [], []), (8, [], []), (9, [], []), (10, [], []), (11, [], []), (12, [], []), (13, [], []), (14, [], []), (15, [], []), (16, [], []), (17, [], []), (18, [], []), (19, [], []), (20, [], []), (21, [], []), (22, [], []), (23, [], [])]
  | 135, 1 => [(0, [], []), (1, [], []), (2, [], []), (3, [], []), (4, [], []), (5, [], []), (6, [], []), (7, [], []), (8, [], []), (9, [], [])]
  | 135, 2 => [(0, [], []), (1, [], []), (2, [], []), (3, [], []), (4, [], []), (5, [], []), (6, [], []), (7, [], []), (8, [], []), (9, [], [])]
  | 135, 3 => [(0, [], []), (1, [], []), (2, [], []), (3, [], []), (4, [], []), (5, [], []), (6, [], []), (7, [], []), (8, [], []), (9, [], [])]
  | 138, 1 => [(0, [], []), (1, [], []), (2, [], []), (3, [], []), (4, [], []), (5, [], []), (6, [], []), (7, [], []), (8, [], []), (9, [], []), (10, [], [])]
  | _, _ => []
def posT : List Tmp -> Tmp -> Nat -> Option Nat
  | [], _, _ => none
  | t :: r, u, n => cond (decide (t = u)) (some n) (posT r u (n + 1))
noncomputable def X0 : Env := { ty := tyOf Tryz.prog, body := bodyOf Tryz.prog, slot := fun f t => posT (slotTab f) t 0, nslots := fun f => (slotTab f).length, plan := planTab, pin := fun _ => none }
end Go.Ev
namespace Go.Ev
open Go.ChangeMaps
variable [Good] {P : Program} {K : KM} {L : KL} {w : World}
theorem BR.uses_iter {x : Blk} {e : KB} (h : BR K w x e) {B : Nat} (hu : e.uses B) {m : Option Nat} {s : Nat} {sn : Array Nat} {c0 : Nat} : w.heap[B]? ≠ some (.mapIter m s sn c0) := by
  cases x with
  | cells g k c =>
    obtain ⟨B', S, N, rfl, c', ty, fr, h1, _⟩ := h
    cases hu; rw [h1]; simp
  | map ex es c =>
    obtain ⟨B', rfl, ents, clk, es', h1, _⟩ := h
    cases hu; rw [h1]; simp
  | loop r =>
    obtain ⟨B', L', rfl, R, h1, h2, h3⟩ := h
    rcases hu with rfl | ⟨ht, s, ver, hs, hv⟩
    · rw [h1]; simp
    · obtain ⟨hl, h4⟩ := h3 ht
      have hlt : s < r.l.length := by rw [hl]; exact (List.getElem?_eq_some_iff.1 hs).1
      obtain ⟨B2, h5, h6⟩ := h4 s (r.l[s]).1 (r.l[s]).2 (by simp [hlt])
      rw [hs] at h5; cases h5
      obtain ⟨c', ty, h7, _⟩ := h6 hv
      rw [h7]; simp
theorem Mem.keepI {l : Locs} {h : Heap} (hm : Mem K L l h w) {w' : World} (hsz : w.heap.size <= w'.heap.size)
    (hs : ∀ B, B < w.heap.size -> (∀ m s sn c0, w.heap[B]? ≠ some (.mapIter m s sn c0)) -> w'.heap[B]? = w.heap[B]?) : Mem K L l h w' := by
  refine ⟨hm.lr.keep (KM.le_refl K) fun s ver B hB hv => ?_, ⟨hm.hr.1, fun b x hx => ?_⟩, ⟨hm.inv.inj, fun o B ho => Nat.lt_of_lt_of_le (hm.inv.lt o B ho) hsz, fun b g B S N hb => ?_⟩⟩
  · refine hs B (hm.inv.lt (.loc s) B ⟨ver, hB, hv⟩) fun m s' sn c0 => ?_
    have hlt : s < l.length := by rw [hm.lr.1]; exact (List.getElem?_eq_some_iff.1 hB).1
    obtain ⟨B2, h5, h6⟩ := hm.lr.2 s (l[s]).1 (l[s]).2 (by simp [hlt])
    rw [hB] at h5; cases h5
    obtain ⟨c', ty, h7, _⟩ := h6 hv
    rw [h7]; simp
  · obtain ⟨e, he, hb⟩ := hm.hr.2 b x hx
    exact ⟨e, he, hb.keep (KM.le_refl K) fun B hB => hs B (hm.inv.uses he hB).2 fun m s sn c0 => hb.uses_iter hB⟩
  · obtain ⟨h1, h2⟩ := hm.inv.ro b g B S N hb
    exact ⟨Nat.lt_of_lt_of_le h1 hsz, h2⟩
structure StepX (r : Nat) (K : KM) (L : KL) (w : World) (K' : KM) (L' : KL) (w' : World) : Prop where
  kle : KM.le K K'
  lle : KL.le L L'
  size : w.heap.size <= w'.heap.size
  same : ∀ B : Nat, B < w.heap.size -> B ≠ r -> (∀ o, ¬ OwnBy K L o B) -> w'.heap[B]? = w.heap[B]?
  own : ∀ (o : Owner) (B : Nat), OwnBy K' L' o B -> w.heap.size <= B \/ ∃ o', OwnBy K L o' B
  os : w'.os = w.os
  tape : w'.tape = w.tape
  output : w'.output = w.output
  ros : ∀ b g B S N : Nat, K'[b]? = some (.c g B S N false) -> Ro K B \/ w.heap.size <= B \/ ∃ o, OwnBy K L o B
  loops : ∀ (b B : Nat) (kl : KL) (t : Bool), K[b]? = some (.l B kl t) -> ∃ kl', K'[b]? = some (.l B kl' t) /\ (t = true -> kl' = kl) /\ KL.le kl kl'
omit [Good] in
theorem Step.toX {K' : KM} {L' : KL} {w' : World} (h : Step K L w K' L' w') (r : Nat) : StepX r K L w K' L' w' :=
  ⟨h.kle, h.lle, h.size, fun B h1 _ h2 => h.same B h1 h2, h.own, h.os, h.tape, h.output, h.ros, h.loops⟩
omit [Good] in
theorem StepX.ofNew {r : Nat} {K' : KM} {L' : KL} {w' : World} (h : StepX r K L w K' L' w') (hr : w.heap.size <= r) : Step K L w K' L' w' :=
  ⟨h.kle, h.lle, h.size, fun B h1 h2 => h.same B h1 (by omega) h2, h.own, h.os, h.tape, h.output, h.ros, h.loops⟩
omit [Good] in
theorem StepX.trans {r : Nat} {K K' K'' : KM} {L L' L'' : KL} {w w' w'' : World} (h : StepX r K L w K' L' w') (h' : StepX r K' L' w' K'' L'' w'') : StepX r K L w K'' L'' w'' := by
  refine ⟨KM.le_trans h.kle h'.kle, KL.le_trans h.lle h'.lle, Nat.le_trans h.size h'.size, fun B hB hr hn => ?_, fun o B ho => ?_, h'.os.trans h.os, h'.tape.trans h.tape, h'.output.trans h.output, fun b g B S N hb => ?_, fun b B kl t hb => ?_⟩
  · rw [h'.same B (Nat.lt_of_lt_of_le hB h.size) hr fun o ho => ?_, h.same B hB hr hn]
    rcases h.own o B ho with h1 | ⟨o', h1⟩
    · omega
    · exact hn o' h1
  · rcases h'.own o B ho with h1 | ⟨o', h1⟩
    · exact .inl (Nat.le_trans h.size h1)
    · exact h.own o' B h1
  · rcases h'.ros b g B S N hb with ⟨b1, g1, S1, N1, h1⟩ | h1 | ⟨o, h1⟩
    · exact h.ros _ _ _ _ _ h1
    · exact .inr (.inl (Nat.le_trans h.size h1))
    · exact .inr (h.own o B h1)
  · obtain ⟨k1, h1, e1, l1⟩ := h.loops b B kl t hb
    obtain ⟨k2, h2, e2, l2⟩ := h'.loops b B k1 t h1
    exact ⟨k2, h2, fun ht => (e2 ht).trans (e1 ht), KL.le_trans l1 l2⟩
theorem Mem.iter_free {l : Locs} {h : Heap} (hm : Mem K L l h w) {r : Nat} {m : Option Nat} {s : Nat} {sn : Array Nat} {c0 : Nat} (hr : w.heap[r]? = some (.mapIter m s sn c0)) : ∀ o, ¬ OwnBy K L o r := by
  have hblk : ∀ (b : Nat) (e : KB), K[b]? = some e -> ¬ e.uses r := fun b e hK hu => by
    have hlt : b < h.length := by rw [hm.hr.1]; exact (List.getElem?_eq_some_iff.1 hK).1
    obtain ⟨e', he, hb⟩ := hm.hr.2 b h[b] (by simp [hlt])
    rw [hK] at he; cases he
    exact hb.uses_iter hu hr
  intro o ho
  cases o with
  | loc q =>
    obtain ⟨ver, h1, h2⟩ := ho
    have hlt : q < l.length := by rw [hm.lr.1]; exact (List.getElem?_eq_some_iff.1 h1).1
    obtain ⟨B2, h5, h6⟩ := hm.lr.2 q (l[q]).1 (l[q]).2 (by simp [hlt])
    rw [h1] at h5; cases h5
    obtain ⟨c', ty, h7, _⟩ := h6 h2
    rw [hr] at h7; cases h7
  | blk b =>
    rcases ho with ⟨g, S, N, k, h1, _⟩ | h1 | ⟨kl, t, h1⟩
    · exact hblk b _ h1 rfl
    · exact hblk b _ h1 rfl
    · exact hblk b _ h1 (.inl rfl)
  | lloc b q =>
    obtain ⟨B', kl, ver, h1, h2, h3⟩ := ho
    exact hblk b _ h1 (.inr ⟨rfl, q, ver, h2, h3⟩)
omit [Good] in
theorem opv_ok {o : Oper} {a : Act} {y : Value} {w' : World} (ro : Option Nat) {next : Act -> World -> Prop} {Q : Exit -> Act -> World -> Prop} (hnd : ∀ c, o.op ≠ .defer c)
    (hrun : (execOp a.eval o).run P w = .ok (.value y) w') (hn : next (a.put o.dst y) w') : o.wpIn (FW ro) 0 P a w next Q := by
  refine ⟨fun _ _ => trivial, ?_⟩
  rw [Oper.semAt_eq _ _ _ hnd, hrun, Oper.uponIn_value]
  exact hn
theorem SB.turn {base : Nat} {s : St} {a : Act} (hs : SB base K L s a w) {w' : World} (hsz : w.heap.size <= w'.heap.size)
    (hk : ∀ B, B < w.heap.size -> (∀ m s sn c0, w.heap[B]? ≠ some (.mapIter m s sn c0)) -> w'.heap[B]? = w.heap[B]?) : SB base K L s a w' := by
  refine ⟨hs.env, hs.mem.keepI hsz hk, ?_⟩
  obtain ⟨Ds, rfl', hn, hd⟩ := hs.marks
  refine ⟨Ds, rfl', hn, fun D hD => ?_⟩
  obtain ⟨h0, h1, h2⟩ := hd D hD
  refine ⟨h0, ?_, h2⟩
  rw [hk D (Array.getElem?_eq_some_iff.1 h1).1 fun m s sn c0 => by rw [h1]; simp]
  exact h1
theorem next_ok {base : Nat} {s : St} {a : Act} (hs : SB base K L s a w) {o : Oper} {it : Operand} (ho : o.op = .next it false) {r bm since c0 clk : Nat} {seen : Array Nat} {ents : Array MapEntry}
    (hx : a.eval it = .pointer (some ⟨r, 0, none⟩)) (hr : w.heap[r]? = some (.mapIter (some bm) since seen c0)) (hb : w.heap[bm]? = some (.map ents clk)) (hold : ∀ x ∈ ents.toList, x.born < since) (hsc : since <= c0)
    (ro : Option Nat) {next : Act -> World -> Prop} {Q : Exit -> Act -> World -> Prop}
    (hend : (leftOf ents seen).size = 0 -> SB base K L (s.put o.dst (.v (.tup [.bool false]))) (a.put o.dst (.tuple #[.bool false])) w -> next (a.put o.dst (.tuple #[.bool false])) w)
    (hgo : ∀ e ∈ (leftOf ents seen).toList, ∀ w', (∀ kv vv, VR K kv e.key -> VR K vv e.val -> SB base K L (s.put o.dst (.v (.tup [.bool true, kv, vv]))) (a.put o.dst (.tuple #[.bool true, e.key, e.val])) w') -> StepX r K L w K L w' ->
      w'.heap[r]? = some (.mapIter (some bm) since (seen.push e.born) clk) -> w'.heap[bm]? = some (.map ents clk) -> next (a.put o.dst (.tuple #[.bool true, e.key, e.val])) w') : o.wpIn (FW ro) 0 P a w next Q := by
  have hnd : ∀ c, o.op ≠ .defer c := by rw [ho]; simp
  rcases run_next_at (P := P) w o.type r bm since c0 seen ents clk hr hb hold hsc with ⟨h0, hrun⟩ | ⟨e, he, w1, hw1, hrun⟩
  · refine opv_ok ro hnd (y := .tuple #[.bool false]) (w' := w) (by simp [execOp, ho, hx, hrun]) (hend h0 (hs.put o.dst ?_))
    exact ⟨#[.bool false], rfl, .bool false, [], rfl, rfl, rfl⟩
  · refine opv_ok ro hnd (y := .tuple #[.bool true, e.key, e.val]) (w' := setBlock w1 r (.mapIter (some bm) since (seen.push e.born) clk)) (by simp [execOp, ho, hx, hrun]) ?_
    have hrl : r < w.heap.size := (Array.getElem?_eq_some_iff.1 hr).1
    have hne : bm ≠ r := by rintro rfl; rw [hb] at hr; cases hr
    have hw1h : w1.heap = w.heap := by rcases hw1 with rfl | rfl <;> rfl
    have hsame : ∀ B, B ≠ r -> (setBlock w1 r (.mapIter (some bm) since (seen.push e.born) clk)).heap[B]? = w.heap[B]? := fun B hB => by
      show (w1.heap.setIfInBounds r _)[B]? = _
      rw [Array.getElem?_setIfInBounds_ne (Ne.symm hB), hw1h]
    have hsz : w.heap.size <= (setBlock w1 r (.mapIter (some bm) since (seen.push e.born) clk)).heap.size := by
      show w.heap.size <= (w1.heap.setIfInBounds r _).size
      rw [Array.size_setIfInBounds, hw1h]; exact Nat.le_refl _
    refine hgo e he _ (fun kv vv h1 h2 => ?_) ?_ ?_ ((hsame bm hne).trans hb)
    · refine (hs.turn hsz fun B h3 h4 => hsame B fun hB => ?_).put o.dst ⟨#[.bool true, e.key, e.val], rfl, .bool true, [e.key, e.val], rfl, rfl, e.key, [e.val], rfl, h1, e.val, [], rfl, h2, rfl⟩
      subst hB; exact h4 _ _ _ _ hr
    · have h5 : (setBlock w1 r (.mapIter (some bm) since (seen.push e.born) clk)).os = w.os /\ (setBlock w1 r (.mapIter (some bm) since (seen.push e.born) clk)).tape = w.tape /\ (setBlock w1 r (.mapIter (some bm) since (seen.push e.born) clk)).output = w.output := by
        rcases hw1 with rfl | rfl <;> exact ⟨rfl, rfl, rfl⟩
      exact ⟨KM.le_refl K, KL.le_refl L, hsz, fun B _ hB _ => hsame B hB, fun o _ h => .inr ⟨o, h⟩, h5.1, h5.2.1, h5.2.2, fun _ _ _ _ _ h => .inl ⟨_, _, _, _, h⟩, fun _ _ kl _ h => ⟨kl, h, fun _ => rfl, KL.le_refl kl⟩⟩
    · show (w1.heap.setIfInBounds r _)[r]? = _
      rw [Array.getElem?_setIfInBounds_self_of_lt (by rw [hw1h]; exact hrl)]
theorem rentry_ok {base : Nat} {s : St} {a : Act} (hs : SB base K L s a w) {o : Oper} {it : Operand} (ho : o.op = .entry it) {r bm since clk : Nat} {seen : Array Nat} {ents : Array MapEntry} {e : MapEntry}
    (hx : a.eval it = .pointer (some ⟨r, 0, none⟩)) (hr : w.heap[r]? = some (.mapIter (some bm) since (seen.push e.born) clk)) (hb : w.heap[bm]? = some (.map ents clk)) (he : e ∈ ents.toList) (hn' : (ents.toList.map (·.born)).Nodup)
    {kv vv : V} (hk : VR K kv e.key) (hv : VR K vv e.val) (ro : Option Nat) {next : Act -> World -> Prop} {Q : Exit -> Act -> World -> Prop}
    (hn : SB base K L (s.put o.dst (.v (.tup [kv, vv]))) (a.put o.dst (.tuple #[e.key, e.val])) w -> next (a.put o.dst (.tuple #[e.key, e.val])) w) : o.wpIn (FW ro) 0 P a w next Q := by
  have hrun := run_entry_at (P := P) w r bm since seen ents clk e hr hb he hn'
  exact opv_ok ro (by rw [ho]; simp) (y := .tuple #[e.key, e.val]) (w' := w) (by simp [execOp, ho, hx, hrun]) (hn (hs.put o.dst ⟨#[e.key, e.val], rfl, e.key, [e.val], rfl, hk, e.val, [], rfl, hv, rfl⟩))
end Go.Ev
namespace Go.Ev
open Go.ChangeMaps
variable [Good] {P : Program} {K : KM} {L : KL} {w : World}
omit [Good] in
theorem MapR.borns_eq {es : List ME} {ents : Array MapEntry} {clk : Nat} (h : MapR K es ents clk) : ents.toList.map (·.born) = es.map (·.2.2) := by
  apply List.ext_getElem?
  intro i
  rw [List.getElem?_map, List.getElem?_map]
  cases he : es[i]? with
  | none =>
    have : es.length <= i := List.getElem?_eq_none_iff.1 he
    have h2 : ents.toList[i]? = none := List.getElem?_eq_none_iff.2 (by rw [Array.length_toList, h.size]; exact this)
    rw [h2]; rfl
  | some e =>
    obtain ⟨m, h1, _, _, h2⟩ := h.at_ i e he
    have : ents.toList[i]? = some m := by simpa using h1
    rw [this]; simp [h2]
omit [Good] in
theorem MapR.of_real {es : List ME} {ents : Array MapEntry} {clk : Nat} (h : MapR K es ents clk) {x : MapEntry} (hx : x ∈ ents.toList) : ∃ e ∈ es, VR K e.1 x.key /\ VR K e.2.1 x.val /\ x.born = e.2.2 := by
  obtain ⟨i, hi⟩ := List.getElem?_of_mem hx
  have hlt : i < es.length := by
    have := (List.getElem?_eq_some_iff.1 hi).1
    rw [Array.length_toList, h.size] at this; exact this
  obtain ⟨m, h1, h2, h3, h4⟩ := h.at_ i es[i] (by simp [hlt])
  have : ents.toList[i]? = some m := by simpa using h1
  rw [hi] at this; cases this
  exact ⟨es[i], by simp, h2, h3, h4⟩
omit [Good] in
theorem MapR.to_real {es : List ME} {ents : Array MapEntry} {clk : Nat} (h : MapR K es ents clk) {e : ME} (he : e ∈ es) : ∃ x ∈ ents.toList, VR K e.1 x.key /\ VR K e.2.1 x.val /\ x.born = e.2.2 := by
  obtain ⟨i, hi⟩ := List.getElem?_of_mem he
  obtain ⟨m, h1, h2, h3, h4⟩ := h.at_ i e hi
  exact ⟨m, List.mem_of_getElem? (by simpa using h1 : ents.toList[i]? = some m), h2, h3, h4⟩
omit [Good] in
theorem MapR.inj {es : List ME} {ents : Array MapEntry} {clk : Nat} (h : MapR K es ents clk) {e e' : ME} (h1 : e ∈ es) (h2 : e' ∈ es) (hb : e.2.2 = e'.2.2) : e = e' := by
  obtain ⟨i, hi⟩ := List.getElem?_of_mem h1
  obtain ⟨j, hj⟩ := List.getElem?_of_mem h2
  obtain ⟨hil, _⟩ := List.getElem?_eq_some_iff.1 hi
  obtain ⟨hjl, _⟩ := List.getElem?_eq_some_iff.1 hj
  have hij : i = j := by
    refine (List.getElem_inj (xs := es.map (·.2.2)) (h₀ := by simpa using hil) (h₁ := by simpa using hjl) h.borns).1 ?_
    have e1 := (List.getElem?_eq_some_iff.1 hi).2
    have e2 := (List.getElem?_eq_some_iff.1 hj).2
    rw [List.getElem_map, List.getElem_map, e1, e2]; exact hb
  subst hij
  rw [hi] at hj; exact Option.some.inj hj
def notYet (dn es : List ME) : List ME := es.filter fun e => !(dn.map (·.2.2)).contains e.2.2
omit [Good] in
theorem notYet_lt : ∀ (es dn : List ME) (e : ME), e ∈ es -> (dn.map (·.2.2)).contains e.2.2 = false -> (notYet (dn ++ [e]) es).length < (notYet dn es).length := by
  have hle : ∀ (es dn : List ME) (e : ME), (notYet (dn ++ [e]) es).length <= (notYet dn es).length := by
    intro es dn e
    induction es with
    | nil => exact Nat.le_refl _
    | cons x es ih =>
      unfold notYet at ih ⊢
      rw [List.filter_cons, List.filter_cons]
      cases h1 : (dn.map (·.2.2)).contains x.2.2 with
      | true =>
        have h2 : ((dn ++ [e]).map (·.2.2)).contains x.2.2 = true := by
          simp only [List.contains_iff_mem,List.map_append,List.mem_append] at h1 ⊢; exact .inl h1
        simp only [h2,Bool.not_true,Bool.false_eq_true,if_false]; exact ih
      | false =>
        simp only [Bool.not_false,if_true]
        split
        · simp only [List.length_cons]; omega
        · simp only [List.length_cons]; omega
  intro es dn e he hd
  induction es with
  | nil => cases he
  | cons x es ih =>
    rcases List.mem_cons.1 he with rfl | he
    · have h2 : ((dn ++ [e]).map (·.2.2)).contains e.2.2 = true := by
        simp [List.contains_iff_mem]
      have := hle es dn e
      unfold notYet at this ⊢
      rw [List.filter_cons, List.filter_cons]
      simp only [h2,hd,Bool.not_true,Bool.not_false,Bool.false_eq_true,if_false,if_true,List.length_cons]
      omega
    · have := ih he
      unfold notYet at this ⊢
      rw [List.filter_cons, List.filter_cons]
      cases h1 : (dn.map (·.2.2)).contains x.2.2 with
      | true =>
        have h2 : ((dn ++ [e]).map (·.2.2)).contains x.2.2 = true := by
          simp only [List.contains_iff_mem,List.map_append,List.mem_append] at h1 ⊢; exact .inl h1
        simp only [h2,Bool.not_true,Bool.false_eq_true,if_false]; exact this
      | false =>
        simp only [Bool.not_false,if_true]
        split
        · simp only [List.length_cons]; omega
        · simp only [List.length_cons]; omega
theorem Mem.mapAt {l : Locs} {h : Heap} (hm : Mem K L l h w) {b bm : Nat} {es : List ME} {clk : Nat} (hb : h[b]? = some (.map true es clk)) (hK : K[b]? = some (.m bm)) :
    ∃ ents, w.heap[bm]? = some (.map ents clk) /\ MapR K es ents clk := by
  obtain ⟨e, he, B, rfl, ents, clk', es', h1, h2, h3, _⟩ := hm.hr.2 b _ hb
  rw [hK] at he; cases he
  obtain ⟨rfl, rfl⟩ := h3 rfl
  exact ⟨ents, h1, h2⟩
omit [Good] in
theorem KM.le_m {K' : KM} (h : KM.le K K') {b bm : Nat} (hK : K[b]? = some (.m bm)) : K'[b]? = some (.m bm) := by
  obtain ⟨e', h1, h2⟩ := h b _ hK
  cases h2; exact h1
theorem mapLoop_ok (hT : TypesOk P) {X : Env} (hX : X.ty = tyOf P) {C : CallSem} (hS : Spec P C) {D : FuncId -> Nat -> Array Oper -> Prop} (hD : DrawSpec P X C D)
    (hG : ∀ f c, CodeOk (D f) c -> Good.ok f c) {f : FuncId} {Lp : LoopSem} (hL : LSpec P (D f) Lp)
    {id5 id6 x0 b1 it t : Nat} {o5 x5 o6 : Oper} {tail6 : List Oper} {rest : Code} (h5 : o5.op = .next (.tmp it) false) (g5 : o5.guard = none) (h6 : o6.op = .entry (.tmp it)) (g6 : o6.guard = none)
    (hok : CodeOk (D f) rest) (hx0 : x0 ≠ b1) {b bm r clk : Nat} {es : List ME} (I : List ME -> St -> Prop) (F : St -> Prop)
    (hIt : ∀ dn s, I dn s -> getT s.e it = .v (.it r) /\ s.h[b]? = some (.map true es clk))
    (hEnd : ∀ dn s, I dn s -> dn.Perm es -> ∃ s1, exOps X C f [o5, x5] [x5] (s.put o5.dst (.v (.tup [.bool false]))) = some s1 /\ getT s1.e t = .v (.bool false) /\ F s1)
    (hGo : ∀ dn s e, I dn s -> e ∈ es -> e ∉ dn -> ∃ s5 s6 s', exOps X C f [o5, x5] [x5] (s.put o5.dst (.v (.tup [.bool true, e.1, e.2.1]))) = some s5 /\ getT s5.e t = .v (.bool true) /\ getT s5.e it = .v (.it r) /\ s5.h[b]? = some (.map true es clk) /\
      exOps X C f (o6 :: tail6) tail6 (s5.put o6.dst (.v (.tup [e.1, e.2.1]))) = some s6 /\ evC X C Lp f rest s6 (fun x s => some (x, s)) = some (.normal, s') /\ I (dn ++ [e]) s') :
    ∀ (n : Nat) (dn : List ME) (s : St) (base : Nat) (ro : Option Nat) (K : KM) (L : KL) (a : Act) (w : World), (notYet dn es).length < n -> I dn s -> dn.Nodup -> (∀ e ∈ dn, e ∈ es) ->
      SB base K L s a w -> InR K ro -> base <= w.heap.size -> K[b]? = some (.m bm) -> (∃ c0, w.heap[r]? = some (.mapIter (some bm) clk (dn.map (·.2.2)).toArray c0) /\ clk <= c0) ->
      ∀ Q : Exit -> Act -> World -> Prop, (∀ s1 a' w' K' L', F s1 -> SB base K' L' s1 a' w' -> StepX r K L w K' L' w' -> Q (.exit x0) a' w') ->
      Code.roundsIn (FW ro) 0 P (.seq (.region id5 #[o5, x5] false) (.seq (.cond (.tmp t) .skip (.exit x0)) (.block b1 (.seq (.region id6 (o6 :: tail6).toArray false) rest)))) Q n a w := by
  intro n
  induction n with
  | zero => intro dn s base ro K L a w h; omega
  | succ n ih =>
    intro dn s base ro K L a w hlen hI hnd hsub hs hro hbase hK ⟨c0, hr, hc0⟩ Q hq
    obtain ⟨hit, hmap⟩ := hIt dn s hI
    obtain ⟨ents, hbm, hmr⟩ := hs.mem.mapAt hmap hK
    have heval : a.eval (.tmp it) = .pointer (some ⟨r, 0, none⟩) := by
      have := opd_ok hs.env (.tmp it)
      have e : opd s.e (.tmp it) = getT s.e it := rfl
      rw [e, hit] at this
      simpa only [TVR,VR] using this
    have hold : ∀ x ∈ ents.toList, x.born < clk := fun x hx => by
      obtain ⟨e, he, _, _, h4⟩ := hmr.of_real hx
      rw [h4]; exact hmr.clock e he
    rw [roundsIn_succ]
    refine wpIn_seq (wpIn_region_list ?_)
    have hw5 : ∀ (a : Act), Region.wanted o5 (yielded #[o5, x5] a.tmps) = true := fun a => by unfold Region.wanted; rw [g5]
    unfold wpListIn
    rw [hw5]
    simp only [if_true]
    refine next_ok hs h5 heval hr hbm hold hc0 ro ?_ ?_
    ·
      intro h0 hs1
      have hes : es.Nodup := (List.pairwise_map.1 hmr.borns).imp fun h e => h (by rw [e])
      have hall : ∀ x ∈ ents.toList, (dn.map (·.2.2)).toArray.contains x.born = true := by
        intro x hx
        have h1 : leftOf ents (dn.map (·.2.2)).toArray = #[] := Array.eq_empty_of_size_eq_zero h0
        have h2 := Array.filter_eq_empty_iff.1 h1 x (by simpa using hx)
        simpa using h2
      have hperm : dn.Perm es := (List.perm_ext_iff_of_nodup hnd hes).2 fun e => ⟨hsub e, fun he => by
        obtain ⟨x, hx, _, _, h4⟩ := hmr.to_real he
        have h6 := hall x hx
        rw [h4] at h6
        have h7 : e.2.2 ∈ dn.map (·.2.2) := by simpa using h6
        obtain ⟨e', he', hb'⟩ := List.mem_map.1 h7
        rw [<- hmr.inj (hsub e' he') he hb']; exact he'⟩
      obtain ⟨s1, hex, ht, hF⟩ := hEnd dn s hI hperm
      refine exOps_ok hT hX hS ro [x5] _ s1 K L _ w hex hs1 fun a' w' K' L' hs' hst => ?_
      have hv : a'.eval (.tmp t) = .bool false := by
        have := opd_ok hs'.env (.tmp t)
        have e : opd s1.e (.tmp t) = getT s1.e t := rfl
        rw [e, ht] at this
        simpa only [TVR,VR] using this
      exact wpIn_seq (wpIn_cond_false hv (wpIn_exit (hq s1 a' w' K' L' hF hs' (hst.toX r))))
    ·
      intro e' he' w1 hsb hstx hr1 hbm1
      have hx' : e' ∈ ents.toList /\ (dn.map (·.2.2)).toArray.contains e'.born = false := by
        simpa [leftOf] using he'
      obtain ⟨e, he, hk, hv, hbn⟩ := hmr.of_real hx'.1
      have hnc : (dn.map (·.2.2)).contains e.2.2 = false := by
        have := hx'.2
        rw [hbn] at this
        simpa using this
      have hnot : e ∉ dn := fun h => by
        have : (dn.map (·.2.2)).contains e.2.2 = true := by
          rw [List.contains_iff_mem]; exact List.mem_map.2 ⟨e, h, rfl⟩
        rw [hnc] at this; cases this
      obtain ⟨s5, s6, s', hx5, ht5, hit5, hm5, hx6, hrest, hI'⟩ := hGo dn s e hI he hnot
      have hs1 := hsb e.1 e.2.1 hk hv
      refine exOps_ok hT hX hS ro [x5] _ s5 K L _ w1 hx5 hs1 fun a2 w2 K2 L2 hs2 hst2 => ?_
      have hv2 : a2.eval (.tmp t) = .bool true := by
        have := opd_ok hs2.env (.tmp t)
        have e : opd s5.e (.tmp t) = getT s5.e t := rfl
        rw [e, ht5] at this
        simpa only [TVR,VR] using this
      have hit2 : a2.eval (.tmp it) = .pointer (some ⟨r, 0, none⟩) := by
        have := opd_ok hs2.env (.tmp it)
        have e : opd s5.e (.tmp it) = getT s5.e it := rfl
        rw [e, hit5] at this
        simpa only [TVR,VR] using this
      have hK2 := KM.le_m hst2.kle hK
      obtain ⟨ents2, hbm2, hmr2⟩ := hs2.mem.mapAt hm5 hK2
      obtain ⟨x2, hx2, hk2, hv2', hbn2⟩ := hmr2.to_real he
      have hr2 : w2.heap[r]? = some (.mapIter (some bm) clk ((dn.map (·.2.2)).toArray.push x2.born) clk) := by
        rw [hst2.same r (Array.getElem?_eq_some_iff.1 hr1).1 (hs1.mem.iter_free hr1), hr1, hbn2, <- hbn]
      have hnd2 : (ents2.toList.map (·.born)).Nodup := by rw [hmr2.borns_eq]; exact hmr2.borns
      have hw6 : ∀ (a : Act), Region.wanted o6 (yielded (o6 :: tail6).toArray a.tmps) = true := fun a => by unfold Region.wanted; rw [g6]
      refine wpIn_seq (wpIn_cond_true hv2 (wpIn_skip ?_))
      refine wpIn_block (wpIn_seq (wpIn_region_list ?_))
      unfold wpListIn
      rw [hw6]
      simp only [if_true]
      refine rentry_ok hs2 h6 hit2 hr2 hbm2 hx2 hnd2 hk2 hv2' ro fun hs3 => ?_
      refine exOps_ok hT hX hS ro tail6 _ s6 K2 L2 _ w2 hx6 hs3 fun a4 w4 K4 L4 hs4 hst4 => ?_
      have hro4 : InR K4 ro := (hro.mono (hst2.kle)).mono hst4.kle
      have hb4 : base <= w4.heap.size := Nat.le_trans hbase (Nat.le_trans hstx.size (Nat.le_trans hst2.size hst4.size))
      refine evC_ok hT hX hS hD hG hL rest hok base s6 _ (Ex.normal, s') hrest ro K4 L4 a4 w4 hs4 hro4 hb4 _ fun x s7 a7 w7 K7 L7 hk7 hs7 hst7 => ?_
      cases hk7
      have hst := hst4.trans hst7
      have hr7 : w7.heap[r]? = some (.mapIter (some bm) clk ((dn ++ [e]).map (·.2.2)).toArray clk) := by
        rw [hst.same r (Array.getElem?_eq_some_iff.1 hr2).1 (hs2.mem.iter_free hr2), hr2, hbn2]
        simp
      refine ih (dn ++ [e]) s' base ro K7 L7 a7 w7 (by have := notYet_lt es dn e he hnc; omega) hI' ?_ ?_ hs7 (hro4.mono hst7.kle) (Nat.le_trans hb4 hst7.size) (KM.le_m hst.kle hK2) ⟨clk, hr7, Nat.le_refl _⟩ Q ?_
      · exact List.nodup_append.2 ⟨hnd, by simp, fun a ha b hb => by rw [List.mem_singleton.1 hb]; rintro rfl; exact hnot ha⟩
      · intro e2 h2
        rcases List.mem_append.1 h2 with h2 | h2
        · exact hsub e2 h2
        · rw [List.mem_singleton.1 h2]; exact he
      · intro s1 a' w' K' L' hF hs' hstx'
        exact hq s1 a' w' K' L' hF hs' (hstx.trans (((hst2.trans hst).toX r).trans hstx'))
end Go.Ev
namespace Go.Ev
variable {P : Program} {K K' : KM} {L : KL} {w : World}
def mapA (σ : Nat -> Nat) : SA -> SA
  | .at b g o => .at (σ b) g o
  | a => a
mutual
def mapV (σ : Nat -> Nat) : V -> V
  | .ptr b g o => .ptr (σ b) g o
  | .sl a n c z => .sl (mapA σ a) n c z
  | .map r => .map (σ r)
  | .yld l => .yld (σ l)
  | .fn f cap => .fn f (mapVs σ cap)
  | .agg cs => .agg (mapVs σ cs)
  | .tup vs => .tup (mapVs σ vs)
  | .bool b => .bool b
  | .int k n => .int k n
  | .str s => .str s
  | .nilp => .nilp
  | .nilm => .nilm
  | .nilFn => .nilFn
  | .it r => .it r
def mapVs (σ : Nat -> Nat) : List V -> List V
  | [] => []
  | v :: vs => mapV σ v :: mapVs σ vs
end
theorem mapVs_eq (σ : Nat -> Nat) : ∀ vs : List V, mapVs σ vs = vs.map (mapV σ)
  | [] => by simp [mapVs]
  | v :: vs => by simp [mapVs, mapVs_eq σ vs]
theorem isCell_map (σ : Nat -> Nat) (v : V) : isCell (mapV σ v) = isCell v := by cases v <;> simp [mapV, isCell]
theorem plainC_map {σ : Nat -> Nat} {v : V} (h : plainC v = true) : mapV σ v = v := by cases v <;> simp [plainC] at h <;> simp [mapV]
theorem plainV_map {σ : Nat -> Nat} {v : V} (h : plainV v = true) : mapV σ v = v := by
  cases v with
  | agg cs =>
    simp only [plainV,List.all_eq_true] at h
    simp only [mapV,mapVs_eq,V.agg.injEq]
    conv => rhs; rw [<- List.map_id cs]
    exact List.map_congr_left fun x hx => plainC_map (h x hx)
  | bool b => rfl
  | int k n => rfl
  | str s => rfl
  | _ => simp [plainV, plainC] at h
def Ren (σ : Nat -> Nat) (K2 K' : KM) : Prop := ∀ b : Nat, K2[b]? = K'[σ b]?
theorem AtR_ren {σ : Nat -> Nat} {K2 : KM} (hσ : Ren σ K2 K') {b g o : Nat} {a : Addr} : AtR K' (σ b) g o a ↔ AtR K2 b g o a := by unfold AtR; rw [hσ b]
theorem SlR_ren {σ : Nat -> Nat} {K2 : KM} (hσ : Ren σ K2 K') {a : SA} {n c z : Nat} {x : Value} : SlR K' (mapA σ a) n c z x ↔ SlR K2 a n c z x := by
  cases a with
  | nil => exact Iff.rfl
  | any => exact Iff.rfl
  | «at» b g o => simp only [mapA,SlR,AtR,RoomR,hσ b]
mutual
theorem VR_ren {σ : Nat -> Nat} {K2 : KM} (hσ : Ren σ K2 K') : ∀ (v : V) (y : Value), VR K' (mapV σ v) y ↔ VR K2 v y
  | .bool b, y => by simp only [mapV,VR]
  | .int k n, y => by simp only [mapV,VR]
  | .str s, y => by simp only [mapV,VR]
  | .nilp, y => by simp only [mapV,VR]
  | .it r, y => by simp only [mapV,VR]
  | .ptr b g o, y => by simp only [mapV,VR,AtR_ren hσ]
  | .sl a n c z, y => by simp only [mapV,VR,SlR_ren hσ]
  | .nilm, y => by simp only [mapV,VR]
  | .map r, y => by simp only [mapV,VR,hσ r]
  | .fn f cap, y => by simp only [mapV,VR,VRs_ren hσ cap]
  | .yld l, y => by simp only [mapV,VR,hσ l]
  | .nilFn, y => by simp only [mapV,VR]
  | .agg cs, y => by
    have e : (mapVs σ cs).all isCell = cs.all isCell := by
      rw [mapVs_eq, List.all_map]; congr 1; funext x; exact isCell_map σ x
    simp only [mapV,VR,VRs_ren hσ cs,e]
  | .tup vs, y => by simp only [mapV,VR,VRs_ren hσ vs]
theorem VRs_ren {σ : Nat -> Nat} {K2 : KM} (hσ : Ren σ K2 K') : ∀ (vs : List V) (ys : List Value), VRs K' (mapVs σ vs) ys ↔ VRs K2 vs ys
  | [], ys => by simp only [mapVs,VRs]
  | v :: vs, ys => by simp only [mapVs,VRs,VR_ren hσ v,VRs_ren hσ vs]
end
theorem mapA_fix {σ : Nat -> Nat} (hf : ∀ b, b < K.length -> σ b = b) {a : SA} {n c z : Nat} {x : Value} (h : SlR K a n c z x) : mapA σ a = a := by
  cases a with
  | nil => rfl
  | any => rfl
  | «at» b g o =>
    obtain ⟨a, cap', _, ⟨g', B, S, N, k, hb, _⟩, _⟩ := h
    simp only [mapA,hf b (List.getElem?_eq_some_iff.1 hb).1]
mutual
theorem mapV_fix {σ : Nat -> Nat} (hf : ∀ b, b < K.length -> σ b = b) : ∀ (v : V) (y : Value), VR K v y -> mapV σ v = v
  | .bool b, y, _ => rfl
  | .int k n, y, _ => rfl
  | .str s, y, _ => rfl
  | .nilp, y, _ => rfl
  | .it r, y, _ => rfl
  | .ptr b g o, y, h => by
    simp only [VR] at h
    obtain ⟨a, _, g', B, S, N, k, hb, _⟩ := h
    simp only [mapV,hf b (List.getElem?_eq_some_iff.1 hb).1]
  | .sl a n c z, y, h => by
    simp only [VR] at h
    simp only [mapV,mapA_fix hf h]
  | .nilm, y, _ => rfl
  | .map r, y, h => by
    simp only [VR] at h
    obtain ⟨B, hb, _⟩ := h
    simp only [mapV,hf r (List.getElem?_eq_some_iff.1 hb).1]
  | .fn f cap, y, h => by
    simp only [VR] at h
    obtain ⟨cs, _, h⟩ := h
    simp only [mapV,mapVs_fix hf _ _ h]
  | .yld l, y, h => by
    simp only [VR] at h
    obtain ⟨B, kl, t, hb, _⟩ := h
    simp only [mapV,hf l (List.getElem?_eq_some_iff.1 hb).1]
  | .nilFn, y, _ => rfl
  | .agg cs, y, h => by
    simp only [VR] at h
    obtain ⟨cs', _, h, _⟩ := h
    simp only [mapV,mapVs_fix hf _ _ h]
  | .tup vs, y, h => by
    simp only [VR] at h
    obtain ⟨cs', _, h⟩ := h
    simp only [mapV,mapVs_fix hf _ _ h]
theorem mapVs_fix {σ : Nat -> Nat} (hf : ∀ b, b < K.length -> σ b = b) : ∀ (vs : List V) (ys : List Value), VRs K vs ys -> mapVs σ vs = vs
  | [], ys, _ => rfl
  | v :: vs, ys, h => by
    simp only [VRs] at h
    obtain ⟨y, ys', _, h1, h2⟩ := h
    simp only [mapVs,mapV_fix hf v y h1,mapVs_fix hf vs ys' h2]
end
def mapTV (σ : Nat -> Nat) : TV -> TV
  | .v x => .v (mapV σ x)
  | t => t
theorem TVR_ren {σ : Nat -> Nat} {K2 : KM} (hσ : Ren σ K2 K') {L : KL} (v : TV) (y : Value) : TVR K' L (mapTV σ v) y ↔ TVR K2 L v y := by
  cases v <;> simp only [mapTV,TVR,VR_ren hσ]
def mapL (σ : Nat -> Nat) (l : Locs) : Locs := l.map fun p => (p.1, p.2.map (mapV σ))
def mapLoop (σ : Nat -> Nat) (r : LoopR) : LoopR := { r with e := r.e.map (mapTV σ), l := mapL σ r.l }
def mapME (σ : Nat -> Nat) (e : ME) : ME := (e.1, mapV σ e.2.1, e.2.2)
theorem CR_ren {σ : Nat -> Nat} {K2 : KM} (hσ : Ren σ K2 K') {c : List V} {c' : Array Value} {S : Nat} (h : CR K' (c.map (mapV σ)) c' S) : CR K2 c c' S := by
  intro j v hv
  obtain ⟨h1, x, h2, h3⟩ := h j (mapV σ v) (by rw [List.getElem?_map, hv]; rfl)
  exact ⟨by rwa [isCell_map] at h1, x, h2, (VR_ren hσ v x).1 h3⟩
theorem LR_ren {σ : Nat -> Nat} {K2 : KM} (hσ : Ren σ K2 K') {L : KL} {l : Locs} (h : LR K' L (mapL σ l) w) : LR K2 L l w := by
  refine ⟨by simpa [mapL] using h.1, fun s ver c hs => ?_⟩
  obtain ⟨B, h1, h2⟩ := h.2 s ver (c.map (mapV σ)) (by unfold mapL; rw [List.getElem?_map, hs]; rfl)
  refine ⟨B, h1, fun hv => ?_⟩
  obtain ⟨c', e, h3, h4, h5⟩ := h2 hv
  exact ⟨c', e, h3, by simpa using h4, CR_ren hσ h5⟩
inductive BlkTo (σ : Nat -> Nat) : Blk -> Blk -> Prop
  | cells (g : Nat) (k : Bool) (c : List V) : BlkTo σ (.cells g k (c.map (mapV σ))) (.cells g k c)
  | junk (g : Nat) (k : Bool) (c : List V) : BlkTo σ (.cells g k c) (.cells g k [])
  | cut (g : Nat) (k : Bool) (c r : List V) : BlkTo σ (.cells g k (c.map (mapV σ) ++ r)) (.cells g k c)
  | perm (ex : Bool) (es es' : List ME) (c c' : Nat) (h : (es.map unborn).Perm (es'.map fun e => (e.1, mapV σ e.2.1))) : BlkTo σ (.map ex es c) (.map false es' c')
  | map (ex : Bool) (es : List ME) (c : Nat) : BlkTo σ (.map ex (es.map (mapME σ)) c) (.map ex es c)
  | loop (r : LoopR) : BlkTo σ (.loop (mapLoop σ r)) (.loop r)
theorem MapR_ren {σ : Nat -> Nat} {K2 : KM} (hσ : Ren σ K2 K') {es : List ME} {ents : Array MapEntry} {clk : Nat} (h : MapR K' (es.map (mapME σ)) ents clk) : MapR K2 es ents clk := by
  have hp : ∀ e ∈ es, plainV e.1 = true := fun e he => h.plain (mapME σ e) (List.mem_map.2 ⟨e, he, rfl⟩)
  refine ⟨by simpa using h.size, fun i e he => ?_, ?_, hp, ?_, fun e he => h.clock (mapME σ e) (List.mem_map.2 ⟨e, he, rfl⟩)⟩
  · obtain ⟨m, h1, h2, h3, h4⟩ := h.at_ i (mapME σ e) (by rw [List.getElem?_map, he]; rfl)
    refine ⟨m, h1, (VR_ren hσ _ _).1 ?_, (VR_ren hσ _ _).1 h3, h4⟩
    rw [plainV_map (hp e (List.mem_of_getElem? he))]; exact h2
  · have := h.keys
    rw [List.map_map] at this
    exact this
  · have := h.borns
    rw [List.map_map] at this
    exact this
theorem perm_map_inv {α β : Type} {f : α -> β} : ∀ (l : List α) (m : List β), m.Perm (l.map f) -> ∃ l' : List α, l'.Perm l /\ m = l'.map f
  | [], m, h => ⟨[], .refl _, by simpa using h⟩
  | a :: l, m, h => by
    have hm : f a ∈ m := h.mem_iff.2 (by simp)
    obtain ⟨s, t, rfl⟩ := List.append_of_mem hm
    have h2 : (s ++ t).Perm (l.map f) := by
      have h3 : (f a :: (s ++ t)).Perm (f a :: l.map f) := (List.perm_middle.symm).trans h
      exact h3.cons_inv
    obtain ⟨l', h3, h4⟩ := perm_map_inv l _ h2
    obtain ⟨l1, l2, rfl, rfl, rfl⟩ := List.append_eq_map_iff.1 h4
    exact ⟨l1 ++ a :: l2, (List.perm_middle).trans (h3.cons a), by simp⟩
variable [Good]
theorem BR_perm {σ : Nat -> Nat} {K2 : KM} (hσ : Ren σ K2 K') {es es' : List ME} {B : Nat} {ents : Array MapEntry} {clk c' : Nat} (h1 : w.heap[B]? = some (.map ents clk)) (h2 : MapR K' es ents clk)
    (h4 : (es.map unborn).Perm (es'.map fun e => (e.1, mapV σ e.2.1))) : BR K2 w (.map false es' c') (.m B) := by
  obtain ⟨l, hl1, hl2⟩ : ∃ l : List (V × V), l.Perm (es'.map unborn) /\ es.map unborn = l.map fun u => (u.1, mapV σ u.2) := by
    refine perm_map_inv (es'.map unborn) _ ?_
    rw [List.map_map]
    exact h4
  have hlen : l.length = es.length := by have := congrArg List.length hl2; simpa using this.symm
  have hz : ((l.zip es).map fun p => ((p.1.1, p.1.2, p.2.2.2) : ME)).map (mapME σ) = es := by
    apply List.ext_getElem?
    intro i
    rw [List.getElem?_map, List.getElem?_map, List.zip, List.getElem?_zipWith]
    have h5 := congrArg (fun m => m[i]?) hl2
    simp only [List.getElem?_map] at h5
    cases hu : l[i]? with
    | none =>
      have : es[i]? = none := List.getElem?_eq_none_iff.2 (by rw [<- hlen]; exact List.getElem?_eq_none_iff.1 hu)
      rw [this]; rfl
    | some u =>
      rw [hu] at h5
      cases he : es[i]? with
      | none => rw [he] at h5; simp at h5
      | some e =>
        rw [he] at h5
        simp only [Option.map_some,Option.some.injEq,unborn,Prod.mk.injEq] at h5
        simp only [Option.map_some,mapME,Option.some.injEq]
        obtain ⟨e1, e2, e3⟩ := e
        simp only at h5 ⊢
        rw [<- h5.1, <- h5.2]
  refine ⟨B, rfl, ents, clk, (l.zip es).map fun p => (p.1.1, p.1.2, p.2.2.2), h1, MapR_ren hσ (by rw [hz]; exact h2), fun h => (by cases h), ?_⟩
  have h6 : ((l.zip es).map fun p => ((p.1.1, p.1.2, p.2.2.2) : ME)).map unborn = l := by
    rw [List.map_map]
    have : (unborn ∘ fun p : (V × V) × ME => ((p.1.1, p.1.2, p.2.2.2) : ME)) = Prod.fst := by funext p; rfl
    rw [this, List.map_fst_zip (by omega)]
  rw [h6]; exact hl1
theorem BR_to {σ : Nat -> Nat} {K2 : KM} (hσ : Ren σ K2 K') {x1 x2 : Blk} (ht : BlkTo σ x1 x2) {e : KB} (h : BR K' w x1 e) : BR K2 w x2 e := by
  cases ht with
  | cells g k c =>
    obtain ⟨B, S, N, rfl, c', ty, fr, h1, h2, h3, h4, h5⟩ := h
    exact ⟨B, S, N, rfl, c', ty, fr, h1, h2, by simpa using h3, CR_ren hσ h4, h5⟩
  | junk g k c =>
    obtain ⟨B, S, N, rfl, c', ty, fr, h1, h2, h3, h4, h5⟩ := h
    exact ⟨B, S, N, rfl, c', ty, fr, h1, h2, by simp only [List.length_nil]; omega, fun j v hj => by simp at hj, h5⟩
  | cut g k c r =>
    obtain ⟨B, S, N, rfl, c', ty, fr, h1, h2, h3, h4, h5⟩ := h
    refine ⟨B, S, N, rfl, c', ty, fr, h1, h2, ?_, CR_ren hσ fun j v hj => h4 j v ?_, h5⟩
    · rw [List.length_append, List.length_map] at h3; omega
    · rw [List.getElem?_append_left (List.getElem?_eq_some_iff.1 hj).1]; exact hj
  | perm ex es es' c c' hp =>
    obtain ⟨B, rfl, ents, clk, es0, h1, h2, h3, h4⟩ := h
    exact BR_perm hσ h1 h2 (h4.trans hp)
  | map ex es c =>
    obtain ⟨B, rfl, ents, clk, es', h1, h2, h3, h4⟩ := h
    cases hex : ex with
    | true =>
      obtain ⟨rfl, rfl⟩ := h3 hex
      exact ⟨B, rfl, ents, clk, es, h1, MapR_ren hσ h2, fun _ => ⟨rfl, rfl⟩, .refl _⟩
    | false =>
      refine BR_perm hσ h1 h2 ?_
      rw [List.map_map] at h4
      exact h4
  | loop r =>
    obtain ⟨B, L, rfl, R, h1, h2, h3⟩ := h
    refine ⟨B, L, rfl, R, h1, ⟨h2.state, h2.pending, h2.good, h2.params, h2.assign, h2.body, ?_⟩, fun hl => LR_ren hσ (h3 hl)⟩
    refine ⟨by simpa [mapLoop] using h2.tmps.1, fun i v hi => ?_⟩
    obtain ⟨y, h4, h5⟩ := h2.tmps.2 i (mapTV σ v) (by show (r.e.map (mapTV σ))[i]? = _; rw [List.getElem?_map, hi]; rfl)
    exact ⟨y, h4, (TVR_ren hσ v y).1 h5⟩
def OldB (K : KM) (x : Blk) : Prop := ∃ w e, BR K w x e
theorem OldB.cells {σ : Nat -> Nat} (hf : ∀ b, b < K.length -> σ b = b) {g : Nat} {k : Bool} {c : List V} (h : OldB K (.cells g k c)) : c.map (mapV σ) = c := by
  obtain ⟨w, e, B, S, N, rfl, c', ty, fr, h1, h2, h3, h4, h5⟩ := h
  conv => rhs; rw [<- List.map_id c]
  refine List.map_congr_left fun v hv => ?_
  obtain ⟨j, hj⟩ := List.getElem?_of_mem hv
  obtain ⟨_, y, _, h6⟩ := h4 j v hj
  exact mapV_fix hf v y h6
theorem OldB.map {σ : Nat -> Nat} (hf : ∀ b, b < K.length -> σ b = b) {ex : Bool} {es : List ME} {c : Nat} (h : OldB K (.map ex es c)) : ∀ e ∈ es, mapV σ e.2.1 = e.2.1 := by
  obtain ⟨w, e0, B, rfl, ents, clk, es', h1, h2, h3, h4⟩ := h
  intro e he
  obtain ⟨e', he', hu⟩ := List.mem_map.1 (h4.mem_iff.2 (List.mem_map.2 ⟨e, he, rfl⟩))
  obtain ⟨i, hi⟩ := List.getElem?_of_mem he'
  obtain ⟨m, _, _, h5, _⟩ := h2.at_ i e' hi
  have h6 := mapV_fix hf _ _ h5
  simp only [unborn,Prod.mk.injEq] at hu
  rw [<- hu.2]; exact h6
theorem BR_old {σ : Nat -> Nat} {K2 : KM} (hσ : Ren σ K2 K') (hf : ∀ b, b < K.length -> σ b = b) {x : Blk} (ho : OldB K x) {e : KB} (h : BR K' w x e) : BR K2 w x e := by
  cases x with
  | cells g k c =>
    refine BR_to (x1 := .cells g k (c.map (mapV σ))) hσ (.cells g k c) ?_
    rw [ho.cells hf]; exact h
  | map ex es c =>
    refine BR_to (x1 := .map ex (es.map (mapME σ)) c) hσ (.map ex es c) ?_
    have : es.map (mapME σ) = es := by
      conv => rhs; rw [<- List.map_id es]
      refine List.map_congr_left fun e he => ?_
      show (e.1, mapV σ e.2.1, e.2.2) = e
      rw [ho.map hf e he]
    rw [this]; exact h
  | loop r =>
    obtain ⟨w0, e0, B0, L0, rfl, R0, g1, g2, g3⟩ := ho
    obtain ⟨B, L, rfl, R, h1, h2, h3⟩ := h
    refine ⟨B, L, rfl, R, h1, ⟨h2.state, h2.pending, h2.good, h2.params, h2.assign, h2.body, ?_⟩, fun hl => ?_⟩
    · refine ⟨h2.tmps.1, fun i v hi => ?_⟩
      obtain ⟨y, h4, h5⟩ := h2.tmps.2 i v hi
      obtain ⟨y0, _, h6⟩ := g2.tmps.2 i v hi
      refine ⟨y, h4, (TVR_ren hσ v y).1 ?_⟩
      have : mapTV σ v = v := by
        cases v with
        | v x => simp only [mapTV]; rw [mapV_fix hf x y0 h6]
        | _ => rfl
      rw [this]; exact h5
    · have h4 := h3 hl
      refine ⟨h4.1, fun s ver c hs => ?_⟩
      obtain ⟨B1, h5, h6⟩ := h4.2 s ver c hs
      refine ⟨B1, h5, fun hv => ?_⟩
      obtain ⟨c', e, h7, h8, h9⟩ := h6 hv
      obtain ⟨B2, _, g6⟩ := (g3 hl).2 s ver c hs
      obtain ⟨c0, e0, _, _, g9⟩ := g6 hv
      refine ⟨c', e, h7, h8, CR_ren hσ ?_⟩
      have : c.map (mapV σ) = c := by
        conv => rhs; rw [<- List.map_id c]
        refine List.map_congr_left fun v hv => ?_
        obtain ⟨j, hj⟩ := List.getElem?_of_mem hv
        obtain ⟨_, y, _, h6⟩ := g9 j v hj
        exact mapV_fix hf v y h6
      rw [this]; exact h9
theorem Mem.old {L : KL} {l : Locs} {h : Heap} (hm : Mem K L l h w) {b : Nat} {x : Blk} (hx : h[b]? = some x) : OldB K x := by
  obtain ⟨e, _, hb⟩ := hm.hr.2 b x hx
  exact ⟨w, e, hb⟩
theorem Mem.exact {l : Locs} {h : Heap} (hm : Mem K L l h w) {m : Nat} {ex : Bool} {es : List ME} {c : Nat} (hx : h[m]? = some (.map ex es c)) :
    ∃ es' c' bm ents, (es'.map unborn).Perm (es.map unborn) /\ (ex = true -> es' = es /\ c' = c) /\ Mem K L l (h.set m (.map true es' c')) w /\ K[m]? = some (.m bm) /\ w.heap[bm]? = some (.map ents c') /\ MapR K es' ents c' := by
  obtain ⟨e, he, B, rfl, ents, clk, es', h1, h2, h3, h4⟩ := hm.hr.2 m _ hx
  refine ⟨es', clk, B, ents, h4, h3, ⟨hm.lr, ⟨by rw [List.length_set]; exact hm.hr.1, fun b x hb => ?_⟩, hm.inv⟩, he, h1, h2⟩
  by_cases e : m = b
  · subst e
    rw [List.getElem?_set_self (List.getElem?_eq_some_iff.1 hx).1] at hb
    cases hb
    exact ⟨_, he, B, rfl, ents, clk, es', h1, h2, fun _ => ⟨rfl, rfl⟩, .refl _⟩
  · rw [List.getElem?_set_ne e] at hb
    exact hm.hr.2 b x hb
def mapO (σ : Nat -> Nat) : Owner -> Owner
  | .loc s => .loc s
  | .blk b => .blk (σ b)
  | .lloc b s => .lloc (σ b) s
omit [Good] in
theorem mapO_inj {σ : Nat -> Nat} (hi : ∀ b b', σ b = σ b' -> b = b') {o o' : Owner} (h : mapO σ o = mapO σ o') : o = o' := by
  cases o <;> cases o' <;> simp only [mapO,Owner.loc.injEq,Owner.blk.injEq,Owner.lloc.injEq,reduceCtorEq] at h
  · rw [h]
  · rw [hi _ _ h]
  · rw [hi _ _ h.1, h.2]
omit [Good] in
theorem OwnBy_ren {σ : Nat -> Nat} {K2 : KM} (hσ : Ren σ K2 K') {o : Owner} {B : Nat} (ho : OwnBy K2 [] o B) : OwnBy K' [] (mapO σ o) B := by
  cases o with
  | loc s => exact absurd ho own_nil_loc
  | blk b =>
    rcases ho with ⟨g, S, N, k, h1, h2⟩ | h1 | ⟨l, t, h1⟩
    · exact .inl ⟨g, S, N, k, by rw [<- hσ b]; exact h1, h2⟩
    · exact .inr (.inl (by rw [<- hσ b]; exact h1))
    · exact .inr (.inr ⟨l, t, by rw [<- hσ b]; exact h1⟩)
  | lloc b s =>
    obtain ⟨B', l, ver, h1, h2, h3⟩ := ho
    exact ⟨B', l, ver, by rw [<- hσ b]; exact h1, h2, h3⟩
theorem Mem_to {σ : Nat -> Nat} {K2 : KM} (hσ : Ren σ K2 K') (hi : ∀ b b', σ b = σ b' -> b = b') {h h2 : Heap} (hm : Mem K' [] [] h w) (hlen : h2.length = K2.length)
    (hb : ∀ b x2, h2[b]? = some x2 -> ∃ x1, h[σ b]? = some x1 /\ ∀ e, BR K' w x1 e -> BR K2 w x2 e) : Mem K2 [] [] h2 w := by
  refine ⟨⟨rfl, fun s ver c h => by simp at h⟩, ⟨hlen, fun b x2 hx => ?_⟩, ⟨fun o o' B h1 h3 => ?_, fun o B h1 => ?_, fun b g B S N h1 => ?_⟩⟩
  · obtain ⟨x1, h3, h4⟩ := hb b x2 hx
    obtain ⟨e, h5, h6⟩ := hm.hr.2 _ x1 h3
    exact ⟨e, by rw [hσ b]; exact h5, h4 e h6⟩
  · exact mapO_inj hi (hm.inv.inj _ _ B (OwnBy_ren hσ h1) (OwnBy_ren hσ h3))
  · exact hm.inv.lt _ B (OwnBy_ren hσ h1)
  · rw [hσ b] at h1
    obtain ⟨h3, h4⟩ := hm.inv.ro (σ b) g B S N h1
    exact ⟨h3, fun o ho => h4 _ (OwnBy_ren hσ ho)⟩
end Go.Ev
namespace Go.Ev
variable [Good] {P : Program} {K K' : KM} {L : KL} {w : World}
omit [Good] in
theorem Step_to {σ : Nat -> Nat} {K2 : KM} (hσ : Ren σ K2 K') (hi : ∀ b b', σ b = σ b' -> b = b') (hf : ∀ b, b < K.length -> σ b = b) {w' : World} (h : Step K [] w K' [] w') : Step K [] w K2 [] w' := by
  have hb : ∀ b e, K[b]? = some e -> K2[b]? = K'[b]? := fun b e he => by rw [hσ b, hf b (List.getElem?_eq_some_iff.1 he).1]
  refine ⟨fun b e he => ?_, h.lle, h.size, h.same, fun o B ho => ?_, h.os, h.tape, h.output, fun b g B S N hb2 => ?_, fun b B kl t he => ?_⟩
  · obtain ⟨e', h1, h2⟩ := h.kle b e he
    exact ⟨e', by rw [hb b e he]; exact h1, h2⟩
  · exact h.own _ B (OwnBy_ren hσ ho)
  · rw [hσ b] at hb2
    exact h.ros _ g B S N hb2
  · obtain ⟨kl', h1, h2⟩ := h.loops b B kl t he
    exact ⟨kl', by rw [hb b _ he]; exact h1, h2⟩
structure Told (X : Env) (rs : List ResultVar) (K : KM) (s : St) (v : V) (h' : Heap) : Prop where
  told : ∃ (σ : Nat -> Nat) (vs : List V), (∀ b b', σ b = σ b' -> b = b') /\ (∀ b, b < K.length -> σ b = b) /\ (∀ b, b < h'.length -> σ b < s.h.length) /\ (∀ b, h'.length <= b -> s.h.length <= σ b) /\
    (∀ b x2, h'[b]? = some x2 -> ∃ x1, s.h[σ b]? = some x1 /\ (BlkTo σ x1 x2 \/ (x1 = x2 /\ OldB K x2))) /\ results X s rs = some vs /\ resV vs = mapV σ v
theorem Told.post {X : Env} {rs : List ResultVar} {s : St} {v : V} {h' : Heap} (ht : Told X rs K s v h') {w' : World} (hm : Mem K' [] [] s.h w') (hst : Step K [] w K' [] w') :
    ∃ vs, results X s rs = some vs /\ ∀ y, VR K' (resV vs) y -> ∃ K2, VR K2 v y /\ Mem K2 [] [] h' w' /\ Step K [] w K2 [] w' := by
  obtain ⟨σ, vs, h1, h2, h4, h5, h6, h7, h8⟩ := ht.told
  refine ⟨vs, h7, fun y hy => ?_⟩
  have hl : s.h.length = K'.length := hm.hr.1
  let K2 : KM := (List.range h'.length).map fun b => K'.getD (σ b) (.m 0)
  have hσ : Ren σ K2 K' := by
    intro b
    by_cases hb : b < h'.length
    · have h9 := h4 b hb
      rw [hl] at h9
      simp only [K2,List.getElem?_map,List.getElem?_range hb,Option.map_some,List.getD_eq_getElem?_getD,List.getElem?_eq_getElem h9,Option.getD_some]
    · have h9 := h5 b (by omega)
      rw [hl] at h9
      have e1 : K'[σ b]? = none := List.getElem?_eq_none_iff.2 h9
      have e2 : K2[b]? = none := List.getElem?_eq_none_iff.2 (by simp [K2]; omega)
      rw [e1, e2]
  refine ⟨K2, (VR_ren hσ v y).1 (by rw [<- h8]; exact hy), Mem_to hσ h1 hm (by simp [K2]) (fun b x2 hb => let ⟨x1, a1, a2⟩ := h6 b x2 hb; ⟨x1, a1, fun e he => a2.elim (fun q => BR_to hσ q he) fun q => BR_old hσ h2 q.2 (q.1 ▸ he)⟩), Step_to hσ h1 h2 hst⟩
theorem bodyCall_ok {X : Env} (hX : X.ty = tyOf P) {f : FuncId} {fn : Func} {c : Code} (hfn : P.funcs[f]? = some fn) (hc : fn.body = some c) (hname : (fn.name == "runtime.NumGoroutine") = false) (nsl : Nat)
    {cap args : List V} {h : Heap} {v : V} {h' : Heap} (hm : Mem K [] [] h w)
    (hw : ∀ a, SB w.heap.size K (List.replicate nsl (0, 0)) ⟨(args ++ cap).map .v ++ List.replicate (fn.ntmps - (args ++ cap).length) .u, List.replicate nsl (0, []), h⟩ a w ->
      c.wpIn (FW none) 0 P (fun x a' w' => (x = .normal \/ x = .ret) /\ ∃ s' K' L', SB w.heap.size K' L' s' a' w' /\ Step K (List.replicate nsl (0, 0)) w K' L' w' /\ Told X fn.results.toList K s' v h') a w) : CallOk P K w (.fn f cap) args v h' := by
  refine ⟨⟨fn, hfn, by simp [hc], hname⟩, fun ys hys => ?_⟩
  refine callsIn_of_wp_marks hfn hc trivial ?_
  have hno : ∀ o B, OwnBy K (List.replicate (nsl) (0, 0)) o B -> OwnBy K [] o B := by
    intro o B ho
    cases o with
    | loc s =>
      obtain ⟨ver, h1, h2⟩ := ho
      rw [List.getElem?_replicate] at h1
      split at h1
      · cases h1; omega
      · cases h1
    | blk b => exact ho
    | lloc b s => exact ho
  have hm0 : Mem K (List.replicate (nsl) (0, 0)) (List.replicate (nsl) (0, [])) h w := by
    refine ⟨⟨by simp, fun s ver c hsc => ?_⟩, hm.hr, ⟨fun o o' B h1 h2 => hm.inv.inj o o' B (hno o B h1) (hno o' B h2), fun o B h1 => hm.inv.lt o B (hno o B h1), fun b g B S N hb => ⟨(hm.inv.ro b g B S N hb).1, fun o ho => (hm.inv.ro b g B S N hb).2 o (hno o B ho)⟩⟩⟩
    rw [List.getElem?_replicate] at hsc
    split at hsc
    · rename_i hlt
      cases hsc
      exact ⟨0, by rw [List.getElem?_replicate, if_pos hlt], fun h => absurd h (by omega)⟩
    · cases hsc
  have hs0 : SB w.heap.size K (List.replicate (nsl) (0, 0)) ⟨(args ++ cap).map .v ++ List.replicate (fn.ntmps - (args ++ cap).length) .u, List.replicate (nsl) (0, []), h⟩
      { tmps := ys.toArray ++ Array.replicate (fn.ntmps - ys.toArray.size) undef, defers := [] } w := by
    refine ⟨⟨by simp [hys.length]; omega, fun i x hx => ?_⟩, hm0, ⟨[], rfl, List.nodup_nil, fun D hD => by cases hD⟩⟩
    have hl := hys.length
    rcases Nat.lt_or_ge i (args ++ cap).length with hi | hi
    · rw [List.getElem?_append_left (by simpa using hi), List.getElem?_map] at hx
      cases hv : (args ++ cap)[i]? with
      | none => rw [hv] at hx; cases hx
      | some u =>
        rw [hv] at hx
        cases hx
        obtain ⟨y, hy, h2⟩ := hys.get i u hv
        refine ⟨y, ?_, h2⟩
        show (ys.toArray ++ Array.replicate (fn.ntmps - ys.toArray.size) undef)[i]? = some y
        rw [Array.getElem?_append_left (by simp [hl]; simpa using hi)]
        simpa using hy
    · rw [List.getElem?_append_right (by simpa using hi), List.getElem?_replicate] at hx
      split at hx
      · rename_i hlt
        cases hx
        refine ⟨undef, ?_, rfl⟩
        have hsz : ys.toArray.size = (args ++ cap).length := by simp [hl]
        show (ys.toArray ++ Array.replicate (fn.ntmps - ys.toArray.size) undef)[i]? = some undef
        rw [Array.getElem?_append_right (by rw [hsz]; exact hi), hsz, Array.getElem?_replicate]
        simp only [List.length_map] at hlt
        rw [if_pos hlt]
      · cases hx
  have hq : ∀ s' a' w' K' L', SB w.heap.size K' L' s' a' w' -> Step K (List.replicate nsl (0, 0)) w K' L' w' -> Told X fn.results.toList K s' v h' -> LeavesInM (FW none) 0 P fn a'.tmps (Post K w v h') a'.defers .returning w' := by
    intro s' a' w' K' L' hs' hst htold
    obtain ⟨Ds, hds, hnd, hDs⟩ := hs'.marks
    rw [hds]
    refine leaves_ok Ds w' (fun D hD => (hDs D hD).2.1) hnd fun w2 h1 h2 h3 h4 h5 => ?_
    have hm2 : Mem K' L' s'.l s'.h w2 := hs'.mem.keep (Nat.le_of_eq h1.symm) fun B hB hd => h2 B fun hin => hd _ (hDs B hin).2.1
    have hst2 : Step K [] w K' [] w2 := by
      refine ⟨hst.kle, KL.le_refl [], by rw [h1]; exact hst.size, fun B hB hn => ?_, fun o B ho => ?_, h3.trans hst.os, h4.trans hst.tape, h5.trans hst.output, fun b g B S N hb => (hst.ros b g B S N hb).imp id fun h8 => h8.imp id fun ⟨o', h9⟩ => ⟨o', hno o' B h9⟩, hst.loops⟩
      · rw [h2 B fun hin => by have := (hDs B hin).1; omega]
        exact hst.same B hB fun o ho => hn o (hno o B ho)
      · exact (hst.own o B (own_nil ho L')).imp id fun ⟨o', h8⟩ => ⟨o', hno o' B h8⟩
    obtain ⟨vs, hvs, hpost⟩ := htold.post hm2.drop hst2
    obtain ⟨zs, h6, h7⟩ := results_list hX hs'.env hm2 _ _ hvs
    exact ⟨_, run_results rfl h6, hpost _ (resV_ok h7)⟩
  refine wpIn_mono (hw _ hs0) fun x a' w' hx => ?_
  obtain ⟨hx, s', K', L', h1, h2, h3⟩ := hx
  rcases hx with rfl | rfl
  · exact hq s' a' w' K' L' h1 h2 h3
  · exact hq s' a' w' K' L' h1 h2 h3
end Go.Ev
namespace Go.Ev
theorem Fit.specD {P : Program} {X : Env} (h : Fit P X) : @Spec (goodOf X) P (D X) := by
  intro fv args hp v h' hc
  obtain ⟨n, hn⟩ := last_some.1 hc
  exact h.spec n _ _ _ _ _ (hn n (Nat.le_refl n))
theorem Fit.drawD {P : Program} {X : Env} (h : Fit P X) {C : CallSem} (hS : @Spec (goodOf X) P C) : @DrawSpec (goodOf X) P X C (DOk X) := by
  letI := goodOf X
  exact draw_ok h.typesOk h.ty h.mixed hS
theorem Fit.loops {P : Program} {X : Env} (h : Fit P X) (f : FuncId) : @LSpec (goodOf X) P (DOk X f) (Lo X f) := by
  letI := goodOf X
  intro c hc base s s' x hl
  obtain ⟨n, hn⟩ := last_some.1 hl
  exact loopN_ok h.typesOk h.ty h.specD (h.drawD h.specD) (fun _ _ h => h) f n c hc base s s' x (hn n (Nat.le_refl n))
end Go.Ev
namespace Go.Ev
open Go.Proofs
theorem tysChk : (List.range Tryz.prog.types.size).all (typeChk Tryz.prog) = true := by decide +kernel
theorem fnsChk : (List.range Tryz.prog.funcs.size).all (bodyChk X0 Tryz.prog) = true := by decide +kernel
theorem fit0 : Fit Tryz.prog X0 where
  ty := by kernel_rfl
  body := by kernel_rfl
  mixed := by kernel_rfl
  types := fun t ht => List.all_eq_true.1 tysChk t (List.mem_range.2 ht)
  bodies := fun f hf => List.all_eq_true.1 fnsChk f (List.mem_range.2 hf)
  pins := fun f b h => by cases h
end Go.Ev
namespace Go.Ev.Q
noncomputable abbrev X : Env := X0
open Go.Proofs
noncomputable def c41 : Code := (Tryz.f41.body).getD .skip
theorem body41 : X.body 41 = some (c41, 4, [.tmp 0]) := by kernel_rfl
theorem slot41 : X.slot 41 = fun t => posT [] t 0 := rfl
theorem nslot41 : X.nslots 41 = 0 := rfl
theorem pin41 : X.pin 41 = none := rfl
noncomputable def c62 : Code := (Tryz.f62.body).getD .skip
theorem body62 : X.body 62 = some (c62, 10, [.tmp 2]) := by kernel_rfl
theorem slot62 : X.slot 62 = fun t => posT [] t 0 := rfl
theorem nslot62 : X.nslots 62 = 0 := rfl
theorem pin62 : X.pin 62 = none := rfl
noncomputable def c71 : Code := (Tryz.f71.body).getD .skip
theorem body71 : X.body 71 = some (c71, 14, [.cell 2 32]) := by kernel_rfl
theorem slot71 : X.slot 71 = fun t => posT [1, 2] t 0 := rfl
theorem nslot71 : X.nslots 71 = 2 := rfl
theorem pin71 : X.pin 71 = none := rfl
noncomputable def c91 : Code := (Tryz.f91.body).getD .skip
theorem body91 : X.body 91 = some (c91, 29, [.tmp 2]) := by kernel_rfl
theorem slot91 : X.slot 91 = fun t => posT [4, 24] t 0 := rfl
theorem nslot91 : X.nslots 91 = 2 := rfl
theorem pin91 : X.pin 91 = none := rfl
noncomputable def c94 : Code := (Tryz.f94.body).getD .skip
theorem body94 : X.body 94 = some (c94, 36, [.tmp 2]) := by kernel_rfl
theorem slot94 : X.slot 94 = fun t => posT [] t 0 := rfl
theorem nslot94 : X.nslots 94 = 0 := rfl
theorem pin94 : X.pin 94 = none := rfl
noncomputable def c95 : Code := (Tryz.f95.body).getD .skip
theorem body95 : X.body 95 = some (c95, 14, []) := by kernel_rfl
theorem slot95 : X.slot 95 = fun t => posT [] t 0 := rfl
theorem nslot95 : X.nslots 95 = 0 := rfl
theorem pin95 : X.pin 95 = none := rfl
noncomputable def c96 : Code := (Tryz.f96.body).getD .skip
theorem body96 : X.body 96 = some (c96, 12, [.tmp 4]) := by kernel_rfl
theorem slot96 : X.slot 96 = fun t => posT [2, 3] t 0 := rfl
theorem nslot96 : X.nslots 96 = 2 := rfl
theorem pin96 : X.pin 96 = none := rfl
theorem plan96_1 : X.plan 96 1 = [(0, [0], []), (1, [1], []), (3, [1], []), (4, [0], []), (2, [], [(3, [1]), (4, [0])]), (5, [], []), (6, [], []), (7, [], [])] := by kernel_rfl
noncomputable def c97 : Code := (Tryz.f97.body).getD .skip
theorem body97 : X.body 97 = some (c97, 9, [.tmp 4]) := by kernel_rfl
theorem slot97 : X.slot 97 = fun t => posT [] t 0 := rfl
theorem nslot97 : X.nslots 97 = 0 := rfl
theorem pin97 : X.pin 97 = none := rfl
noncomputable def c98 : Code := (Tryz.f98.body).getD .skip
theorem body98 : X.body 98 = some (c98, 20, [.tmp 4]) := by kernel_rfl
theorem slot98 : X.slot 98 = fun t => posT [2, 3] t 0 := rfl
theorem nslot98 : X.nslots 98 = 2 := rfl
theorem pin98 : X.pin 98 = none := rfl
noncomputable def c99 : Code := (Tryz.f99.body).getD .skip
theorem body99 : X.body 99 = some (c99, 61, [.tmp 2]) := by kernel_rfl
theorem slot99 : X.slot 99 = fun t => posT [] t 0 := rfl
theorem nslot99 : X.nslots 99 = 0 := rfl
theorem pin99 : X.pin 99 = none := rfl
theorem plan99_6 : X.plan 99 6 = [(0, [], []), (1, [], []), (2, [], []), (3, [], []), (4, [], []), (5, [], []), (6, [], []), (7, [], []), (8, [], []), (9, [], [])] := by kernel_rfl
theorem plan99_11 : X.plan 99 11 = [(0, [], []), (1, [], []), (2, [], []), (3, [], []), (4, [], []), (5, [], []), (6, [], []), (7, [], []), (8, [], []), (9, [], [])] := by kernel_rfl
noncomputable def c104 : Code := (Tryz.f104.body).getD .skip
theorem body104 : X.body 104 = some (c104, 27, [.tmp 2]) := by kernel_rfl
theorem slot104 : X.slot 104 = fun t => posT [4, 5] t 0 := rfl
theorem nslot104 : X.nslots 104 = 2 := rfl
theorem pin104 : X.pin 104 = none := rfl
theorem plan104_7 : X.plan 104 7 = [(0, [], []), (1, [], []), (2, [], []), (3, [], []), (4, [0], []), (5, [1], []), (6, [], [(3, []), (4, [0])]), (7, [], [])] := by kernel_rfl
noncomputable def c105 : Code := (Tryz.f105.body).getD .skip
theorem body105 : X.body 105 = some (c105, 8, [.tmp 2]) := by kernel_rfl
theorem slot105 : X.slot 105 = fun t => posT [] t 0 := rfl
theorem nslot105 : X.nslots 105 = 0 := rfl
theorem pin105 : X.pin 105 = none := rfl
noncomputable def c106 : Code := (Tryz.f106.body).getD .skip
theorem body106 : X.body 106 = some (c106, 8, [.tmp 2]) := by kernel_rfl
theorem slot106 : X.slot 106 = fun t => posT [] t 0 := rfl
theorem nslot106 : X.nslots 106 = 0 := rfl
theorem pin106 : X.pin 106 = none := rfl
noncomputable def c115 : Code := (Tryz.f115.body).getD .skip
theorem body115 : X.body 115 = some (c115, 27, [.tmp 4]) := by kernel_rfl
theorem slot115 : X.slot 115 = fun t => posT [] t 0 := rfl
theorem nslot115 : X.nslots 115 = 0 := rfl
theorem pin115 : X.pin 115 = none := rfl
noncomputable def c116 : Code := (Tryz.f116.body).getD .skip
theorem body116 : X.body 116 = some (c116, 148, []) := by kernel_rfl
theorem slot116 : X.slot 116 = fun t => posT [] t 0 := rfl
theorem nslot116 : X.nslots 116 = 0 := rfl
theorem pin116 : X.pin 116 = none := rfl
theorem plan116_17 : X.plan 116 17 = [(0, [], []), (1, [], []), (2, [], []), (3, [], []), (4, [], []), (5, [], []), (6, [], []), (7, [], []), (8, [], []), (9, [], []), (10, [], []), (11, [], []), (12, [], []), (13, [], []), (14, [], []), (15, [], []), (16, [], [])] := by kernel_rfl
noncomputable def c117 : Code := (Tryz.f117.body).getD .skip
theorem body117 : X.body 117 = some (c117, 8, [.tmp 2]) := by kernel_rfl
theorem slot117 : X.slot 117 = fun t => posT [] t 0 := rfl
theorem nslot117 : X.nslots 117 = 0 := rfl
theorem pin117 : X.pin 117 = none := rfl
noncomputable def c122 : Code := (Tryz.f122.body).getD .skip
theorem body122 : X.body 122 = some (c122, 53, []) := by kernel_rfl
theorem slot122 : X.slot 122 = fun t => posT [] t 0 := rfl
theorem nslot122 : X.nslots 122 = 0 := rfl
theorem pin122 : X.pin 122 = none := rfl
theorem plan122_4 : X.plan 122 4 = [(0, [], []), (1, [], []), (2, [], []), (3, [], []), (4, [], []), (5, [], []), (6, [], []), (7, [], []), (8, [], []), (9, [], []), (10, [], []), (11, [], []), (12, [], []), (13, [], []), (14, [], []), (15, [], []), (16, [], [])] := by kernel_rfl
theorem plan122_6 : X.plan 122 6 = [(0, [], []), (1, [], []), (2, [], []), (3, [], []), (4, [], []), (5, [], []), (6, [], []), (7, [], []), (8, [], []), (9, [], []), (10, [], []), (11, [], []), (12, [], []), (13, [], []), (14, [], []), (15, [], []), (16, [], []), (17, [], [])] := by kernel_rfl
noncomputable def c123 : Code := (Tryz.f123.body).getD .skip
theorem body123 : X.body 123 = some (c123, 60, []) := by kernel_rfl
theorem slot123 : X.slot 123 = fun t => posT [] t 0 := rfl
theorem nslot123 : X.nslots 123 = 0 := rfl
theorem pin123 : X.pin 123 = none := rfl
theorem plan123_10 : X.plan 123 10 = [(0, [], []), (1, [], []), (2, [], []), (3, [], []), (4, [], []), (5, [], []), (6, [], []), (7, [], []), (8, [], []), (9, [], []), (10, [], []), (11, [], []), (12, [], []), (13, [], []), (14, [], []), (15, [], []), (16, [], []), (17, [], []), (18, [], []), (19, [], [])] := by kernel_rfl
noncomputable def c124 : Code := (Tryz.f124.body).getD .skip
theorem body124 : X.body 124 = some (c124, 67, []) := by kernel_rfl
theorem slot124 : X.slot 124 = fun t => posT [] t 0 := rfl
theorem nslot124 : X.nslots 124 = 0 := rfl
theorem pin124 : X.pin 124 = none := rfl
theorem plan124_10 : X.plan 124 10 = [(0, [], []), (1, [], []), (2, [], []), (3, [], []), (4, [], []), (5, [], []), (6, [], []), (7, [], []), (8, [], []), (9, [], []), (10, [], []), (11, [], []), (12, [], []), (13, [], []), (14, [], []), (15, [], []), (16, [], []), (17, [], []), (18, [], []), (19, [], [])] := by kernel_rfl
noncomputable def c125 : Code := (Tryz.f125.body).getD .skip
theorem body125 : X.body 125 = some (c125, 63, [.tmp 8, .tmp 9]) := by kernel_rfl
theorem slot125 : X.slot 125 = fun t => posT [] t 0 := rfl
theorem nslot125 : X.nslots 125 = 0 := rfl
theorem pin125 : X.pin 125 = none := rfl
noncomputable def c126 : Code := (Tryz.f126.body).getD .skip
theorem body126 : X.body 126 = some (c126, 34, []) := by kernel_rfl
theorem slot126 : X.slot 126 = fun t => posT [] t 0 := rfl
theorem nslot126 : X.nslots 126 = 0 := rfl
theorem pin126 : X.pin 126 = none := rfl
theorem plan126_3 : X.plan 126 3 = [(0, [], []), (1, [], []), (2, [], []), (3, [], []), (4, [], []), (5, [], []), (6, [], []), (7, [], []), (8, [], []), (9, [], []), (10, [], []), (11, [], []), (12, [], []), (13, [], []), (14, [], []), (15, [], [])] := by kernel_rfl
noncomputable def c127 : Code := (Tryz.f127.body).getD .skip
theorem body127 : X.body 127 = some (c127, 141, [.tmp 8]) := by kernel_rfl
theorem slot127 : X.slot 127 = fun t => posT [] t 0 := rfl
theorem nslot127 : X.nslots 127 = 0 := rfl
theorem pin127 : X.pin 127 = none := rfl
theorem plan127_5 : X.plan 127 5 = [(0, [], []), (1, [], []), (2, [], []), (3, [], []), (4, [], []), (5, [], []), (6, [], []), (7, [], []), (8, [], []), (9, [], []), (10, [], []), (11, [], []), (12, [], []), (13, [], []), (14, [], []), (15, [], []), (16, [], []), (17, [], [])] := by kernel_rfl
theorem plan127_11 : X.plan 127 11 = [(0, [], []), (1, [], []), (2, [], []), (3, [], []), (4, [], []), (5, [], []), (6, [], []), (7, [], []), (8, [], []), (9, [], []), (10, [], []), (11, [], []), (12, [], []), (13, [], []), (14, [], []), (15, [], []), (16, [], []), (17, [], [])] := by kernel_rfl
theorem plan127_16 : X.plan 127 16 = [(0, [], []), (1, [], []), (2, [], []), (3, [], []), (4, [], []), (5, [], []), (6, [], []), (7, [], []), (8, [], []), (9, [], []), (10, [], []), (11, [], []), (12, [], [])] := by kernel_rfl
theorem plan127_17 : X.plan 127 17 = [(0, [], []), (1, [], []), (2, [], []), (3, [], []), (4, [], []), (5, [], []), (6, [], []), (7, [], []), (8, [], []), (9, [], []), (10, [], []), (11, [], []), (12, [], []), (13, [], []), (14, [], []), (15, [], []), (16, [], []), (17, [], [])] := by kernel_rfl
theorem plan127_22 : X.plan 127 22 = [(0, [], []), (1, [], []), (2, [], []), (3, [], []), (4, [], []), (5, [], []), (6, [], []), (7, [], []), (8, [], []), (9, [], []), (10, [], []), (11, [], []), (12, [], [])] := by kernel_rfl
theorem plan127_23 : X.plan 127 23 = [(0, [], []), (1, [], []), (2, [], []), (3, [], []), (4, [], []), (5, [], []), (6, [], []), (7, [], []), (8, [], []), (9, [], []), (10, [], []), (11, [], []), (12, [], []), (13, [], []), (14, [], []), (15, [], []), (16, [], []), (17, [], [])] := by kernel_rfl
noncomputable def c128 : Code := (Tryz.f128.body).getD .skip
theorem body128 : X.body 128 = some (c128, 90, [.tmp 10]) := by kernel_rfl
theorem slot128 : X.slot 128 = fun t => posT [] t 0 := rfl
theorem nslot128 : X.nslots 128 = 0 := rfl
theorem pin128 : X.pin 128 = none := rfl
theorem plan128_1 : X.plan 128 1 = [(0, [], []), (1, [], []), (2, [], []), (3, [], []), (4, [], []), (5, [], []), (6, [], []), (7, [], []), (8, [], []), (9, [], []), (10, [], []), (11, [], []), (12, [], []), (13, [], []), (14, [], []), (15, [], [])] := by kernel_rfl
theorem plan128_3 : X.plan 128 3 = [(0, [], []), (1, [], []), (2, [], []), (3, [], []), (4, [], []), (5, [], []), (6, [], []), (7, [], []), (8, [], []), (9, [], []), (10, [], []), (11, [], []), (12, [], []), (13, [], []), (14, [], []), (15, [], []), (16, [], [])] := by kernel_rfl
theorem plan128_5 : X.plan 128 5 = [(0, [], []), (1, [], []), (2, [], []), (3, [], []), (4, [], []), (5, [], []), (6, [], []), (7, [], []), (8, [], []), (9, [], []), (10, [], []), (11, [], []), (12, [], []), (13, [], []), (14, [], []), (15, [], [])] := by kernel_rfl
theorem plan128_8 : X.plan 128 8 = [(0, [], []), (1, [], []), (2, [], []), (3, [], []), (4, [], []), (5, [], []), (6, [], []), (7, [], []), (8, [], []), (9, [], []), (10, [], []), (11, [], []), (12, [], []), (13, [], []), (14, [], []), (15, [], [])] := by kernel_rfl
noncomputable def c129 : Code := (Tryz.f129.body).getD .skip
theorem body129 : X.body 129 = some (c129, 178, [.tmp 10, .tmp 11]) := by kernel_rfl
theorem slot129 : X.slot 129 = fun t => posT [] t 0 := rfl
theorem nslot129 : X.nslots 129 = 0 := rfl
theorem pin129 : X.pin 129 = none := rfl
theorem plan129_1 : X.plan 129 1 = [(0, [], []), (1, [], []), (2, [], []), (3, [], []), (4, [], []), (5, [], []), (6, [], []), (7, [], []), (8, [], []), (9, [], []), (10, [], []), (11, [], []), (12, [], []), (13, [], []), (14, [], []), (15, [], [])] := by kernel_rfl
theorem plan129_3 : X.plan 129 3 = [(0, [], []), (1, [], []), (2, [], []), (3, [], []), (4, [], []), (5, [], []), (6, [], []), (7, [], []), (8, [], []), (9, [], []), (10, [], []), (11, [], []), (12, [], []), (13, [], []), (14, [], []), (15, [], [])] := by kernel_rfl
theorem plan129_5 : X.plan 129 5 = [(0, [], []), (1, [], []), (2, [], []), (3, [], []), (4, [], []), (5, [], []), (6, [], []), (7, [], []), (8, [], []), (9, [], []), (10, [], []), (11, [], []), (12, [], []), (13, [], []), (14, [], []), (15, [], []), (16, [], [])] := by kernel_rfl
theorem plan129_8 : X.plan 129 8 = [(0, [], []), (1, [], []), (2, [], []), (3, [], []), (4, [], []), (5, [], []), (6, [], []), (7, [], []), (8, [], []), (9, [], []), (10, [], []), (11, [], []), (12, [], []), (13, [], []), (14, [], []), (15, [], [])] := by kernel_rfl
theorem plan129_10 : X.plan 129 10 = [(0, [], []), (1, [], []), (2, [], []), (3, [], []), (4, [], []), (5, [], []), (6, [], []), (7, [], []), (8, [], []), (9, [], []), (10, [], []), (11, [], []), (12, [], []), (13, [], []), (14, [], []), (15, [], [])] := by kernel_rfl
theorem plan129_13 : X.plan 129 13 = [(0, [], []), (1, [], []), (2, [], []), (3, [], []), (4, [], []), (5, [], []), (6, [], []), (7, [], []), (8, [], []), (9, [], []), (10, [], []), (11, [], []), (12, [], []), (13, [], []), (14, [], []), (15, [], [])] := by kernel_rfl
theorem plan129_15 : X.plan 129 15 = [(0, [], []), (1, [], []), (2, [], []), (3, [], []), (4, [], []), (5, [], []), (6, [], []), (7, [], []), (8, [], []), (9, [], []), (10, [], []), (11, [], []), (12, [], []), (13, [], []), (14, [], []), (15, [], []), (16, [], [])] := by kernel_rfl
theorem plan129_18 : X.plan 129 18 = [(0, [], []), (1, [], []), (2, [], []), (3, [], []), (4, [], []), (5, [], []), (6, [], []), (7, [], []), (8, [], []), (9, [], []), (10, [], []), (11, [], []), (12, [], []), (13, [], []), (14, [], []), (15, [], [])] := by kernel_rfl
theorem plan129_21 : X.plan 129 21 = [(0, [], []), (1, [], []), (2, [], []), (3, [], []), (4, [], []), (5, [], []), (6, [], []), (7, [], []), (8, [], []), (9, [], []), (10, [], []), (11, [], []), (12, [], []), (13, [], []), (14, [], []), (15, [], [])] := by kernel_rfl
noncomputable def c131 : Code := (Tryz.f131.body).getD .skip
theorem body131 : X.body 131 = some (c131, 25, [.tmp 2]) := by kernel_rfl
theorem slot131 : X.slot 131 = fun t => posT [] t 0 := rfl
theorem nslot131 : X.nslots 131 = 0 := rfl
theorem pin131 : X.pin 131 = none := rfl
noncomputable def c133 : Code := (Tryz.f133.body).getD .skip
theorem body133 : X.body 133 = some (c133, 82, []) := by kernel_rfl
theorem slot133 : X.slot 133 = fun t => posT [] t 0 := rfl
theorem nslot133 : X.nslots 133 = 0 := rfl
theorem pin133 : X.pin 133 = none := rfl
theorem plan133_3 : X.plan 133 3 = [(0, [], []), (1, [], []), (2, [], []), (3, [], []), (4, [], []), (5, [], []), (6, [], []), (7, [], []), (8, [], []), (9, [], []), (10, [], []), (11, [], []), (12, [], []), (13, [], []), (14, [], []), (15, [], []), (16, [], []), (17, [], []), (18, [], []), (19, [], []), (20, [], []), (21, [], [])] := by kernel_rfl
theorem plan133_5 : X.plan 133 5 = [(0, [], []), (1, [], []), (2, [], []), (3, [], []), (4, [], []), (5, [], []), (6, [], []), (7, [], []), (8, [], []), (9, [], []), (10, [], []), (11, [], []), (12, [], []), (13, [], []), (14, [], []), (15, [], [])] := by kernel_rfl
theorem plan133_6 : X.plan 133 6 = [(0, [], []), (1, [], []), (2, [], []), (3, [], []), (4, [], []), (5, [], []), (6, [], []), (7, [], []), (8, [], []), (9, [], []), (10, [], []), (11, [], []), (12, [], []), (13, [], []), (14, [], []), (15, [], []), (16, [], []), (17, [], []), (18, [], []), (19, [], []), (20, [], []), (21, [], []), (22, [], []), (23, [], [])] := by kernel_rfl
noncomputable def c134 : Code := (Tryz.f134.body).getD .skip
theorem body134 : X.body 134 = some (c134, 7, [.tmp 2]) := by kernel_rfl
theorem slot134 : X.slot 134 = fun t => posT [] t 0 := rfl
theorem nslot134 : X.nslots 134 = 0 := rfl
theorem pin134 : X.pin 134 = none := rfl
noncomputable def c135 : Code := (Tryz.f135.body).getD .skip
theorem body135 : X.body 135 = some (c135, 33, [.tmp 2]) := by kernel_rfl
theorem slot135 : X.slot 135 = fun t => posT [] t 0 := rfl
theorem nslot135 : X.nslots 135 = 0 := rfl
theorem pin135 : X.pin 135 = none := rfl
theorem plan135_1 : X.plan 135 1 = [(0, [], []), (1, [], []), (2, [], []), (3, [], []), (4, [], []), (5, [], []), (6, [], []), (7, [], []), (8, [], []), (9, [], [])] := by kernel_rfl
theorem plan135_2 : X.plan 135 2 = [(0, [], []), (1, [], []), (2, [], []), (3, [], []), (4, [], []), (5, [], []), (6, [], []), (7, [], []), (8, [], []), (9, [], [])] := by kernel_rfl
theorem plan135_3 : X.plan 135 3 = [(0, [], []), (1, [], []), (2, [], []), (3, [], []), (4, [], []), (5, [], []), (6, [], []), (7, [], []), (8, [], []), (9, [], [])] := by kernel_rfl
noncomputable def c136 : Code := (Tryz.f136.body).getD .skip
theorem body136 : X.body 136 = some (c136, 18, [.tmp 8]) := by kernel_rfl
theorem slot136 : X.slot 136 = fun t => posT [] t 0 := rfl
theorem nslot136 : X.nslots 136 = 0 := rfl
theorem pin136 : X.pin 136 = none := rfl
noncomputable def c137 : Code := (Tryz.f137.body).getD .skip
theorem body137 : X.body 137 = some (c137, 41, [.tmp 12]) := by kernel_rfl
theorem slot137 : X.slot 137 = fun t => posT [] t 0 := rfl
theorem nslot137 : X.nslots 137 = 0 := rfl
theorem pin137 : X.pin 137 = none := rfl
noncomputable def c138 : Code := (Tryz.f138.body).getD .skip
theorem body138 : X.body 138 = some (c138, 32, [.tmp 10, .tmp 11]) := by kernel_rfl
theorem slot138 : X.slot 138 = fun t => posT [] t 0 := rfl
theorem nslot138 : X.nslots 138 = 0 := rfl
theorem pin138 : X.pin 138 = none := rfl
theorem plan138_1 : X.plan 138 1 = [(0, [], []), (1, [], []), (2, [], []), (3, [], []), (4, [], []), (5, [], []), (6, [], []), (7, [], []), (8, [], []), (9, [], []), (10, [], [])] := by kernel_rfl
end Go.Ev.Q
namespace Go.Ev.Q
theorem ty3 : X.ty 3 = ⟨(.int .i64), 1, 8, [(.int .i64 0)], true⟩ := by kernel_rfl
theorem ty4 : X.ty 4 = ⟨.bool, 1, 1, [(.bool false)], true⟩ := by kernel_rfl
theorem ty5 : X.ty 5 = ⟨(.int .u8), 1, 1, [(.int .u8 0)], true⟩ := by kernel_rfl
theorem ty9 : X.ty 9 = ⟨.str, 1, 16, [(.str ⟨#[]⟩)], true⟩ := by kernel_rfl
theorem ty22 : X.ty 22 = ⟨(.slice 32), 1, 24, [(.sl .nil 0 0 0)], true⟩ := by kernel_rfl
theorem ty23 : X.ty 23 = ⟨(.struct [(0, 3), (1, 3)]), 2, 16, [(.int .i64 0), (.int .i64 0)], true⟩ := by kernel_rfl
theorem ty24 : X.ty 24 = ⟨(.struct [(0, 3), (1, 3)]), 2, 16, [(.int .i64 0), (.int .i64 0)], true⟩ := by kernel_rfl
theorem ty25 : X.ty 25 = ⟨(.struct [(0, 3), (1, 3)]), 2, 16, [(.int .i64 0), (.int .i64 0)], true⟩ := by kernel_rfl
theorem ty26 : X.ty 26 = ⟨(.struct [(0, 3), (1, 3)]), 2, 16, [(.int .i64 0), (.int .i64 0)], true⟩ := by kernel_rfl
theorem ty27 : X.ty 27 = ⟨(.slice 9), 1, 24, [(.sl .nil 0 0 0)], true⟩ := by kernel_rfl
theorem ty28 : X.ty 28 = ⟨(.struct [(0, 3), (1, 3), (2, 3), (3, 3), (4, 3), (5, 27)]), 6, 64, [(.int .i64 0), (.int .i64 0), (.int .i64 0), (.int .i64 0), (.int .i64 0), (.sl .nil 0 0 0)], true⟩ := by kernel_rfl
theorem ty29 : X.ty 29 = ⟨(.struct [(0, 3), (1, 3), (2, 3), (3, 3), (4, 3), (5, 27)]), 6, 64, [(.int .i64 0), (.int .i64 0), (.int .i64 0), (.int .i64 0), (.int .i64 0), (.sl .nil 0 0 0)], true⟩ := by kernel_rfl
theorem ty30 : X.ty 30 = ⟨(.slice 24), 1, 24, [(.sl .nil 0 0 0)], true⟩ := by kernel_rfl
theorem ty31 : X.ty 31 = ⟨(.struct [(0, 24), (2, 26), (4, 26), (6, 3), (7, 4), (8, 29), (14, 3), (15, 30)]), 16, 160, [(.int .i64 0), (.int .i64 0), (.int .i64 0), (.int .i64 0), (.int .i64 0), (.int .i64 0), (.int .i64 0), (.bool false), (.int .i64 0), (.int .i64 0), (.int .i64 0), (.int .i64 0), (.int .i64 0), (.sl .nil 0 0 0), (.int .i64 0), (.sl .nil 0 0 0)], true⟩ := by kernel_rfl
theorem ty32 : X.ty 32 = ⟨(.struct [(0, 24), (2, 26), (4, 26), (6, 3), (7, 4), (8, 29), (14, 3), (15, 30)]), 16, 160, [(.int .i64 0), (.int .i64 0), (.int .i64 0), (.int .i64 0), (.int .i64 0), (.int .i64 0), (.int .i64 0), (.bool false), (.int .i64 0), (.int .i64 0), (.int .i64 0), (.int .i64 0), (.int .i64 0), (.sl .nil 0 0 0), (.int .i64 0), (.sl .nil 0 0 0)], true⟩ := by kernel_rfl
theorem ty33 : X.ty 33 = ⟨(.slice 191), 1, 24, [(.sl .nil 0 0 0)], true⟩ := by kernel_rfl
theorem ty34 : X.ty 34 = ⟨(.struct [(0, 3), (1, 3), (2, 3), (3, 3), (4, 32), (20, 4), (21, 3), (22, 3), (23, 3), (24, 3), (25, 3), (26, 33), (27, 9)]), 28, 280, [(.int .i64 0), (.int .i64 0), (.int .i64 0), (.int .i64 0), (.int .i64 0), (.int .i64 0), (.int .i64 0), (.int .i64 0), (.int .i64 0), (.int .i64 0), (.int .i64 0), (.bool false), (.int .i64 0), (.int .i64 0), (.int .i64 0), (.int .i64 0), (.int .i64 0), (.sl .nil 0 0 0), (.int .i64 0), (.sl .nil 0 0 0), (.bool false), (.int .i64 0), (.int .i64 0), (.int .i64 0), (.int .i64 0), (.int .i64 0), (.sl .nil 0 0 0), (.str ⟨#[]⟩)], true⟩ := by kernel_rfl
theorem ty35 : X.ty 35 = ⟨(.struct [(0, 3), (1, 3), (2, 3), (3, 3), (4, 32), (20, 4), (21, 3), (22, 3), (23, 3), (24, 3), (25, 3), (26, 33), (27, 9)]), 28, 280, [(.int .i64 0), (.int .i64 0), (.int .i64 0), (.int .i64 0), (.int .i64 0), (.int .i64 0), (.int .i64 0), (.int .i64 0), (.int .i64 0), (.int .i64 0), (.int .i64 0), (.bool false), (.int .i64 0), (.int .i64 0), (.int .i64 0), (.int .i64 0), (.int .i64 0), (.sl .nil 0 0 0), (.int .i64 0), (.sl .nil 0 0 0), (.bool false), (.int .i64 0), (.int .i64 0), (.int .i64 0), (.int .i64 0), (.int .i64 0), (.sl .nil 0 0 0), (.str ⟨#[]⟩)], true⟩ := by kernel_rfl
theorem ty39 : X.ty 39 = ⟨(.ptr 96), 1, 8, [.nilp], true⟩ := by kernel_rfl
theorem ty40 : X.ty 40 = ⟨(.int .i64), 1, 8, [(.int .i64 0)], true⟩ := by kernel_rfl
theorem ty43 : X.ty 43 = ⟨(.slice 3), 1, 24, [(.sl .nil 0 0 0)], true⟩ := by kernel_rfl
theorem ty44 : X.ty 44 = ⟨(.slice 35), 1, 24, [(.sl .nil 0 0 0)], true⟩ := by kernel_rfl
theorem ty45 : X.ty 45 = ⟨(.struct [(0, 22), (1, 44)]), 2, 48, [(.sl .nil 0 0 0), (.sl .nil 0 0 0)], true⟩ := by kernel_rfl
theorem ty46 : X.ty 46 = ⟨(.struct [(0, 22), (1, 44)]), 2, 48, [(.sl .nil 0 0 0), (.sl .nil 0 0 0)], true⟩ := by kernel_rfl
theorem ty82 : X.ty 82 = ⟨(.int .u64), 1, 8, [(.int .u64 0)], true⟩ := by kernel_rfl
theorem ty91 : X.ty 91 = ⟨(.ptr 125), 1, 8, [.nilp], true⟩ := by kernel_rfl
theorem ty93 : X.ty 93 = ⟨(.map 24 109), 1, 8, [.nilm], true⟩ := by kernel_rfl
theorem ty94 : X.ty 94 = ⟨(.map 24 3), 1, 8, [.nilm], true⟩ := by kernel_rfl
theorem ty95 : X.ty 95 = ⟨(.struct [(0, 3), (1, 3), (2, 43), (3, 91), (4, 93), (5, 94), (6, 94), (7, 3), (8, 46)]), 10, 128, [(.int .i64 0), (.int .i64 0), (.sl .nil 0 0 0), .nilp, .nilm, .nilm, .nilm, (.int .i64 0), (.sl .nil 0 0 0), (.sl .nil 0 0 0)], true⟩ := by kernel_rfl
theorem ty96 : X.ty 96 = ⟨(.struct [(0, 3), (1, 3), (2, 43), (3, 91), (4, 93), (5, 94), (6, 94), (7, 3), (8, 46)]), 10, 128, [(.int .i64 0), (.int .i64 0), (.sl .nil 0 0 0), .nilp, .nilm, .nilm, .nilm, (.int .i64 0), (.sl .nil 0 0 0), (.sl .nil 0 0 0)], true⟩ := by kernel_rfl
theorem ty109 : X.ty 109 = ⟨(.ptr 113), 1, 8, [.nilp], true⟩ := by kernel_rfl
theorem ty110 : X.ty 110 = ⟨(.arr 7 4), 7, 7, [(.bool false), (.bool false), (.bool false), (.bool false), (.bool false), (.bool false), (.bool false)], true⟩ := by kernel_rfl
theorem ty111 : X.ty 111 = ⟨(.slice 133), 1, 24, [(.sl .nil 0 0 0)], true⟩ := by kernel_rfl
theorem ty112 : X.ty 112 = ⟨(.struct [(0, 3), (1, 26), (3, 32), (19, 3), (20, 30), (21, 4), (22, 110), (29, 111), (30, 3)]), 31, 256, [(.int .i64 0), (.int .i64 0), (.int .i64 0), (.int .i64 0), (.int .i64 0), (.int .i64 0), (.int .i64 0), (.int .i64 0), (.int .i64 0), (.int .i64 0), (.bool false), (.int .i64 0), (.int .i64 0), (.int .i64 0), (.int .i64 0), (.int .i64 0), (.sl .nil 0 0 0), (.int .i64 0), (.sl .nil 0 0 0), (.int .i64 0), (.sl .nil 0 0 0), (.bool false), (.bool false), (.bool false), (.bool false), (.bool false), (.bool false), (.bool false), (.bool false), (.sl .nil 0 0 0), (.int .i64 0)], true⟩ := by kernel_rfl
theorem ty113 : X.ty 113 = ⟨(.struct [(0, 3), (1, 26), (3, 32), (19, 3), (20, 30), (21, 4), (22, 110), (29, 111), (30, 3)]), 31, 256, [(.int .i64 0), (.int .i64 0), (.int .i64 0), (.int .i64 0), (.int .i64 0), (.int .i64 0), (.int .i64 0), (.int .i64 0), (.int .i64 0), (.int .i64 0), (.bool false), (.int .i64 0), (.int .i64 0), (.int .i64 0), (.int .i64 0), (.int .i64 0), (.sl .nil 0 0 0), (.int .i64 0), (.sl .nil 0 0 0), (.int .i64 0), (.sl .nil 0 0 0), (.bool false), (.bool false), (.bool false), (.bool false), (.bool false), (.bool false), (.bool false), (.bool false), (.sl .nil 0 0 0), (.int .i64 0)], true⟩ := by kernel_rfl
theorem ty118 : X.ty 118 = ⟨.func, 1, 8, [.nilFn], true⟩ := by kernel_rfl
theorem ty123 : X.ty 123 = ⟨(.map 24 32), 1, 8, [.nilm], true⟩ := by kernel_rfl
theorem ty124 : X.ty 124 = ⟨(.struct [(0, 123)]), 1, 8, [.nilm], true⟩ := by kernel_rfl
theorem ty125 : X.ty 125 = ⟨(.struct [(0, 123)]), 1, 8, [.nilm], true⟩ := by kernel_rfl
theorem ty132 : X.ty 132 = ⟨(.struct [(0, 3), (1, 32)]), 17, 168, [(.int .i64 0), (.int .i64 0), (.int .i64 0), (.int .i64 0), (.int .i64 0), (.int .i64 0), (.int .i64 0), (.int .i64 0), (.bool false), (.int .i64 0), (.int .i64 0), (.int .i64 0), (.int .i64 0), (.int .i64 0), (.sl .nil 0 0 0), (.int .i64 0), (.sl .nil 0 0 0)], true⟩ := by kernel_rfl
theorem ty133 : X.ty 133 = ⟨(.struct [(0, 3), (1, 32)]), 17, 168, [(.int .i64 0), (.int .i64 0), (.int .i64 0), (.int .i64 0), (.int .i64 0), (.int .i64 0), (.int .i64 0), (.int .i64 0), (.bool false), (.int .i64 0), (.int .i64 0), (.int .i64 0), (.int .i64 0), (.int .i64 0), (.sl .nil 0 0 0), (.int .i64 0), (.sl .nil 0 0 0)], true⟩ := by kernel_rfl
theorem ty138 : X.ty 138 = ⟨(.slice 30), 1, 24, [(.sl .nil 0 0 0)], true⟩ := by kernel_rfl
theorem ty141 : X.ty 141 = ⟨.func, 1, 8, [.nilFn], true⟩ := by kernel_rfl
theorem ty155 : X.ty 155 = ⟨(.int .i64), 1, 8, [(.int .i64 0)], true⟩ := by kernel_rfl
theorem ty163 : X.ty 163 = ⟨(.int .u32), 1, 4, [(.int .u32 0)], true⟩ := by kernel_rfl
theorem ty165 : X.ty 165 = ⟨(.int .u64), 1, 8, [(.int .u64 0)], true⟩ := by kernel_rfl
theorem ty167 : X.ty 167 = ⟨(.int .u64), 1, 8, [(.int .u64 0)], true⟩ := by kernel_rfl
theorem ty171 : X.ty 171 = ⟨(.ptr 3), 1, 8, [.nilp], true⟩ := by kernel_rfl
theorem ty190 : X.ty 190 = ⟨(.struct [(0, 3), (1, 3), (2, 9)]), 3, 32, [(.int .i64 0), (.int .i64 0), (.str ⟨#[]⟩)], true⟩ := by kernel_rfl
theorem ty191 : X.ty 191 = ⟨(.struct [(0, 3), (1, 3), (2, 9)]), 3, 32, [(.int .i64 0), (.int .i64 0), (.str ⟨#[]⟩)], true⟩ := by kernel_rfl
end Go.Ev.Q
namespace Go.Ev
theorem Za : (type_of% @wrap_i64) /\ (type_of% @grd_tr) /\ (type_of% @and_true) /\ (type_of% @true_and) /\ (type_of% @Int.le_refl) /\ (type_of% @evC_seq) /\ (type_of% @evC_region) /\ (type_of% @evC_plan) /\ (type_of% @evC_block) /\ (type_of% @evC_scope) /\ (type_of% @evC_cond) /\ (type_of% @evC_exit) /\ (type_of% @evC_ret) /\ (type_of% @evC_skip) /\ (type_of% @evC_label) /\ (type_of% @evC_loop) /\ (type_of% @loopK_eq) /\ (type_of% @exOps_nil) /\ (type_of% @exOps_cons) /\ (type_of% @Go.Ev.wantedT.eq_1) := ⟨@wrap_i64, @grd_tr, @and_true, @true_and, @Int.le_refl, @evC_seq, @evC_region, @evC_plan, @evC_block, @evC_scope, @evC_cond, @evC_exit, @evC_ret, @evC_skip, @evC_label, @evC_loop, @loopK_eq, @exOps_nil, @exOps_cons, @Go.Ev.wantedT.eq_1⟩
theorem Zb : (type_of% @Go.Ev.wantedT.eq_2) /\ (type_of% @bnd_s) /\ (type_of% @stepK_t) /\ (type_of% @stepK_f) /\ (type_of% @putK_eq) /\ (type_of% @seqK_n) /\ (type_of% @seqK_e) /\ (type_of% @seqK_r) /\ (type_of% @blockK_n) /\ (type_of% @blockK_e) /\ (type_of% @blockK_r) /\ (type_of% @brK_t) /\ (type_of% @brK_f) /\ (type_of% @bnd_bnd) /\ (type_of% @thenK_eq) /\ (type_of% @ok_some) /\ (type_of% @stopK_eq) /\ (type_of% @beq_f) /\ (type_of% @beq_t) /\ (type_of% @Bool.not_not) := ⟨@Go.Ev.wantedT.eq_2, @bnd_s, @stepK_t, @stepK_f, @putK_eq, @seqK_n, @seqK_e, @seqK_r, @blockK_n, @blockK_e, @blockK_r, @brK_t, @brK_f, @bnd_bnd, @thenK_eq, @ok_some, @stopK_eq, @beq_f, @beq_t, @Bool.not_not⟩
theorem Zc : (type_of% @cond_true.{1}) /\ (type_of% @cond_false.{1}) /\ (type_of% @resK_n) /\ (type_of% @resK_r) /\ (type_of% @exOp_move) /\ (type_of% @exOp_assign) /\ (type_of% @exOp_pick) /\ (type_of% @exOp_alloc) /\ (type_of% @exOp_box) /\ (type_of% @exOp_build) /\ (type_of% @exOp_buildSlice) /\ (type_of% @exOp_load) /\ (type_of% @exOp_store) /\ (type_of% @exOp_nilCheck) /\ (type_of% @exOp_binOp) /\ (type_of% @exOp_unOp) /\ (type_of% @exOp_convert) /\ (type_of% @exOp_makeFunc) /\ (type_of% @exOp_makeSlice) /\ (type_of% @exOp_slice) := ⟨@cond_true.{1}, @cond_false.{1}, @resK_n, @resK_r, @exOp_move, @exOp_assign, @exOp_pick, @exOp_alloc, @exOp_box, @exOp_build, @exOp_buildSlice, @exOp_load, @exOp_store, @exOp_nilCheck, @exOp_binOp, @exOp_unOp, @exOp_convert, @exOp_makeFunc, @exOp_makeSlice, @exOp_slice⟩
theorem Zd : (type_of% @exOp_fieldAddr) /\ (type_of% @exOp_field) /\ (type_of% @exOp_indexAddr) /\ (type_of% @exOp_index) /\ (type_of% @exOp_extract) /\ (type_of% @exOp_builtin) /\ (type_of% @exOp_call) /\ (type_of% @callK_eq) /\ (type_of% @Go.Ev.opd.eq_1) /\ (type_of% @Go.Ev.opd.eq_2) /\ (type_of% @Go.Ev.opd.eq_3) /\ (type_of% @Go.Ev.opd.eq_4) /\ (type_of% @Go.Ev.getT.eq_1) /\ (type_of% @Go.Ev.constT.eq_1) /\ (type_of% @Go.Ev.newVar.eq_1) /\ (type_of% @Go.Ev.newVar.eq_2) /\ (type_of% @Go.Ev.St.put.eq_1) /\ (type_of% @Go.Ev.setT.eq_1) /\ (type_of% @Go.Ev.setT.eq_2) /\ (type_of% @posT.eq_1) := ⟨@exOp_fieldAddr, @exOp_field, @exOp_indexAddr, @exOp_index, @exOp_extract, @exOp_builtin, @exOp_call, @callK_eq, @Go.Ev.opd.eq_1, @Go.Ev.opd.eq_2, @Go.Ev.opd.eq_3, @Go.Ev.opd.eq_4, @Go.Ev.getT.eq_1, @Go.Ev.constT.eq_1, @Go.Ev.newVar.eq_1, @Go.Ev.newVar.eq_2, @Go.Ev.St.put.eq_1, @Go.Ev.setT.eq_1, @Go.Ev.setT.eq_2, @posT.eq_1⟩
theorem Ze : (type_of% @posT.eq_2) /\ (type_of% @Option.bind_some.{0,0}) /\ (type_of% @List.getD_cons_zero.{0}) /\ (type_of% @List.getD_cons_succ.{0}) /\ (type_of% @List.set_cons_zero.{0}) /\ (type_of% @List.set_cons_succ.{0}) /\ (type_of% @List.getElem?_cons_zero.{0}) /\ (type_of% @List.getElem?_cons_succ.{0}) /\ (type_of% @List.getElem?_nil.{0}) /\ (type_of% @decide_true) /\ (type_of% @decide_false) /\ (type_of% @Go.Ev.fieldAddrV.eq_1) /\ (type_of% @Go.Ev.fieldOff.eq_1) /\ (type_of% @Go.Ev.lcells.eq_1) /\ (type_of% @Go.Ev.rd.eq_1) /\ (type_of% @Go.Ev.TI.kind.eq_1) /\ (type_of% @grd_t) /\ (type_of% @and_self) /\ (type_of% @cnd_t) /\ (type_of% @cnd_f) := ⟨@posT.eq_2, @Option.bind_some.{0,0}, @List.getD_cons_zero.{0}, @List.getD_cons_succ.{0}, @List.set_cons_zero.{0}, @List.set_cons_succ.{0}, @List.getElem?_cons_zero.{0}, @List.getElem?_cons_succ.{0}, @List.getElem?_nil.{0}, @decide_true, @decide_false, @Go.Ev.fieldAddrV.eq_1, @Go.Ev.fieldOff.eq_1, @Go.Ev.lcells.eq_1, @Go.Ev.rd.eq_1, @Go.Ev.TI.kind.eq_1, @grd_t, @and_self, @cnd_t, @cnd_f⟩
theorem Zf : (type_of% @Bool.not_true) /\ (type_of% @Bool.not_false) /\ (type_of% @Bool.true_beq) /\ (type_of% @Bool.false_beq) /\ (type_of% @beq_self_eq_true.{0}) /\ (type_of% @exPlan_nil) /\ (type_of% @exPlan_cons) /\ (type_of% @entryK_eq) /\ (type_of% @leadK_t) /\ (type_of% @leadK_f) /\ (type_of% @lookK_nil) /\ (type_of% @lookK_cons) /\ (type_of% @Go.Ev.leadsT.eq_1) /\ (type_of% @Go.Ev.leadsT.eq_2) /\ (type_of% @Go.Ev.again.eq_1) /\ (type_of% @Bool.and_true) /\ (type_of% @Bool.true_and) /\ (type_of% @Go.Op.operands.eq_1) /\ (type_of% @Go.Op.operands.eq_2) /\ (type_of% @Go.Op.operands.eq_3) := ⟨@Bool.not_true, @Bool.not_false, @Bool.true_beq, @Bool.false_beq, @beq_self_eq_true.{0}, @exPlan_nil, @exPlan_cons, @entryK_eq, @leadK_t, @leadK_f, @lookK_nil, @lookK_cons, @Go.Ev.leadsT.eq_1, @Go.Ev.leadsT.eq_2, @Go.Ev.again.eq_1, @Bool.and_true, @Bool.true_and, @Go.Op.operands.eq_1, @Go.Op.operands.eq_2, @Go.Op.operands.eq_3⟩
theorem Zg : (type_of% @Go.Op.operands.eq_4) /\ (type_of% @Go.Op.operands.eq_5) /\ (type_of% @Go.Op.operands.eq_6) /\ (type_of% @Go.Op.operands.eq_7) /\ (type_of% @Go.Op.operands.eq_8) /\ (type_of% @Go.Op.operands.eq_9) /\ (type_of% @Go.Op.operands.eq_10) /\ (type_of% @Go.Op.operands.eq_11) /\ (type_of% @Go.Op.operands.eq_12) /\ (type_of% @Go.Op.operands.eq_13) /\ (type_of% @Go.Op.operands.eq_14) /\ (type_of% @Go.Op.operands.eq_15) /\ (type_of% @Go.Op.operands.eq_16) /\ (type_of% @Go.Op.operands.eq_17) /\ (type_of% @Go.Op.operands.eq_18) /\ (type_of% @Go.Op.operands.eq_19) /\ (type_of% @Go.Op.operands.eq_20) /\ (type_of% @Go.Op.operands.eq_21) /\ (type_of% @Go.Op.operands.eq_22) /\ (type_of% @Go.Op.operands.eq_23) := ⟨@Go.Op.operands.eq_4, @Go.Op.operands.eq_5, @Go.Op.operands.eq_6, @Go.Op.operands.eq_7, @Go.Op.operands.eq_8, @Go.Op.operands.eq_9, @Go.Op.operands.eq_10, @Go.Op.operands.eq_11, @Go.Op.operands.eq_12, @Go.Op.operands.eq_13, @Go.Op.operands.eq_14, @Go.Op.operands.eq_15, @Go.Op.operands.eq_16, @Go.Op.operands.eq_17, @Go.Op.operands.eq_18, @Go.Op.operands.eq_19, @Go.Op.operands.eq_20, @Go.Op.operands.eq_21, @Go.Op.operands.eq_22, @Go.Op.operands.eq_23⟩
theorem Zh : (type_of% @Go.Op.operands.eq_24) /\ (type_of% @Go.Op.operands.eq_25) /\ (type_of% @Go.Op.operands.eq_26) /\ (type_of% @Go.Op.operands.eq_27) /\ (type_of% @Go.Op.operands.eq_28) /\ (type_of% @Go.Op.operands.eq_29) /\ (type_of% @Go.Op.operands.eq_30) /\ (type_of% @Go.Op.operands.eq_31) /\ (type_of% @Go.Op.operands.eq_32) /\ (type_of% @Go.Op.operands.eq_33) /\ (type_of% @Go.Op.operands.eq_34) /\ (type_of% @Go.Op.operands.eq_35) /\ (type_of% @Go.Op.operands.eq_36) /\ (type_of% @Go.Op.operands.eq_37) /\ (type_of% @Go.Op.operands.eq_38) /\ (type_of% @Go.Op.operands.eq_39) /\ (type_of% @Go.Op.operands.eq_40) /\ (type_of% @Go.Op.operands.eq_41) /\ (type_of% @Go.Op.operands.eq_42) /\ (type_of% @Go.Op.operands.eq_43) := ⟨@Go.Op.operands.eq_24, @Go.Op.operands.eq_25, @Go.Op.operands.eq_26, @Go.Op.operands.eq_27, @Go.Op.operands.eq_28, @Go.Op.operands.eq_29, @Go.Op.operands.eq_30, @Go.Op.operands.eq_31, @Go.Op.operands.eq_32, @Go.Op.operands.eq_33, @Go.Op.operands.eq_34, @Go.Op.operands.eq_35, @Go.Op.operands.eq_36, @Go.Op.operands.eq_37, @Go.Op.operands.eq_38, @Go.Op.operands.eq_39, @Go.Op.operands.eq_40, @Go.Op.operands.eq_41, @Go.Op.operands.eq_42, @Go.Op.operands.eq_43⟩
theorem Zi : (type_of% @callops_v) /\ (type_of% @callops_b) /\ (type_of% @List.elem_cons.{0}) /\ (type_of% @List.elem_nil.{0}) /\ (type_of% @List.toList_toArray.{0}) /\ (type_of% @Go.Ev.buildV.eq_1) /\ (type_of% @Go.Ev.fillV.eq_1) /\ (type_of% @Go.Ev.fillV.eq_2) /\ (type_of% @Go.Ev.splice.eq_1) /\ (type_of% @List.zip.eq_1.{0,0}) /\ (type_of% @List.map_cons.{0,0}) /\ (type_of% @List.map_nil.{0,0}) /\ (type_of% @List.all_cons.{0}) /\ (type_of% @List.all_nil.{0}) /\ (type_of% @List.length_cons.{0}) /\ (type_of% @List.length_nil.{0}) /\ (type_of% @List.take.eq_1.{0}) /\ (type_of% @List.take.eq_2.{0}) /\ (type_of% @List.take.eq_3.{0}) /\ (type_of% @List.drop.eq_1.{0}) := ⟨@callops_v, @callops_b, @List.elem_cons.{0}, @List.elem_nil.{0}, @List.toList_toArray.{0}, @Go.Ev.buildV.eq_1, @Go.Ev.fillV.eq_1, @Go.Ev.fillV.eq_2, @Go.Ev.splice.eq_1, @List.zip.eq_1.{0,0}, @List.map_cons.{0,0}, @List.map_nil.{0,0}, @List.all_cons.{0}, @List.all_nil.{0}, @List.length_cons.{0}, @List.length_nil.{0}, @List.take.eq_1.{0}, @List.take.eq_2.{0}, @List.take.eq_3.{0}, @List.drop.eq_1.{0}⟩
theorem Zj : (type_of% @List.drop.eq_2.{0}) /\ (type_of% @List.drop.eq_3.{0}) /\ (type_of% @List.cons_append.{0}) /\ (type_of% @List.nil_append.{0}) /\ (type_of% @Go.Ev.results.eq_1) /\ (type_of% @Go.Ev.results.eq_2) /\ (type_of% @Go.Ev.results.eq_3) /\ (type_of% @List.set.eq_1.{0}) /\ (type_of% @List.set.eq_2.{0}) /\ (type_of% @List.set.eq_3.{0}) /\ (type_of% @Nat.mul_one) /\ (type_of% @Nat.zero_add) /\ (type_of% @Nat.add_zero) /\ (type_of% @Nat.le_refl) /\ (type_of% @List.append_nil.{0}) /\ (type_of% @veq_eq) /\ (type_of% @veqM_int) /\ (type_of% @veqM_str) /\ (type_of% @veqM_bool) /\ (type_of% @veqM_p1) := ⟨@List.drop.eq_2.{0}, @List.drop.eq_3.{0}, @List.cons_append.{0}, @List.nil_append.{0}, @Go.Ev.results.eq_1, @Go.Ev.results.eq_2, @Go.Ev.results.eq_3, @List.set.eq_1.{0}, @List.set.eq_2.{0}, @List.set.eq_3.{0}, @Nat.mul_one, @Nat.zero_add, @Nat.add_zero, @Nat.le_refl, @List.append_nil.{0}, @veq_eq, @veqM_int, @veqM_str, @veqM_bool, @veqM_p1⟩
theorem Zk : (type_of% @veqM_p2) /\ (type_of% @veqM_p3) /\ (type_of% @veqM_s1) /\ (type_of% @veqM_s2) /\ (type_of% @veqM_s3) /\ (type_of% @veqM_s4) /\ (type_of% @veqM_s5) /\ (type_of% @veqM_m1) /\ (type_of% @veqM_m2) /\ (type_of% @veqM_m3) /\ (type_of% @veqM_f1) /\ (type_of% @veqM_f2) /\ (type_of% @veqM_f3) /\ (type_of% @veqM_struct) /\ (type_of% @veqM_arr) /\ (type_of% @veqF_nil) /\ (type_of% @veqF_cons) /\ (type_of% @veqA_nil) /\ (type_of% @veqA_cons) /\ (type_of% @partK_eq) := ⟨@veqM_p2, @veqM_p3, @veqM_s1, @veqM_s2, @veqM_s3, @veqM_s4, @veqM_s5, @veqM_m1, @veqM_m2, @veqM_m3, @veqM_f1, @veqM_f2, @veqM_f3, @veqM_struct, @veqM_arr, @veqF_nil, @veqF_cons, @veqA_nil, @veqA_cons, @partK_eq⟩
theorem Zl : (type_of% @cnd_and) /\ (type_of% @Go.Ev.bound.eq_1) /\ (type_of% @Go.Ev.bound.eq_2) /\ (type_of% @Go.Ev.idx.eq_1) /\ (type_of% @Go.Ev.idxLe.eq_1) /\ (type_of% @Go.Ev.putBlk.eq_1) /\ (type_of% @Go.Ev.newBlk.eq_1) /\ (type_of% @Go.Ev.buildSliceV.eq_1) /\ (type_of% @Int.toNat_natCast) /\ (type_of% @Option.isSome_none.{0}) /\ (type_of% @Option.isNone_none.{0}) /\ (type_of% @Option.isSome_some.{0}) /\ (type_of% @Option.isNone_some.{0}) /\ (type_of% @Bool.or_false) /\ (type_of% @Bool.or_true) /\ (type_of% @Bool.true_or) /\ (type_of% @Bool.false_or) /\ (type_of% @Bool.and_false) /\ (type_of% @Bool.false_and) /\ (type_of% @unrK_n) := ⟨@cnd_and, @Go.Ev.bound.eq_1, @Go.Ev.bound.eq_2, @Go.Ev.idx.eq_1, @Go.Ev.idxLe.eq_1, @Go.Ev.putBlk.eq_1, @Go.Ev.newBlk.eq_1, @Go.Ev.buildSliceV.eq_1, @Int.toNat_natCast, @Option.isSome_none.{0}, @Option.isNone_none.{0}, @Option.isSome_some.{0}, @Option.isNone_some.{0}, @Bool.or_false, @Bool.or_true, @Bool.true_or, @Bool.false_or, @Bool.and_false, @Bool.false_and, @unrK_n⟩
theorem Zm : (type_of% @unrK_e) /\ (type_of% @unrK_r) /\ (type_of% @hcells_app) /\ (type_of% @hcells_ge) /\ (type_of% @hcells_c0) /\ (type_of% @hcells_cs) /\ (type_of% @heap_set_ge) /\ (type_of% @heap_set_lt) /\ (type_of% @Nat.add_sub_cancel_left) /\ (type_of% @Nat.sub_self) /\ (type_of% @List.append_assoc.{0}) /\ (type_of% @hcells_set_ne) /\ (type_of% @hcells_set_eq) /\ (type_of% @evC_rf) /\ (type_of% @rfK_eq) /\ (type_of% @nat_cast_0) /\ (type_of% @nat_cast_1) /\ (type_of% @List.length_append.{0}) /\ (type_of% @List.length_set.{0}) /\ (type_of% @List.replicate_zero.{0}) := ⟨@unrK_e, @unrK_r, @hcells_app, @hcells_ge, @hcells_c0, @hcells_cs, @heap_set_ge, @heap_set_lt, @Nat.add_sub_cancel_left, @Nat.sub_self, @List.append_assoc.{0}, @hcells_set_ne, @hcells_set_eq, @evC_rf, @rfK_eq, @nat_cast_0, @nat_cast_1, @List.length_append.{0}, @List.length_set.{0}, @List.replicate_zero.{0}⟩
theorem Zn : (type_of% @List.flatten_nil.{0}) /\ (type_of% @itT) /\ (type_of% @itF) /\ (type_of% @reps_0) /\ (type_of% @reps_1) /\ (type_of% @arr_empty) /\ (type_of% @asgK_n) /\ (type_of% @asgM_s) /\ (type_of% @endRound_eq) /\ (type_of% @endM_n) /\ (type_of% @endM_r) /\ (type_of% @endM_e) /\ (type_of% @loopAt_set_ne) /\ (type_of% @loopAt_set_eq) /\ (type_of% @loopAt_app) /\ (type_of% @List.set_set.{0}) /\ (type_of% @or_true) /\ (type_of% @true_or) /\ (type_of% @or_false) /\ (type_of% @false_or) := ⟨@List.flatten_nil.{0}, @itT, @itF, @reps_0, @reps_1, @arr_empty, @asgK_n, @asgM_s, @endRound_eq, @endM_n, @endM_r, @endM_e, @loopAt_set_ne, @loopAt_set_eq, @loopAt_app, @List.set_set.{0}, @or_true, @true_or, @or_false, @false_or⟩
theorem Zo : (type_of% @loopAt_ge) /\ (type_of% @loopAt_c0) /\ (type_of% @loopAt_cs) /\ (type_of% @endRF_eq) /\ (type_of% @endFM_n) /\ (type_of% @endFM_r) /\ (type_of% @endFM_e) := ⟨@loopAt_ge, @loopAt_c0, @loopAt_cs, @endRF_eq, @endFM_n, @endFM_r, @endFM_e⟩
theorem ZGS : (type_of% @decide_eq_true_eq) /\ (type_of% @decide_eq_false_iff_not) /\ (type_of% @beq_f) /\ (type_of% @beq_t) /\ (type_of% @Bool.not_eq_true') /\ (type_of% @Bool.not_eq_false') /\ (type_of% @Bool.not_not) /\ (type_of% @Bool.false_eq_true) /\ (type_of% @Bool.true_eq_false) := ⟨@decide_eq_true_eq, @decide_eq_false_iff_not, @beq_f, @beq_t, @Bool.not_eq_true', @Bool.not_eq_false', @Bool.not_not, @Bool.false_eq_true, @Bool.true_eq_false⟩
theorem ZDI : (type_of% @List.length_append.{0}) /\ (type_of% @List.length_cons.{0}) /\ (type_of% @List.length_nil.{0}) /\ (type_of% @List.length_set.{0}) := ⟨@List.length_append.{0}, @List.length_cons.{0}, @List.length_nil.{0}, @List.length_set.{0}⟩
end Go.Ev
namespace Go.Ev.Q
theorem G122 : (type_of% @ty3) /\ (type_of% @ty23) /\ (type_of% @ty24) /\ (type_of% @ty30) /\ (type_of% @slot122) /\ (type_of% @plan122_4) /\ (type_of% @plan122_6) := ⟨@ty3, @ty23, @ty24, @ty30, @slot122, @plan122_4, @plan122_6⟩
theorem G133 : (type_of% @ty3) /\ (type_of% @ty4) /\ (type_of% @ty23) /\ (type_of% @ty24) /\ (type_of% @ty30) /\ (type_of% @slot133) /\ (type_of% @plan133_3) /\ (type_of% @plan133_5) /\ (type_of% @plan133_6) := ⟨@ty3, @ty4, @ty23, @ty24, @ty30, @slot133, @plan133_3, @plan133_5, @plan133_6⟩
theorem G123 : (type_of% @ty3) /\ (type_of% @ty23) /\ (type_of% @ty24) /\ (type_of% @ty30) /\ (type_of% @ty141) /\ (type_of% @slot123) /\ (type_of% @plan123_10) := ⟨@ty3, @ty23, @ty24, @ty30, @ty141, @slot123, @plan123_10⟩
theorem G128 : (type_of% @ty3) /\ (type_of% @ty4) /\ (type_of% @ty23) /\ (type_of% @ty24) /\ (type_of% @ty30) /\ (type_of% @slot128) /\ (type_of% @plan128_1) /\ (type_of% @plan128_3) /\ (type_of% @plan128_5) /\ (type_of% @plan128_8) := ⟨@ty3, @ty4, @ty23, @ty24, @ty30, @slot128, @plan128_1, @plan128_3, @plan128_5, @plan128_8⟩
theorem G129 : (type_of% @ty3) /\ (type_of% @ty4) /\ (type_of% @ty23) /\ (type_of% @ty24) /\ (type_of% @ty30) /\ (type_of% @slot129) /\ (type_of% @plan129_1) /\ (type_of% @plan129_3) /\ (type_of% @plan129_5) /\ (type_of% @plan129_8) /\ (type_of% @plan129_10) /\ (type_of% @plan129_13) /\ (type_of% @plan129_15) /\ (type_of% @plan129_18) /\ (type_of% @plan129_21) := ⟨@ty3, @ty4, @ty23, @ty24, @ty30, @slot129, @plan129_1, @plan129_3, @plan129_5, @plan129_8, @plan129_10, @plan129_13, @plan129_15, @plan129_18, @plan129_21⟩
theorem G138 : (type_of% @ty3) /\ (type_of% @ty23) /\ (type_of% @ty24) /\ (type_of% @ty30) /\ (type_of% @slot138) /\ (type_of% @plan138_1) := ⟨@ty3, @ty23, @ty24, @ty30, @slot138, @plan138_1⟩
theorem G137 : (type_of% @ty3) /\ (type_of% @ty23) /\ (type_of% @ty24) /\ (type_of% @ty30) /\ (type_of% @ty141) /\ (type_of% @ty171) /\ (type_of% @slot137) := ⟨@ty3, @ty23, @ty24, @ty30, @ty141, @ty171, @slot137⟩
theorem G136 : (type_of% @ty3) /\ (type_of% @ty23) /\ (type_of% @ty24) /\ (type_of% @ty30) /\ (type_of% @ty141) /\ (type_of% @ty171) /\ (type_of% @slot136) := ⟨@ty3, @ty23, @ty24, @ty30, @ty141, @ty171, @slot136⟩
theorem G125 : (type_of% @ty3) /\ (type_of% @ty23) /\ (type_of% @ty24) /\ (type_of% @ty30) /\ (type_of% @ty141) /\ (type_of% @ty171) /\ (type_of% @slot125) := ⟨@ty3, @ty23, @ty24, @ty30, @ty141, @ty171, @slot125⟩
theorem G126 : (type_of% @ty3) /\ (type_of% @ty23) /\ (type_of% @ty24) /\ (type_of% @ty30) /\ (type_of% @slot126) /\ (type_of% @plan126_3) := ⟨@ty3, @ty23, @ty24, @ty30, @slot126, @plan126_3⟩
theorem G127 : (type_of% @ty3) /\ (type_of% @ty4) /\ (type_of% @ty23) /\ (type_of% @ty24) /\ (type_of% @ty30) /\ (type_of% @slot127) /\ (type_of% @plan127_5) /\ (type_of% @plan127_11) /\ (type_of% @plan127_16) /\ (type_of% @plan127_17) /\ (type_of% @plan127_22) /\ (type_of% @plan127_23) := ⟨@ty3, @ty4, @ty23, @ty24, @ty30, @slot127, @plan127_5, @plan127_11, @plan127_16, @plan127_17, @plan127_22, @plan127_23⟩
theorem G131 : (type_of% @ty3) /\ (type_of% @ty5) /\ (type_of% @ty9) /\ (type_of% @ty165) /\ (type_of% @slot131) := ⟨@ty3, @ty5, @ty9, @ty165, @slot131⟩
theorem G135 : (type_of% @ty165) /\ (type_of% @ty167) /\ (type_of% @slot135) /\ (type_of% @plan135_1) /\ (type_of% @plan135_2) /\ (type_of% @plan135_3) := ⟨@ty165, @ty167, @slot135, @plan135_1, @plan135_2, @plan135_3⟩
theorem G117 : (type_of% @ty82) /\ (type_of% @ty163) /\ (type_of% @ty165) /\ (type_of% @slot117) := ⟨@ty82, @ty163, @ty165, @slot117⟩
theorem G134 : (type_of% @ty3) /\ (type_of% @ty82) /\ (type_of% @slot134) := ⟨@ty3, @ty82, @slot134⟩
theorem G124 : (type_of% @ty3) /\ (type_of% @ty23) /\ (type_of% @ty24) /\ (type_of% @ty30) /\ (type_of% @ty82) /\ (type_of% @ty165) /\ (type_of% @ty167) /\ (type_of% @slot124) /\ (type_of% @plan124_10) := ⟨@ty3, @ty23, @ty24, @ty30, @ty82, @ty165, @ty167, @slot124, @plan124_10⟩
theorem G116 : (type_of% @ty3) /\ (type_of% @ty4) /\ (type_of% @ty23) /\ (type_of% @ty24) /\ (type_of% @ty30) /\ (type_of% @ty141) /\ (type_of% @ty155) /\ (type_of% @slot116) /\ (type_of% @plan116_17) := ⟨@ty3, @ty4, @ty23, @ty24, @ty30, @ty141, @ty155, @slot116, @plan116_17⟩
theorem G98 : (type_of% @ty3) /\ (type_of% @ty23) /\ (type_of% @ty24) /\ (type_of% @slot98) := ⟨@ty3, @ty23, @ty24, @slot98⟩
theorem G96 : (type_of% @ty3) /\ (type_of% @ty4) /\ (type_of% @ty23) /\ (type_of% @ty24) /\ (type_of% @slot96) /\ (type_of% @plan96_1) := ⟨@ty3, @ty4, @ty23, @ty24, @slot96, @plan96_1⟩
theorem G115 : (type_of% @ty3) /\ (type_of% @ty23) /\ (type_of% @ty24) /\ (type_of% @ty30) /\ (type_of% @slot115) := ⟨@ty3, @ty23, @ty24, @ty30, @slot115⟩
theorem G94 : (type_of% @ty3) /\ (type_of% @ty23) /\ (type_of% @ty24) /\ (type_of% @ty30) /\ (type_of% @ty138) /\ (type_of% @slot94) := ⟨@ty3, @ty23, @ty24, @ty30, @ty138, @slot94⟩
theorem G95 : (type_of% @ty3) /\ (type_of% @ty23) /\ (type_of% @ty24) /\ (type_of% @ty30) /\ (type_of% @ty82) /\ (type_of% @ty141) /\ (type_of% @slot95) := ⟨@ty3, @ty23, @ty24, @ty30, @ty82, @ty141, @slot95⟩
theorem G99 : (type_of% @ty3) /\ (type_of% @ty23) /\ (type_of% @ty24) /\ (type_of% @ty30) /\ (type_of% @slot99) /\ (type_of% @plan99_6) /\ (type_of% @plan99_11) := ⟨@ty3, @ty23, @ty24, @ty30, @slot99, @plan99_6, @plan99_11⟩
theorem G62 : (type_of% @ty3) /\ (type_of% @ty23) /\ (type_of% @ty24) /\ (type_of% @ty30) /\ (type_of% @ty138) /\ (type_of% @ty141) /\ (type_of% @slot62) := ⟨@ty3, @ty23, @ty24, @ty30, @ty138, @ty141, @slot62⟩
theorem G91 : (type_of% @ty3) /\ (type_of% @ty4) /\ (type_of% @ty9) /\ (type_of% @ty23) /\ (type_of% @ty24) /\ (type_of% @ty25) /\ (type_of% @ty26) /\ (type_of% @ty27) /\ (type_of% @ty28) /\ (type_of% @ty29) /\ (type_of% @ty30) /\ (type_of% @ty31) /\ (type_of% @ty32) /\ (type_of% @ty91) /\ (type_of% @ty123) /\ (type_of% @ty124) /\ (type_of% @ty125) /\ (type_of% @ty138) /\ (type_of% @slot91) := ⟨@ty3, @ty4, @ty9, @ty23, @ty24, @ty25, @ty26, @ty27, @ty28, @ty29, @ty30, @ty31, @ty32, @ty91, @ty123, @ty124, @ty125, @ty138, @slot91⟩
theorem G105 : (type_of% @ty9) /\ (type_of% @ty27) /\ (type_of% @slot105) := ⟨@ty9, @ty27, @slot105⟩
theorem G106 : (type_of% @ty3) /\ (type_of% @ty23) /\ (type_of% @ty24) /\ (type_of% @ty30) /\ (type_of% @slot106) := ⟨@ty3, @ty23, @ty24, @ty30, @slot106⟩
theorem G71 : (type_of% @ty3) /\ (type_of% @ty4) /\ (type_of% @ty9) /\ (type_of% @ty23) /\ (type_of% @ty24) /\ (type_of% @ty25) /\ (type_of% @ty26) /\ (type_of% @ty27) /\ (type_of% @ty28) /\ (type_of% @ty29) /\ (type_of% @ty30) /\ (type_of% @ty31) /\ (type_of% @ty32) /\ (type_of% @slot71) := ⟨@ty3, @ty4, @ty9, @ty23, @ty24, @ty25, @ty26, @ty27, @ty28, @ty29, @ty30, @ty31, @ty32, @slot71⟩
theorem G41 : (type_of% @ty3) /\ (type_of% @ty4) /\ (type_of% @ty9) /\ (type_of% @ty23) /\ (type_of% @ty24) /\ (type_of% @ty25) /\ (type_of% @ty26) /\ (type_of% @ty27) /\ (type_of% @ty28) /\ (type_of% @ty29) /\ (type_of% @ty30) /\ (type_of% @ty31) /\ (type_of% @ty32) /\ (type_of% @ty123) /\ (type_of% @ty124) /\ (type_of% @ty125) /\ (type_of% @slot41) := ⟨@ty3, @ty4, @ty9, @ty23, @ty24, @ty25, @ty26, @ty27, @ty28, @ty29, @ty30, @ty31, @ty32, @ty123, @ty124, @ty125, @slot41⟩
theorem G104 : (type_of% @ty3) /\ (type_of% @ty4) /\ (type_of% @ty9) /\ (type_of% @ty23) /\ (type_of% @ty24) /\ (type_of% @ty25) /\ (type_of% @ty26) /\ (type_of% @ty27) /\ (type_of% @ty28) /\ (type_of% @ty29) /\ (type_of% @ty30) /\ (type_of% @ty31) /\ (type_of% @ty32) /\ (type_of% @ty91) /\ (type_of% @ty123) /\ (type_of% @ty124) /\ (type_of% @ty125) /\ (type_of% @slot104) /\ (type_of% @plan104_7) := ⟨@ty3, @ty4, @ty9, @ty23, @ty24, @ty25, @ty26, @ty27, @ty28, @ty29, @ty30, @ty31, @ty32, @ty91, @ty123, @ty124, @ty125, @slot104, @plan104_7⟩
end Go.Ev.Q
