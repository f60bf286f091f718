/-
Texts of this claim, one behind the other.
-/
import Derived.Test.YtennoblijpfacaaAb
import Derived.OpenShut
import Derived.ChangeOld
import Derived.ProofKit
import Derived.Carry
import Derived.ChangeCalls
import Derived.Test.YtennoblijpfacaaProg
import Derived.KernelRfl
import Derived.Sort.AssemblyPlain
set_option linter.unusedSimpArgs false
set_option linter.unusedVariables false
set_option maxRecDepth 100000
namespace Go.Ev
def Even {α : Type} (x : Nat -> Option α) (r : α) : Prop := ∃ n, ∀ m, n <= m -> x m = some r
theorem Even.const {α : Type} {x : Option α} {r : α} (h : x = some r) : Even (fun _ => x) r := ⟨0, fun _ _ => h⟩
theorem Even.bnd {α β : Type} {x : Nat -> Option α} {a : α} {k : Nat -> α -> Option β} {r : β} (h : Even x a) (hk : Even (fun m => k m a) r) : Even (fun m => Ev.bnd (x m) (k m)) r := by
  obtain ⟨n1, h1⟩ := h
  obtain ⟨n2, h2⟩ := hk
  refine ⟨max n1 n2, fun m hm => ?_⟩
  show Ev.bnd (x m) (k m) = some r
  rw [h1 m (by omega)]
  exact h2 m (by omega)
theorem Even.unique {α : Type} {x : Nat -> Option α} {r r' : α} (h : Even x r) (h' : Even x r') : r = r' := by
  obtain ⟨n1, h1⟩ := h
  obtain ⟨n2, h2⟩ := h'
  have e1 := h1 (max n1 n2) (by omega)
  have e2 := h2 (max n1 n2) (by omega)
  rw [e1] at e2; injection e2
theorem Even.of_eq {α : Type} {x y : Nat -> Option α} {r : α} (h : Even x r) (e : ∀ m, y m = x m) : Even y r := by
  obtain ⟨n, hn⟩ := h
  exact ⟨n, fun m hm => (e m).trans (hn m hm)⟩
theorem bnd_get {α β : Type} {x : Option α} {k : α -> Option β} {r : β} (h : bnd x k = some r) : ∃ a, x = some a /\ k a = some r := by
  cases x with
  | none => cases h
  | some a => exact ⟨a, rfl, h⟩
def LimC (Cm : Nat -> CallSem) (C : CallSem) : Prop := ∀ fv a h r, C fv a h = some r -> Even (fun m => Cm m fv a h) r
def LimL (Lm : Nat -> LoopSem) (L : LoopSem) : Prop := ∀ c s r, L c s = some r -> Even (fun m => Lm m c s) r
section
variable {X : Env} {Cm : Nat -> CallSem} {C : CallSem} {Lm : Nat -> LoopSem} {L : LoopSem} {f : FuncId}
theorem exOp_lim (hC : LimC Cm C) {o : Oper} {s s' : St} (h : exOp X C f o s = some s') : Even (fun m => exOp X (Cm m) f o s) s' := by
  unfold exOp at h ⊢
  split at h
  · rename_i g args ats ho
    split at h
    · rename_i fv hg
      obtain ⟨vs, hvs, h1⟩ := bnd_get h
      obtain ⟨p, hp, h2⟩ := bnd_get h1
      exact Even.bnd (.const hvs) (Even.bnd (hC _ _ _ _ hp) (.const h2))
    · cases h
  · rename_i hno
    exact .const h
theorem step_lim (hC : LimC Cm C) {o : Oper} {s s' : St} {b : Bool} {ls : Bool -> Bool} {y : Option St} (h : cnd b (cnd (ls b) (exOp X C f o s) none) y = some s') :
    Even (fun m => cnd b (cnd (ls b) (exOp X (Cm m) f o s) none) y) s' := by
  cases b with
  | false => exact .const h
  | true =>
    revert h
    cases ls true with
    | false => exact fun h => .const h
    | true => exact fun h => exOp_lim hC h
theorem exOps_lim (hC : LimC Cm C) {ops : List Oper} : ∀ {l : List Oper} {s s' : St}, exOps X C f ops l s = some s' -> Even (fun m => exOps X (Cm m) f ops l s) s'
  | [], s, s', h => .const h
  | o :: r, s, s', h => by
    simp only [exOps] at h ⊢
    obtain ⟨b, hb, h1⟩ := bnd_get h
    obtain ⟨s1, hs1, h2⟩ := bnd_get h1
    refine Even.bnd (.const hb) (Even.bnd ?_ (exOps_lim hC h2))
    cases b with
    | false => exact .const hs1
    | true => exact exOp_lim hC hs1
theorem exPlan_lim (hC : LimC Cm C) {ops : List Oper} : ∀ {l : List PE} {s s' : St}, exPlan X C f ops l s = some s' -> Even (fun m => exPlan X (Cm m) f ops l s) s'
  | [], s, s', h => .const h
  | p :: r, s, s', h => by
    simp only [exPlan] at h ⊢
    split at h
    · rename_i o ho
      obtain ⟨b, hb, h1⟩ := bnd_get h
      obtain ⟨s1, hs1, h2⟩ := bnd_get h1
      refine Even.bnd (.const hb) (Even.bnd (a := s1) ?_ ?_)
      · exact step_lim (ls := fun _ => leadsT s.e p.2.1 o.op.operands.toList) hC hs1
      · revert h2
        cases p.2.2.all (again X ops s1) with
        | false => intro h2; cases h2
        | true => exact fun h2 => exPlan_lim hC h2
    · cases h
theorem evC_lim (hC : LimC Cm C) (hL : LimL Lm L) : ∀ (c : Code) {R : Type} (s : St) (k : Ex -> St -> Option R) (km : Nat -> Ex -> St -> Option R) (r : R), evC X C L f c s k = some r ->
    (∀ x s', k x s' = some r -> Even (fun m => km m x s') r) -> Even (fun m => evC X (Cm m) (Lm m) f c s (km m)) r := by
  intro c
  induction c with
  | skip => intro R s k km r h hk; exact hk _ _ h
  | label l => intro R s k km r h hk; exact hk _ _ h
  | exit id => intro R s k km r h hk; exact hk _ _ h
  | ret => intro R s k km r h hk; exact hk _ _ h
  | goto l => intro R s k km r h hk; cases h
  | refuse w => intro R s k km r h hk; cases h
  | scope c ih =>
    intro R s k km r h hk
    simp only [evC] at h ⊢
    exact ih s k km r h hk
  | region id ops draw =>
    intro R s k km r h hk
    simp only [evC] at h ⊢
    cases draw with
    | true =>
      obtain ⟨s1, h1, h2⟩ := bnd_get (x := exPlan X C f ops.toList (X.plan f id) s) h
      exact Even.bnd (exPlan_lim hC h1) (hk _ _ h2)
    | false =>
      obtain ⟨s1, h1, h2⟩ := bnd_get (x := exOps X C f ops.toList ops.toList s) h
      exact Even.bnd (exOps_lim hC h1) (hk _ _ h2)
  | seq a b iha ihb =>
    intro R s k km r h hk
    simp only [evC] at h ⊢
    refine iha s _ _ r h fun x s' hx => ?_
    cases x with
    | normal => exact ihb s' k km r hx hk
    | exit id => exact hk _ _ hx
    | ret => exact hk _ _ hx
  | cond o a b iha ihb =>
    intro R s k km r h hk
    simp only [evC] at h ⊢
    split at h
    · rename_i t ho
      cases t with
      | true => exact iha s k km r h hk
      | false => exact ihb s k km r h hk
    · cases h
  | block id c ih =>
    intro R s k km r h hk
    simp only [evC] at h ⊢
    refine ih s _ _ r h fun x s' hx => ?_
    cases x with
    | normal => exact hk _ _ hx
    | exit id' =>
      have hx' : cnd (decide (id' = id)) (k .normal s') (k (.exit id') s') = some r := hx
      show Even (fun m => cnd (decide (id' = id)) (km m .normal s') (km m (.exit id') s')) r
      revert hx'
      cases decide (id' = id) with
      | true => exact fun hx => hk _ _ hx
      | false => exact fun hx => hk _ _ hx
    | ret => exact hk _ _ hx
  | loop c _ =>
    intro R s k km r h hk
    simp only [evC] at h ⊢
    obtain ⟨p, hp, h2⟩ := bnd_get h
    exact Even.bnd (hL _ _ _ hp) (hk _ _ h2)
  | rangeFunc g ps a b _ _ =>
    intro R s k km r h hk
    simp only [evC] at h ⊢
    split at h
    · rename_i gf cap hg
      obtain ⟨p, hp, h2⟩ := bnd_get h
      refine Even.bnd (hC _ _ _ _ hp) ?_
      unfold endRF at h2 ⊢
      split at h2
      · rename_i lr hlr
        unfold grd at h2 ⊢
        split at h2
        · rename_i hg
          simp only [if_pos hg]
          split at h2
          · exact hk _ _ h2
          · exact hk _ _ h2
          · exact hk _ _ h2
          · cases h2
        · cases h2
      · cases h2
    · cases h
theorem evBody_lim {Lf : Nat -> FuncId -> LoopSem} {L : FuncId -> LoopSem} (hC : LimC Cm C) (hL : ∀ f, LimL (fun m => Lf m f) (L f)) {args : List V} {h : Heap} {r : V × Heap}
    (hh : evBody X C L f args h = some r) : Even (fun m => evBody X (Cm m) (Lf m) f args h) r := by
  unfold evBody at hh ⊢
  split at hh
  · refine evC_lim hC (hL f) _ _ _ _ r hh fun x s' hx => ?_
    exact .const hx
  · cases hh
theorem evRound_lim {Lf : Nat -> FuncId -> LoopSem} {L : FuncId -> LoopSem} (hC : LimC Cm C) (hL : ∀ f, LimL (fun m => Lf m f) (L f)) {l : Nat} {args : List V} {h : Heap} {r : V × Heap}
    (hh : evRound X C L l args h = some r) : Even (fun m => evRound X (Cm m) (Lf m) l args h) r := by
  unfold evRound at hh ⊢
  split at hh
  · rename_i lr hlr
    unfold grd at hh ⊢
    split at hh
    · rename_i hg
      simp only [if_pos hg]
      refine evC_lim hC (hL lr.fn) _ _ _ _ r hh fun x s' hx => ?_
      cases x with
      | normal =>
        obtain ⟨s2, h2, h3⟩ := bnd_get hx
        refine Even.bnd (.const h2) ?_
        exact evC_lim hC (hL lr.fn) _ _ _ _ r h3 fun x s' hx => .const hx
      | exit id => cases hx
      | ret => cases hx
    · cases hh
  · cases hh
theorem loopBody_lim {Am : Nat -> LoopSem} {A : LoopSem} (hC : LimC Cm C) (hL : LimL Lm L) (hA : LimL Am A) {c : Code} {s : St} {r : Ex × St} (hh : loopBody X C L A f c s = some r) :
    Even (fun m => loopBody X (Cm m) (Lm m) (Am m) f c s) r := by
  unfold loopBody at hh ⊢
  refine evC_lim hC hL c s _ _ r hh fun x s' hx => ?_
  cases x with
  | normal => exact hA _ _ _ hx
  | exit id => exact .const hx
  | ret => exact .const hx
end
open Classical in
noncomputable def last {α : Type} (x : Nat -> Option α) : Option α := if h : ∃ r, Even x r then some h.choose else none
theorem last_some {α : Type} {x : Nat -> Option α} {r : α} : last x = some r ↔ Even x r := by
  unfold last
  split
  · rename_i h
    constructor
    · intro e; injection e with e; exact e ▸ h.choose_spec
    · intro e; rw [h.choose_spec.unique e]
  · rename_i h
    constructor
    · intro e; cases e
    · intro e; exact absurd ⟨r, e⟩ h
noncomputable def D (X : Env) : CallSem := fun fv a h => last fun m => callN X m fv a h
noncomputable def Lo (X : Env) (f : FuncId) : LoopSem := fun c s => last fun m => loopN X (D X) f m c s
theorem limD (X : Env) : LimC (callN X) (D X) := fun _ _ _ _ h => last_some.1 h
theorem loopN_lim {X : Env} {f : FuncId} : ∀ (n : Nat) (c : Code) (s : St) (r : Ex × St), loopN X (D X) f n c s = some r -> ∀ g : Nat -> Nat, (∀ b, ∃ N, ∀ m, N <= m -> b <= g m) ->
    Even (fun m => loopN X (callN X m) f (g m) c s) r
  | 0, c, s, r, h, g, hg => by cases h
  | n + 1, c, s, r, h, g, hg => by
    have hg' : ∀ b, ∃ N, ∀ m, N <= m -> b <= g m - 1 := fun b => let ⟨N, hN⟩ := hg (b + 1); ⟨N, fun m hm => by have := hN m hm; omega⟩
    have ih : LimL (fun m => loopN X (callN X m) f (g m - 1)) (loopN X (D X) f n) := fun c s r h => loopN_lim n c s r h (fun m => g m - 1) hg'
    obtain ⟨N, hN⟩ := loopBody_lim (limD X) ih ih h
    obtain ⟨N', hN'⟩ := hg 1
    refine ⟨max N N', fun m hm => ?_⟩
    have h1 := hN m (by omega)
    have h2 := hN' m (by omega)
    obtain ⟨q, hq⟩ : ∃ q, g m = q + 1 := ⟨g m - 1, by omega⟩
    simp only [hq,Nat.add_sub_cancel] at h1 ⊢
    exact h1
theorem limL (X : Env) (f : FuncId) : LimL (fun m => loopN X (callN X m) f m) (Lo X f) := fun c s r h => by
  obtain ⟨n, hn⟩ := last_some.1 h
  exact loopN_lim n c s r (hn n (Nat.le_refl n)) (fun m => m) fun b => ⟨b, fun m hm => hm⟩
theorem Even.succ {α : Type} {x : Nat -> Option α} {r : α} (h : Even (fun m => x (m + 1)) r) : Even x r := by
  obtain ⟨n, hn⟩ := h
  refine ⟨n + 1, fun m hm => ?_⟩
  obtain ⟨k, rfl⟩ : ∃ k, m = k + 1 := ⟨m - 1, by omega⟩
  exact hn k (by omega)
theorem D_fn {X : Env} {f : FuncId} (hp : X.pin f = none) {cap args : List V} {h : Heap} {r : V × Heap} (hh : evBody X (D X) (Lo X) f (args ++ cap) h = some r) : D X (.fn f cap) args h = some r := by
  refine last_some.2 (Even.succ (Even.of_eq (evBody_lim (Lf := fun m f => loopN X (callN X m) f m) (limD X) (limL X) hh) fun m => ?_))
  simp only [callN,callBody,hp]
theorem D_pin {X : Env} {f : FuncId} {b : Bool} (hp : X.pin f = some (.b b)) (h : Heap) : D X (.fn f []) [] h = some (.bool b, h) := by
  refine last_some.2 (Even.succ (Even.of_eq (.const rfl) fun m => ?_))
  simp only [callN,callBody,hp,pinRun]
theorem D_yld {X : Env} {l : Nat} {args : List V} {h : Heap} {r : V × Heap} (hh : evRound X (D X) (Lo X) l args h = some r) : D X (.yld l) args h = some r :=
  last_some.2 (Even.succ (evRound_lim (Lf := fun m f => loopN X (callN X m) f m) (limD X) (limL X) hh))
theorem Lo_of {X : Env} {f : FuncId} {c : Code} {s : St} {r : Ex × St} (hh : loopBody X (D X) (Lo X f) (Lo X f) f c s = some r) : Lo X f c s = some r :=
  last_some.2 (Even.succ (loopBody_lim (Cm := fun _ => D X) (Lm := fun m => loopN X (D X) f m) (Am := fun m => loopN X (D X) f m) (fun _ _ _ _ h => .const h) (fun _ _ _ h => last_some.1 h) (fun _ _ _ h => last_some.1 h) hh))
end Go.Ev
namespace Go.Ev
open Go.RowKit
def RoK (K : KM) : Prop := ∀ (b : Nat) (e : KB), K[b]? = some e -> ∃ g B S N, e = .c g B S N false
theorem RoK.free [Good] {K : KM} (h : RoK K) (o : Owner) (B : Nat) : ¬ OwnBy K [] o B := by
  intro ho
  cases o with
  | loc s => exact own_nil_loc ho
  | blk b =>
    rcases ho with ⟨g, S, N, k, h1, h2⟩ | h1 | ⟨l, t, h1⟩
    · obtain ⟨_, _, _, _, e⟩ := h b _ h1; cases e; cases h2
    · obtain ⟨_, _, _, _, e⟩ := h b _ h1; cases e
    · obtain ⟨_, _, _, _, e⟩ := h b _ h1; cases e
  | lloc b s =>
    obtain ⟨B', l, ver, h1, _⟩ := ho
    obtain ⟨_, _, _, _, e⟩ := h b _ h1; cases e
theorem Fit.callsN {P : Program} {X : Env} (h : Fit P X) {n : Nat} {f : FuncId} {xs : List V} {hp h' : Heap} {v : V} (hn : callN X n (.fn f []) xs hp = some (v, h')) {K : KM} {w : World}
    (hm : @Mem (goodOf X) K [] [] hp w) (hro : RoK K) {ys : List Value} (hy : VRs K xs ys) :
    Calls P f ys.toArray w fun e w' => (∃ y K', e = .returned y /\ VR K' v y) /\ Below w.heap.size w w' := by
  letI := goodOf X
  have h1 := h.spec n _ _ _ _ _ hn K w hm
  have h2 := h1.2 ys (by simpa using hy)
  refine ((callsIn_wide (n := 0)).1 h2).mono fun e w' he => ?_
  cases e with
  | returned y =>
    obtain ⟨K', hv, _, hst⟩ := he
    exact ⟨⟨y, K', rfl, hv⟩, hst.os, hst.tape, hst.output, hst.size, fun k hk => hst.same k hk fun o ho => hro.free o k ho⟩
  | panicked ch => exact he.elim
  | outgrown => exact he.elim
theorem Fit.calls {P : Program} {X : Env} (h : Fit P X) {f : FuncId} {xs : List V} {hp h' : Heap} {v : V} (hD : D X (.fn f []) xs hp = some (v, h')) {K : KM} {w : World}
    (hm : @Mem (goodOf X) K [] [] hp w) (hro : RoK K) {ys : List Value} (hy : VRs K xs ys) :
    Calls P f ys.toArray w fun e w' => (∃ y K', e = .returned y /\ VR K' v y) /\ Below w.heap.size w w' := by
  obtain ⟨n, hn⟩ := last_some.1 hD
  exact h.callsN (hn n (Nat.le_refl n)) hm hro hy
theorem Fit.law {P : Program} {X : Env} (h : Fit P X) {f : FuncId} {xs : List V} {hp h' : Heap} (hD : D X (.fn f []) xs hp = some (.bool true, h')) {K : KM} {w : World}
    (hm : @Mem (goodOf X) K [] [] hp w) (hro : RoK K) {ys : List Value} (hy : VRs K xs ys) :
    Calls P f ys.toArray w fun e w' => e = .returned (.bool true) /\ Below w.heap.size w w' := by
  refine (h.calls hD hm hro hy).mono fun e w' ⟨⟨y, K', he, hv⟩, hb⟩ => ⟨?_, hb⟩
  rw [he]
  simp only [VR] at hv
  rw [hv]
theorem Mem.read [Good] {K : KM} {hp : Heap} {w : World} (hm : Mem K [] [] hp w) (hro : RoK K) {B S : Nat} {c : List V} {c' : Array Value} {ty : TypeId} {fr : Nat × Nat}
    (hB : w.heap[B]? = some (.cells c' ty fr)) (hN : S + c.length <= c'.size) (hc : CR K c c' S) :
    Mem (K ++ [.c 0 B S c'.size false]) [] [] (hp ++ [.cells 0 false c]) w /\ RoK (K ++ [.c 0 B S c'.size false]) := by
  have hle := KM.le_append K (.c 0 B S c'.size false)
  have hro' : RoK (K ++ [.c 0 B S c'.size false]) := by
    intro b e he
    rcases getElem?_snoc he with h1 | ⟨_, h1⟩
    · exact hro b e h1
    · exact ⟨_, _, _, _, h1⟩
  refine ⟨⟨⟨rfl, fun s ver c h => by simp at h⟩, ⟨by simp [hm.hr.1], fun b x hx => ?_⟩, ⟨fun o o' B' h1 _ => absurd h1 (hro'.free o B'), fun o B' h1 => absurd h1 (hro'.free o B'), fun b g B' S' N' hb => ⟨?_, fun o => hro'.free o B'⟩⟩⟩, hro'⟩
  · rcases getElem?_snoc hx with h1 | ⟨h1, rfl⟩
    · obtain ⟨e, he, hb⟩ := hm.hr.2 b x h1
      refine ⟨e, ?_, hb.keep hle fun _ _ => rfl⟩
      rw [List.getElem?_append_left (List.getElem?_eq_some_iff.1 he).1]; exact he
    · refine ⟨.c 0 B S c'.size false, ?_, B, S, c'.size, rfl, c', ty, fr, hB, rfl, hN, hc.mono hle, fun h => by cases h⟩
      rw [h1, hm.hr.1, List.getElem?_append_right (Nat.le_refl _)]; simp
  · rcases getElem?_snoc hb with h1 | ⟨_, h1⟩
    · exact (hm.inv.ro b g B' S' N' h1).1
    · cases h1
      exact (Array.getElem?_eq_some_iff.1 hB).1
theorem mem_nil [Good] (w : World) : Mem [] [] [] [] w /\ RoK [] :=
  ⟨⟨⟨rfl, fun s ver c h => by simp at h⟩, ⟨rfl, fun b x h => by simp at h⟩, ⟨fun o o' B h1 _ => absurd h1 (RoK.free (fun b e h => by simp at h) o B), fun o B h1 => absurd h1 (RoK.free (fun b e h => by simp at h) o B), fun b g B S N h => by simp at h⟩⟩, fun b e h => by simp at h⟩
theorem Fit.closed {P : Program} {X : Env} (h : Fit P X) {n : Nat} {f : FuncId} {b : Bool}
    (hn : ((callN X n (.fn f []) [] []).map fun r => match r.1 with | .bool b => some b | _ => none) = some (some b)) (w : World) :
    Calls P f #[] w fun e w' => e = .returned (.bool b) /\ Below w.heap.size w w' := by
  letI := goodOf X
  cases hc : callN X n (.fn f []) [] [] with
  | none => rw [hc] at hn; cases hn
  | some r =>
    obtain ⟨v, h'⟩ := r
    rw [hc] at hn
    simp only [Option.map_some,Option.some.injEq] at hn
    obtain ⟨hm, hro⟩ := mem_nil w
    refine (h.callsN hc hm hro (ys := []) rfl).mono fun e w' ⟨⟨y, K', he, hv⟩, hb⟩ => ⟨?_, hb⟩
    rw [he]
    cases v <;> simp at hn
    subst hn
    simp only [VR] at hv
    rw [hv]
def Env.pins (X : Env) (p : FuncId -> Option Pin) : Env := { X with pin := p }
theorem codeChk_pins (X : Env) (p : FuncId -> Option Pin) (f : FuncId) : ∀ c : Code, codeChk (X.pins p) f c = codeChk X f c := by
  intro c
  induction c with
  | region id ops draw => rfl
  | seq a b iha ihb => simp only [codeChk,iha,ihb]
  | cond c a b iha ihb => simp only [codeChk,iha,ihb]
  | block id c ih => simp only [codeChk,ih]
  | scope c ih => simp only [codeChk,ih]
  | loop c ih => simp only [codeChk,ih]
  | rangeFunc g ps a b iha ihb => simp only [codeChk,iha,ihb]
  | _ => rfl
theorem bodyChk_pins (X : Env) (p : FuncId -> Option Pin) (P : Program) (f : FuncId) : bodyChk (X.pins p) P f = bodyChk X P f := by
  unfold bodyChk
  split
  · split
    · rw [codeChk_pins]
    · rfl
  · rfl
theorem planOk_pins (X : Env) (p : FuncId -> Option Pin) (f : FuncId) (ops : Array Oper) (B : Array Nat) (π : List PE) : PlanOk (X.pins p) f ops B π ↔ PlanOk X f ops B π :=
  ⟨fun h => ⟨h.len, h.nodup, h.lt, h.all, h.tab, h.pairs, h.lin, h.entry, h.still⟩, fun h => ⟨h.len, h.nodup, h.lt, h.all, h.tab, h.pairs, h.lin, h.entry, h.still⟩⟩
theorem dOk_pins (X : Env) (p : FuncId -> Option Pin) : DOk (X.pins p) = DOk X := by
  funext f id ops
  exact propext ⟨fun ⟨B, h⟩ => ⟨B, (planOk_pins X p f ops B _).1 h⟩, fun ⟨B, h⟩ => ⟨B, (planOk_pins X p f ops B _).2 h⟩⟩
theorem goodOf_pins (X : Env) (p : FuncId -> Option Pin) : goodOf (X.pins p) = goodOf X := by unfold goodOf; rw [dOk_pins]
theorem Fit.pinsFit {P : Program} {X : Env} (h : Fit P X) {p : FuncId -> Option Pin} (hp : ∀ f q, p f = some q -> @PinOk (goodOf X) P f q) : Fit P (X.pins p) :=
  ⟨h.ty, h.body, h.mixed, h.types, fun f hf => (bodyChk_pins X p P f).trans (h.bodies f hf), fun f q hq => by rw [goodOf_pins]; exact hp f q hq⟩
end Go.Ev
namespace Go.Ev
open Go.RowKit
def tiles (T : TypeId -> TI) : List (Nat × TypeId) -> Nat -> Nat -> Bool
  | [], o, n => decide (o = n)
  | p :: r, o, n => decide (p.1 = o) && tiles T r (o + (T p.2).size) n
def plainT (T : TypeId -> TI) : Nat -> TypeId -> Bool
  | 0, _ => false
  | d + 1, t => match (T t).desc with
    | .bool | .int _ | .str => true
    | .slice e => decide (0 < (T e).size) && plainT T d e
    | .struct fs => tiles T fs 0 (T t).size && fs.all fun p => plainT T d p.2
    | .arr n e => decide (n * (T e).size = (T t).size) && plainT T d e
    | _ => false
def Fits (T : TypeId -> TI) (h : Heap) : Nat -> TypeId -> List V -> Prop
  | 0, _, _ => False
  | d + 1, t, cs => match (T t).desc with
    | .bool => ∃ b, cs = [.bool b]
    | .int k => ∃ i, cs = [.int k i] /\ (Lit.int k i).wf = true
    | .str => ∃ s : ByteArray, cs = [.str s] /\ s.size <= maxLen
    | .slice e => cs = [.sl .nil 0 0 0] \/ cs = [.sl .any 0 0 1] \/ ∃ b len cap full, cs = [.sl (.at b 0 0) len cap 0] /\ 0 < cap /\ len <= cap /\ cap <= maxLen /\ h[b]? = some (.cells 0 false full) /\
        full.length = cap * (T e).size /\ ∀ i, i < cap -> Fits T h d e ((full.drop (i * (T e).size)).take (T e).size)
    | .struct fs => cs.length = (T t).size /\ ∀ p ∈ fs, Fits T h d p.2 ((cs.drop p.1).take (T p.2).size)
    | .arr n e => cs.length = (T t).size /\ ∀ i, i < n -> Fits T h d e ((cs.drop (i * (T e).size)).take (T e).size)
    | _ => False
theorem Fits.mono {T : TypeId -> TI} {h : Heap} (g : Heap) : ∀ {d : Nat} {t : TypeId} {cs : List V}, Fits T h d t cs -> Fits T (h ++ g) d t cs := by
  intro d
  induction d with
  | zero => intro t cs hf; exact hf
  | succ d ih =>
    intro t cs hf
    unfold Fits at hf ⊢
    split at hf
    · exact hf
    · exact hf
    · exact hf
    · rcases hf with hf | hf | ⟨b, len, cap, full, h1, h2, h3, h4, h5, h6, h7⟩
      · exact .inl hf
      · exact .inr (.inl hf)
      · exact .inr (.inr ⟨b, len, cap, full, h1, h2, h3, h4, by rw [List.getElem?_append_left (List.getElem?_eq_some_iff.1 h5).1]; exact h5, h6, fun i hi => ih (h7 i hi)⟩)
    · exact ⟨hf.1, fun p hp => ih (hf.2 p hp)⟩
    · exact ⟨hf.1, fun i hi => ih (hf.2 i hi)⟩
    · exact hf
theorem KM.le_apps (K K' : KM) : KM.le K (K ++ K') := fun b x hx => by
  refine ⟨x, ?_, x.le_refl⟩
  rw [List.getElem?_append_left (List.getElem?_eq_some_iff.1 hx).1]; exact hx
theorem desc_of {P : Program} {t : TypeId} {d : TD} (h : (tyOf P t).desc = d) (hd : d ≠ .other) : ∃ u, P.underlying t = some u /\ descOf u = d := by
  simp only [tyOf] at h
  cases hlt : decide (t < P.types.size) with
  | false => rw [hlt] at h; simp only [cond_false] at h; exact absurd h.symm hd
  | true =>
    rw [hlt] at h
    simp only [cond_true] at h
    cases hu : P.underlying t with
    | none => rw [hu] at h; simp only [Option.map_none,Option.getD_none] at h; exact absurd h.symm hd
    | some u => rw [hu] at h; simp only [Option.map_some,Option.getD_some] at h; exact ⟨u, rfl, h⟩
theorem flat_part {α : Type} : ∀ (L : List (List α)) (i : Nat) (x : List α), L[i]? = some x -> (L.flatten.drop ((L.take i).flatten.length)).take x.length = x
  | [], i, x, h => by simp at h
  | a :: L, 0, x, h => by
    simp at h; subst h
    simp
  | a :: L, i + 1, x, h => by
    have ih := flat_part L i x (by simpa using h)
    simp only [List.take_succ_cons,List.flatten_cons,List.length_append]
    rw [<- List.drop_drop, List.drop_left]
    exact ih
section
variable [Good] {H : Type} {enc : TypeId × Value -> H} {P : Program} {w : World}
def Got (P : Program) (w : World) (d : Nat) (K : KM) (hp : Heap) (t : TypeId) (cs : List Value) : Prop :=
  ∃ K' hp' xs, Mem (K ++ K') [] [] (hp ++ hp') w /\ RoK (K ++ K') /\ VRs (K ++ K') xs cs /\ Fits (tyOf P) (hp ++ hp') d t xs /\ xs.all isCell = true
theorem got_seq {d : Nat} : ∀ (segs : List (TypeId × List Value)), (∀ p ∈ segs, ∀ K hp, Mem K [] [] hp w -> RoK K -> Got P w d K hp p.1 p.2) -> ∀ K hp, Mem K [] [] hp w -> RoK K ->
    ∃ (K' : KM) (hp' : Heap) (xss : List (List V)), Mem (K ++ K') [] [] (hp ++ hp') w /\ RoK (K ++ K') /\ VRs (K ++ K') xss.flatten (segs.map (·.2)).flatten /\ xss.flatten.all isCell = true /\ xss.length = segs.length /\
      ∀ (i : Nat) (p : TypeId × List Value), segs[i]? = some p -> ∃ xs, xss[i]? = some xs /\ xs.length = p.2.length /\ Fits (tyOf P) (hp ++ hp') d p.1 xs
  | [], _, K, hp, hm, hro => ⟨[], [], [], by simpa using hm, by simpa using hro, by simp [VRs], rfl, rfl, fun i p h => by simp at h⟩
  | p :: segs, hg, K, hp, hm, hro => by
    obtain ⟨K1, hp1, xs, hm1, hro1, hv1, hf1, hc1⟩ := hg p (by simp) K hp hm hro
    obtain ⟨K2, hp2, xss, hm2, hro2, hv2, hc2, hl2, hf2⟩ := got_seq segs (fun q hq => hg q (by simp [hq])) (K ++ K1) (hp ++ hp1) hm1 hro1
    refine ⟨K1 ++ K2, hp1 ++ hp2, xs :: xss, by simpa using hm2, by simpa using hro2, ?_, by simp [hc1, hc2], by simp [hl2], ?_⟩
    · simp only [List.map_cons,List.flatten_cons]
      rw [<- List.append_assoc]
      exact (VRs.mono (KM.le_apps _ _) _ _ hv1).append hv2
    · intro i q hq
      cases i with
      | zero =>
        simp at hq; subst hq
        exact ⟨xs, rfl, hv1.length.symm, by rw [<- List.append_assoc]; exact hf1.mono _⟩
      | succ i =>
        obtain ⟨ys, h1, h2, h3⟩ := hf2 i q (by simpa using hq)
        exact ⟨ys, by simpa using h1, h2, by rw [<- List.append_assoc]; exact h3⟩
omit [Good] in
theorem parts_flat {α : Type} (s : Nat) : ∀ (n : Nat) (l : List α), l.length = n * s -> ((List.range n).map fun i => (l.drop (i * s)).take s).flatten = l
  | 0, l, h => by
    have h0 : l.length = 0 := by omega
    simp [List.length_eq_zero_iff.1 h0]
  | n + 1, l, h => by
    have hl : (l.take (n * s)).length = n * s := by rw [List.length_take, h, Nat.add_mul]; omega
    have e : ((List.range n).map fun i => (l.drop (i * s)).take s) = (List.range n).map fun i => ((l.take (n * s)).drop (i * s)).take s := by
      apply List.map_congr_left
      intro i hi
      have hi' : i < n := List.mem_range.1 hi
      rw [List.drop_take, List.take_take]
      have : (i + 1) * s <= n * s := Nat.mul_le_mul_right s hi'
      rw [Nat.add_mul] at this
      rw [Nat.min_eq_left (by omega)]
    rw [List.range_succ, List.map_append, List.flatten_append, e, parts_flat s n _ hl]
    simp only [List.map_cons,List.map_nil,List.flatten_cons,List.flatten_nil,List.append_nil]
    rw [List.take_of_length_le (l := l.drop (n * s)) (by rw [List.length_drop, h, Nat.add_mul]; omega), List.take_append_drop]
omit [Good] in
theorem flat_len {α : Type} {s : Nat} : ∀ {L : List (List α)}, (∀ x ∈ L, x.length = s) -> L.flatten.length = L.length * s
  | [], _ => by simp
  | a :: L, h => by
    have h1 := flat_len (L := L) (s := s) fun x hx => h x (List.mem_cons_of_mem _ hx)
    have h2 := h a (by simp)
    simp only [List.flatten_cons,List.length_append,List.length_cons,h1,h2,Nat.add_mul]
    omega
omit [Good] in
theorem flat_part_same {α : Type} {s : Nat} {L : List (List α)} (h : ∀ x ∈ L, x.length = s) {i : Nat} {x : List α} (hx : L[i]? = some x) : (L.flatten.drop (i * s)).take s = x := by
  have h1 := flat_part L i x hx
  have hi := (List.getElem?_eq_some_iff.1 hx).1
  rw [flat_len (fun y hy => h y (List.mem_of_mem_take hy)), List.length_take, Nat.min_eq_left (by omega), h x (List.mem_of_getElem? hx)] at h1
  exact h1
omit [Good] in
theorem tiles_flat {T : TypeId -> TI} {α : Type} : ∀ (fs : List (Nat × TypeId)) (o n : Nat) (l : List α), tiles T fs o n = true -> l.length = n -> (fs.map fun p => (l.drop p.1).take (T p.2).size).flatten = l.drop o
  | [], o, n, l, h, hl => by
    simp only [tiles,decide_eq_true_eq] at h
    simp [List.drop_of_length_le (show l.length <= o by omega)]
  | p :: fs, o, n, l, h, hl => by
    simp only [tiles,Bool.and_eq_true,decide_eq_true_eq] at h
    obtain ⟨rfl, h⟩ := h
    simp only [List.map_cons,List.flatten_cons]
    rw [tiles_flat fs _ n l h hl, <- List.drop_drop, List.take_append_drop]
omit [Good] in
theorem tiles_le {T : TypeId -> TI} : ∀ {fs : List (Nat × TypeId)} {o n : Nat}, tiles T fs o n = true -> o <= n
  | [], o, n, h => by simp only [tiles,decide_eq_true_eq] at h; omega
  | p :: fs, o, n, h => by
    simp only [tiles,Bool.and_eq_true,decide_eq_true_eq] at h
    have := tiles_le h.2
    omega
omit [Good] in
theorem tiles_part {T : TypeId -> TI} {α : Type} : ∀ (fs : List (Nat × TypeId)) (o n : Nat) (L : List (List α)) (pre : List α), tiles T fs o n = true -> L.length = fs.length -> pre.length = o ->
    (∀ (i : Nat) (p : Nat × TypeId), fs[i]? = some p -> ∃ x, L[i]? = some x /\ x.length = (T p.2).size) -> ∀ (i : Nat) (p : Nat × TypeId), fs[i]? = some p -> ∃ x, L[i]? = some x /\ (((pre ++ L.flatten).drop p.1).take (T p.2).size) = x
  | [], o, n, L, pre, h, hl, hp, hx, i, p, hi => by simp at hi
  | q :: fs, o, n, [], pre, h, hl, hp, hx, i, p, hi => by simp at hl
  | q :: fs, o, n, a :: L, pre, h, hl, hp, hx, i, p, hi => by
    simp only [tiles,Bool.and_eq_true,decide_eq_true_eq] at h
    obtain ⟨h1, h2⟩ := h
    cases i with
    | zero =>
      simp at hi; subst hi
      obtain ⟨x, hx1, hx2⟩ := hx 0 q (by simp)
      simp at hx1; subst hx1
      refine ⟨a, by simp, ?_⟩
      rw [show q.1 = pre.length by omega, List.drop_left, List.flatten_cons, <- hx2, List.take_left]
    | succ i =>
      obtain ⟨x0, hx1, hx2⟩ := hx 0 q (by simp)
      simp at hx1; subst hx1
      have := tiles_part fs (o + (T q.2).size) n L (pre ++ a) h2 (by simpa using hl) (by simp [hp, hx2]) (fun j r hj => by simpa using hx (j + 1) r (by simpa using hj)) i p (by simpa using hi)
      simpa using this
omit [Good] in
theorem addr_none {a : Addr} (h : a.spot = none) (n : Nat) : a.add n = ⟨a.block, a.off + n, none⟩ := by
  cases a
  simp only at h
  subst h
  unfold Addr.add
  split
  · rename_i h0; subst h0; rfl
  · rfl
omit [Good] in
theorem rows_get {w : World} {a : Addr} {n : Nat} {vs : List Value} (h : w.cells? 0 a n = some vs) : vs.length = n /\ ∀ i, i < n -> w.cell? (a.add i) = vs[i]? := by
  unfold World.cells? at h
  rw [if_pos (Nat.zero_le _)] at h
  exact ⟨by simpa using mapM_some_length h, fun i hi => mapM_some_get h i i (by simp [hi])⟩
theorem got_of : ∀ (d : Nat) (t : TypeId), plainT (tyOf P) d t = true -> ∀ (n : Nat) (cs : List Value) (x : DataW H × List MemPlace), DataW.trod enc P w 0 (fun _ => true) true n t cs = some x ->
    (cs.length = (tyOf P t).size \/ True) -> ∀ K hp, Mem K [] [] hp w -> RoK K -> Got P w d K hp t cs := by
  intro d
  induction d with
  | zero => intro t h; cases h
  | succ d ih =>
    intro t hp n cs x hx _ K hp0 hm hro
    unfold plainT at hp
    split at hp
    · rename_i hd
      obtain ⟨u, hu, hdu⟩ := desc_of hd (by simp)
      cases u <;> simp only [descOf] at hdu <;> try (cases hdu)
      obtain ⟨b, rfl, _⟩ := DataW.trod_bool hu hx
      exact ⟨[], [], [.bool b], by simpa using hm, by simpa using hro, by simp [VRs, VR], by unfold Fits; rw [hd]; exact ⟨b, rfl⟩, rfl⟩
    · rename_i k hd
      obtain ⟨u, hu, hdu⟩ := desc_of hd (by simp)
      cases u <;> simp only [descOf] at hdu <;> try (cases hdu)
      obtain ⟨i, rfl, _, hw⟩ := DataW.trod_int hu hx
      exact ⟨[], [], [.int k i], by simpa using hm, by simpa using hro, by simp [VRs, VR], by unfold Fits; rw [hd]; exact ⟨i, rfl, hw⟩, rfl⟩
    · rename_i hd
      obtain ⟨u, hu, hdu⟩ := desc_of hd (by simp)
      cases u <;> simp only [descOf] at hdu <;> try (cases hdu)
      obtain ⟨s, rfl, _, hs⟩ := DataW.trod_string hu hx
      exact ⟨[], [], [.str s], by simpa using hm, by simpa using hro, by simp [VRs, VR], by unfold Fits; rw [hd]; exact ⟨s, rfl, hs⟩, rfl⟩
    · rename_i e hd
      obtain ⟨u, hu, hdu⟩ := desc_of hd (by simp)
      cases u <;> simp only [descOf] at hdu <;> try (cases hdu)
      simp only [Bool.and_eq_true,decide_eq_true_eq] at hp
      obtain ⟨hsz, hpe⟩ := hp
      have hsz' : 0 < P.cellsOf e := hsz
      rcases DataW.trod_slice hu hx with ⟨rfl, _⟩ | ⟨a, len, cap, elems, rest, m, rfl, rfl, _, _, hlc, hcm, hel, hel2, hsp, _⟩
      · exact ⟨[], [], [.sl .nil 0 0 0], by simpa using hm, by simpa using hro, by simp [VRs, VR, SlR], by unfold Fits; rw [hd]; exact .inl rfl, rfl⟩
      · obtain ⟨hrl, hr2⟩ := hsp rfl
        by_cases hc0 : cap = 0
        · subst hc0
          obtain rfl : len = 0 := by omega
          refine ⟨[], [], [.sl .any 0 0 1], by simpa using hm, by simpa using hro, ?_, by unfold Fits; rw [hd]; exact .inr (.inl rfl), rfl⟩
          simp only [List.append_nil,VRs,VR,SlR]
          exact ⟨_, [], rfl, ⟨trivial, trivial, by omega, a, 0, rfl⟩, rfl⟩
        · have hall : ∀ i, i < cap -> ∃ vs y, w.cells? 0 (a.add (i * P.cellsOf e)) (P.cellsOf e) = some vs /\ DataW.trod enc P w 0 (fun _ => true) true m e vs = some y := by
            intro i hi
            have : ∃ z, (w.cells? 0 (a.add (i * P.cellsOf e)) (P.cellsOf e)).bind (DataW.trod enc P w 0 (fun _ => true) true m e) = some z := by
              by_cases hil : i < len
              · rw [hel2 i hil]; exact ⟨elems[i]'(by omega), by simp⟩
              · have := hr2 (i - len) (by omega)
                rw [show len + (i - len) = i by omega] at this
                rw [this]; exact ⟨rest[i - len]'(by omega), by simp⟩
            obtain ⟨z, hz⟩ := this
            rw [Option.bind_eq_some_iff] at hz
            obtain ⟨vs, h1, h2⟩ := hz
            exact ⟨vs, z, h1, h2⟩
          obtain ⟨vs0, y0, hv0, _⟩ := hall 0 (by omega)
          have hv00 := rows_get hv0
          have hcell0 : ∃ v, w.cell? a = some v := by
            have h1 := hv00.2 0 hsz'
            rw [show (a.add (0 * P.cellsOf e)).add 0 = a by simp [Addr.add]] at h1
            rw [h1]
            exact ⟨vs0[0]'(by omega), by simp⟩
          have hblk : ∃ c ty fr, w.heap[a.block]? = some (.cells c ty fr) /\ a.spot = none := by
            obtain ⟨v, hv⟩ := hcell0
            unfold World.cell? at hv
            split at hv
            · rename_i c ty fr hh
              refine ⟨c, ty, fr, hh, ?_⟩
              split at hv
              · cases hv
              · rename_i hs; simpa using hs
            · cases hv
          obtain ⟨c, ty, fr, hblk, hspot⟩ := hblk
          have hcell : ∀ j, j < cap * P.cellsOf e -> ∃ v, c[a.off + j]? = some v /\ v = c[a.off + j]! := by
            intro j hj
            have hdiv : j / P.cellsOf e < cap := (Nat.div_lt_iff_lt_mul hsz').2 hj
            obtain ⟨vs, y, h1, _⟩ := hall (j / P.cellsOf e) hdiv
            have h2 := rows_get h1
            have h3 := h2.2 (j % P.cellsOf e) (Nat.mod_lt _ hsz')
            have hlt : j % P.cellsOf e < vs.length := by rw [h2.1]; exact Nat.mod_lt _ hsz'
            rw [show (a.add (j / P.cellsOf e * P.cellsOf e)).add (j % P.cellsOf e) = ⟨a.block, a.off + j, none⟩ by
              have := Nat.div_add_mod' j (P.cellsOf e)
              rw [addr_none hspot, addr_none rfl]
              simp only [Nat.add_assoc]; rw [this]] at h3
            unfold World.cell? at h3
            simp only [hblk,hspot,Option.isSome_none,Bool.false_eq_true,if_false] at h3
            rw [List.getElem?_eq_getElem hlt] at h3
            exact ⟨_, h3, by rw [getElem!_def, h3]⟩
          let l : List Value := (List.range (cap * P.cellsOf e)).map fun j => c[a.off + j]!
          have hll : l.length = cap * P.cellsOf e := by simp [l]
          have hlg : ∀ j, j < cap * P.cellsOf e -> c[a.off + j]? = l[j]? := by
            intro j hj
            obtain ⟨v, h1, h2⟩ := hcell j hj
            rw [h1, h2]
            simp [l, hj]
          have hseg : ∀ i, i < cap -> ∃ y, DataW.trod enc P w 0 (fun _ => true) true m e ((l.drop (i * P.cellsOf e)).take (P.cellsOf e)) = some y := by
            intro i hi
            obtain ⟨vs, y, h1, h2⟩ := hall i hi
            have h3 := rows_get h1
            have e1 : (l.drop (i * P.cellsOf e)).take (P.cellsOf e) = vs := by
              apply List.ext_getElem?
              intro j
              by_cases hj : j < P.cellsOf e
              · rw [List.getElem?_take, if_pos hj, List.getElem?_drop, <- h3.2 j hj]
                have hij : i * P.cellsOf e + j < cap * P.cellsOf e := by
                  have := Nat.mul_le_mul_right (P.cellsOf e) (show i + 1 <= cap from hi)
                  rw [Nat.add_mul] at this; omega
                rw [<- hlg _ hij]
                rw [addr_none hspot, addr_none rfl]
                unfold World.cell?
                simp only [hblk,hspot,Option.isSome_none,Bool.false_eq_true,if_false,Nat.add_assoc]
              · rw [List.getElem?_take, if_neg hj, List.getElem?_eq_none (by omega)]
            rw [e1]; exact ⟨y, h2⟩
          obtain ⟨K1, hp1, xss, hm1, hro1, hv1, hc1, hl1, hf1⟩ := got_seq (P := P) (d := d) ((List.range cap).map fun i => (e, (l.drop (i * P.cellsOf e)).take (P.cellsOf e))) (by
            intro p hpm K2 hp2 hm2 hro2
            obtain ⟨i, hi, rfl⟩ := List.mem_map.1 hpm
            obtain ⟨y, hy⟩ := hseg i (List.mem_range.1 hi)
            exact ih e hpe m _ y hy (.inr trivial) K2 hp2 hm2 hro2) K hp0 hm hro
          have eflat : (((List.range cap).map fun i => (e, (l.drop (i * P.cellsOf e)).take (P.cellsOf e))).map (·.2)).flatten = l := by
            rw [List.map_map]
            exact parts_flat (P.cellsOf e) cap l hll
          rw [eflat] at hv1
          have hxl : xss.flatten.length = cap * P.cellsOf e := by rw [<- hv1.length, hll]
          have hsz2 : a.off + cap * P.cellsOf e <= c.size := by
            have hpos : 0 < cap * P.cellsOf e := Nat.mul_pos (by omega) hsz'
            obtain ⟨v, h1, _⟩ := hcell (cap * P.cellsOf e - 1) (by omega)
            have := (Array.getElem?_eq_some_iff.1 h1).1
            omega
          have hcr : CR (K ++ K1) xss.flatten c a.off := by
            intro j v hj
            have hjl : j < cap * P.cellsOf e := by rw [<- hxl]; exact (List.getElem?_eq_some_iff.1 hj).1
            refine ⟨List.all_eq_true.1 hc1 v (List.mem_of_getElem? hj), ?_⟩
            obtain ⟨x, h1, h2⟩ := hv1.get j v hj
            exact ⟨x, by rw [hlg j hjl]; exact h1, h2⟩
          have hm2 := Mem.read hm1 hro1 hblk (S := a.off) (c := xss.flatten) (by rw [hxl]; exact hsz2) hcr
          have hxs : ∀ x ∈ xss, x.length = P.cellsOf e := by
            intro x hx
            obtain ⟨i, hi⟩ := List.getElem?_of_mem hx
            have hi' : i < cap := by have := (List.getElem?_eq_some_iff.1 hi).1; simp at hl1; omega
            obtain ⟨xs, h1, h2, _⟩ := hf1 i (e, (l.drop (i * P.cellsOf e)).take (P.cellsOf e)) (by simp [hi'])
            rw [hi] at h1; cases h1
            rw [h2]
            have := Nat.mul_le_mul_right (P.cellsOf e) (show i + 1 <= cap from hi')
            rw [Nat.add_mul] at this
            simp [hll]; omega
          refine ⟨K1 ++ [.c 0 a.block a.off c.size false], hp1 ++ [.cells 0 false xss.flatten], [.sl (.at (hp0 ++ hp1).length 0 0) len cap 0], by simpa using hm2.1, by simpa using hm2.2, ?_, ?_, rfl⟩
          · simp only [VRs,VR,SlR]
            refine ⟨_, [], rfl, ⟨a, cap, rfl, ⟨0, a.block, a.off, c.size, false, ?_, by omega, fun _ => ?_⟩, Nat.le_refl _, fun _ => rfl, fun h => absurd h (by omega)⟩, rfl⟩
            · have : (hp0 ++ hp1).length = (K ++ K1).length := hm1.hr.1
              rw [<- List.append_assoc, this]; simp
            · cases a; simp_all
          · unfold Fits
            rw [hd]
            refine .inr (.inr ⟨_, len, cap, xss.flatten, rfl, by omega, hlc, hcm, ?_, by exact hxl, fun i hi => ?_⟩)
            · rw [<- List.append_assoc]; simp
            · obtain ⟨xs, h1, h2, h3⟩ := hf1 i (e, (l.drop (i * P.cellsOf e)).take (P.cellsOf e)) (by simp [hi])
              have := flat_part_same hxs h1
              rw [show (tyOf P e).size = P.cellsOf e from rfl, this, <- List.append_assoc]
              exact h3.mono _
    · rename_i fs hd
      obtain ⟨u, hu, hdu⟩ := desc_of hd (by simp)
      cases u <;> simp only [descOf] at hdu <;> try (cases hdu)
      rename_i fs'
      simp only [Bool.and_eq_true] at hp
      obtain ⟨ht, hpf⟩ := hp
      obtain ⟨ys, m, rfl, _, hcl, hyl, hyf⟩ := DataW.trod_struct hu hx
      have hcl' : cs.length = (tyOf P t).size := hcl
      have hin : ∀ (fs' : List (Nat × TypeId)) (o : Nat), tiles (tyOf P) fs' o (tyOf P t).size = true -> ∀ p ∈ fs', p.1 + (tyOf P p.2).size <= (tyOf P t).size := by
        intro fs'
        induction fs' with
        | nil => intro o _ p hp; cases hp
        | cons q r ihr =>
          intro o hti p hp
          simp only [tiles,Bool.and_eq_true,decide_eq_true_eq] at hti
          have := tiles_le hti.2
          rcases List.mem_cons.1 hp with rfl | hp
          · omega
          · exact ihr _ hti.2 p hp
      obtain ⟨K1, hp1, xss, hm1, hro1, hv1, hc1, hl1, hf1⟩ := got_seq (P := P) (d := d) ((fs'.toList.map fun f => (f.offset, f.type)).map fun p => (p.2, (cs.drop p.1).take (tyOf P p.2).size)) (by
        intro p hpm K2 hp2 hm2 hro2
        obtain ⟨q, hq, rfl⟩ := List.mem_map.1 hpm
        obtain ⟨f, hf, rfl⟩ := List.mem_map.1 hq
        obtain ⟨i, hi⟩ := Array.getElem?_of_mem (Array.mem_toList_iff.1 hf)
        have := hyf i f hi
        have hil := (Array.getElem?_eq_some_iff.1 hi).1
        exact ih f.type (List.all_eq_true.1 hpf _ hq) m _ (ys[i]'(by omega)) (this.trans (by simp)) (.inr trivial) K2 hp2 hm2 hro2) K hp0 hm hro
      have eflat : (((fs'.toList.map fun f => (f.offset, f.type)).map fun p => (p.2, (cs.drop p.1).take (tyOf P p.2).size)).map (·.2)).flatten = cs := by
        rw [List.map_map]
        exact tiles_flat (T := tyOf P) _ 0 _ cs ht hcl'
      rw [eflat] at hv1
      refine ⟨K1, hp1, xss.flatten, hm1, hro1, hv1, ?_, hc1⟩
      unfold Fits
      rw [hd]
      refine ⟨by rw [<- hv1.length]; exact hcl', fun p hpm => ?_⟩
      obtain ⟨i, hi⟩ := List.getElem?_of_mem hpm
      have hxx : ∀ (i : Nat) (p : Nat × TypeId), (fs'.toList.map fun f => (f.offset, f.type))[i]? = some p -> ∃ x, xss[i]? = some x /\ x.length = (tyOf P p.2).size := by
        intro i p hi
        obtain ⟨xs, h1, h2, _⟩ := hf1 i (p.2, (cs.drop p.1).take (tyOf P p.2).size) (by rw [List.getElem?_map, hi]; rfl)
        refine ⟨xs, h1, ?_⟩
        rw [h2]
        have := hin _ 0 ht p (List.mem_of_getElem? hi)
        simp [hcl']; omega
      obtain ⟨x1, h1, h2⟩ := tiles_part (T := tyOf P) _ 0 _ xss [] ht (by simpa using hl1) rfl hxx i p hi
      obtain ⟨xs, h3, _, h5⟩ := hf1 i (p.2, (cs.drop p.1).take (tyOf P p.2).size) (by rw [List.getElem?_map, hi]; rfl)
      rw [h1] at h3; cases h3
      simp only [List.nil_append] at h2
      rw [h2]; exact h5
    · rename_i k e hd
      obtain ⟨u, hu, hdu⟩ := desc_of hd (by simp)
      cases u <;> simp only [descOf] at hdu <;> try (cases hdu)
      simp only [Bool.and_eq_true,decide_eq_true_eq] at hp
      obtain ⟨hsz, hpe⟩ := hp
      obtain ⟨ys, m, rfl, _, hcl, hyl, hyf⟩ := DataW.trod_array hu hx
      have hcl' : cs.length = k * P.cellsOf e := by rw [hcl]; exact hsz.symm
      obtain ⟨K1, hp1, xss, hm1, hro1, hv1, hc1, hl1, hf1⟩ := got_seq (P := P) (d := d) ((List.range k).map fun i => (e, (cs.drop (i * P.cellsOf e)).take (P.cellsOf e))) (by
        intro p hpm K2 hp2 hm2 hro2
        obtain ⟨i, hi, rfl⟩ := List.mem_map.1 hpm
        have hik := List.mem_range.1 hi
        exact ih e hpe m _ (ys[i]'(by omega)) ((hyf i hik).trans (by simp)) (.inr trivial) K2 hp2 hm2 hro2) K hp0 hm hro
      have eflat : (((List.range k).map fun i => (e, (cs.drop (i * P.cellsOf e)).take (P.cellsOf e))).map (·.2)).flatten = cs := by
        rw [List.map_map]
        exact parts_flat (P.cellsOf e) k cs hcl'
      rw [eflat] at hv1
      refine ⟨K1, hp1, xss.flatten, hm1, hro1, hv1, ?_, hc1⟩
      unfold Fits
      rw [hd]
      refine ⟨by rw [<- hv1.length]; exact hcl, fun i hi => ?_⟩
      have hxs : ∀ x ∈ xss, x.length = P.cellsOf e := by
        intro x hx
        obtain ⟨i, hi⟩ := List.getElem?_of_mem hx
        have hi' : i < k := by have := (List.getElem?_eq_some_iff.1 hi).1; simp at hl1; omega
        obtain ⟨xs, h1, h2, _⟩ := hf1 i (e, (cs.drop (i * P.cellsOf e)).take (P.cellsOf e)) (by simp [hi'])
        rw [hi] at h1; cases h1
        rw [h2]
        have := Nat.mul_le_mul_right (P.cellsOf e) (show i + 1 <= k from hi')
        rw [Nat.add_mul] at this
        simp [hcl']; omega
      obtain ⟨xs, h1, h2, h3⟩ := hf1 i (e, (cs.drop (i * P.cellsOf e)).take (P.cellsOf e)) (by simp [hi])
      have := flat_part_same hxs h1
      rw [show (tyOf P e).size = P.cellsOf e from rfl, this]
      exact h3
    · cases hp
end
end Go.Ev
namespace Go.Ev
open Go.ChangeShapes Go.WideShapes Go.ChangeAt Go.RowKit
def argV (T : TypeId -> TI) (t : TypeId) (xs : List V) : V := match (T t).kind with
  | some true => .agg xs
  | _ => xs.headD .nilp
def argVs (T : TypeId -> TI) : List TypeId -> List (List V) -> List V
  | t :: ts, xs :: xss => argV T t xs :: argVs T ts xss
  | _, _ => []
def FitsAll (T : TypeId -> TI) (h : Heap) (d : Nat) : List TypeId -> List (List V) -> Prop
  | [], [] => True
  | t :: ts, xs :: xss => Fits T h d t xs /\ FitsAll T h d ts xss
  | _, _ => False
section
variable {H : Type} {enc : TypeId × Value -> H} {P : Program} {w : World}
theorem argV_ok {K : KM} {base : Nat} {d n : Nat} {t : TypeId} {v : Value} {x : DataW H × List MemPlace} {xs : List V} (hp : plainT (tyOf P) d t = true) (hval : Value.okWide P w .any base t v)
    (hx : DataW.trod enc P w 0 (fun _ => true) true n t v.cells.toList = some x) (hv : VRs K xs v.cells.toList) (hc : xs.all isCell = true) : VR K (argV (tyOf P) t xs) v := by
  cases d with
  | zero => cases hp
  | succ d =>
    unfold plainT at hp
    have one : ∀ (y : Value), v = y -> y.cells = #[y] -> (tyOf P t).kind = some false -> VR K (argV (tyOf P) t xs) v := by
      intro y e hy hk
      subst e
      rw [hy] at hv
      unfold argV
      rw [hk]
      cases xs with
      | nil => simp [VRs] at hv
      | cons a r =>
        simp only [VRs] at hv
        obtain ⟨y, ys, h1, h2, h3⟩ := hv
        simp at h1
        obtain ⟨rfl, rfl⟩ := h1
        exact h2
    have agg : (∃ cs, v = .agg cs) -> (tyOf P t).kind = some true -> VR K (argV (tyOf P) t xs) v := by
      intro ⟨cs, e⟩ hk
      subst e
      unfold argV
      rw [hk]
      simp only [VR]
      exact ⟨cs, rfl, hv, hc⟩
    split at hp
    · rename_i hd
      obtain ⟨u, hu, hdu⟩ := desc_of hd (by simp)
      cases u <;> simp only [descOf] at hdu <;> try (cases hdu)
      obtain ⟨b, rfl⟩ := okWide_bool hu hval
      exact one _ rfl rfl (by simp [TI.kind, hd])
    · rename_i k hd
      obtain ⟨u, hu, hdu⟩ := desc_of hd (by simp)
      cases u <;> simp only [descOf] at hdu <;> try (cases hdu)
      obtain ⟨b, rfl⟩ := okWide_int hu hval
      exact one _ rfl rfl (by simp [TI.kind, hd])
    · rename_i hd
      obtain ⟨u, hu, hdu⟩ := desc_of hd (by simp)
      cases u <;> simp only [descOf] at hdu <;> try (cases hdu)
      obtain ⟨b, rfl⟩ := okWide_string hu hval
      exact one _ rfl rfl (by simp [TI.kind, hd])
    · rename_i e hd
      obtain ⟨u, hu, hdu⟩ := desc_of hd (by simp)
      cases u <;> simp only [descOf] at hdu <;> try (cases hdu)
      obtain ⟨a, l, c, rfl⟩ := okWide_slice hu hval
      exact one _ rfl rfl (by simp [TI.kind, hd])
    · rename_i fs hd
      obtain ⟨u, hu, hdu⟩ := desc_of hd (by simp)
      cases u <;> simp only [descOf] at hdu <;> try (cases hdu)
      obtain ⟨cs, rfl, _⟩ := okWide_struct hu hval
      exact agg ⟨cs, rfl⟩ (by simp [TI.kind, hd])
    · rename_i k e hd
      obtain ⟨u, hu, hdu⟩ := desc_of hd (by simp)
      cases u <;> simp only [descOf] at hdu <;> try (cases hdu)
      have hval' := hval
      simp only [Value.okWide,hu] at hval'
      obtain ⟨cs, rfl, _⟩ := hval'
      exact agg ⟨cs, rfl⟩ (by simp [TI.kind, hd])
    · cases hp
theorem args_ok [Good] {base d : Nat} : ∀ {ts : List TypeId} {vs : List Value} {ds : List (DataW H)} {ps : List MemPlace}, DataW.TrodAll enc P w 0 (fun _ => true) true ts vs ds ps ->
    (∀ (j : Nat) t v, ts[j]? = some t -> vs[j]? = some v -> Value.okWide P w .any base t v) -> ts.all (plainT (tyOf P) d) = true -> ∀ K hp, Mem K [] [] hp w -> RoK K ->
    ∃ (K' : KM) (hp' : Heap) (xss : List (List V)), Mem (K ++ K') [] [] (hp ++ hp') w /\ RoK (K ++ K') /\ VRs (K ++ K') (argVs (tyOf P) ts xss) vs /\ FitsAll (tyOf P) (hp ++ hp') d ts xss
  | [], vs, ds, ps, h, hval, hp, K, h0, hm, hro => by
    obtain ⟨rfl, _, _⟩ := trodAll_nil h
    exact ⟨[], [], [], by simpa using hm, by simpa using hro, by simp [argVs, VRs], trivial⟩
  | t :: ts, vs, ds, ps, h, hval, hp, K, h0, hm, hro => by
    obtain ⟨v, vs, dd, ds, p, q, rfl, rfl, rfl, hd, hr⟩ := trodAll_cons h
    simp only [List.all_cons,Bool.and_eq_true] at hp
    obtain ⟨n, hn⟩ := hd
    have hv0 := hval 0 t v rfl rfl
    obtain ⟨K1, hp1, xs, hm1, hro1, hv1, hf1, hc1⟩ := got_of (P := P) d t hp.1 n _ _ hn (.inr trivial) K h0 hm hro
    obtain ⟨K2, hp2, xss, hm2, hro2, hv2, hf2⟩ := args_ok hr (fun j t v h1 h2 => hval (j + 1) t v (by simpa using h1) (by simpa using h2)) hp.2 (K ++ K1) (h0 ++ hp1) hm1 hro1
    refine ⟨K1 ++ K2, hp1 ++ hp2, xs :: xss, by simpa using hm2, by simpa using hro2, ?_, ?_⟩
    · simp only [argVs,VRs]
      refine ⟨v, vs, rfl, ?_, by simpa using hv2⟩
      rw [<- List.append_assoc]
      exact VR.mono (KM.le_apps _ _) _ _ (argV_ok hp.1 hv0 hn hv1 hc1)
    · simp only [FitsAll]
      refine ⟨?_, by simpa using hf2⟩
      rw [<- List.append_assoc]
      exact hf1.mono _
theorem trodAll_behind (hl : laidOutB P = true) {W W' : World} (hb : Below W.heap.size W W') : ∀ {ts : List TypeId} {vs : List Value} {ds : List (DataW H)} {ps : List MemPlace},
    ts.all (fun t => P.readableRec t && decide (t < P.types.size)) = true -> DataW.TrodAll enc P W 0 (fun _ => true) true ts vs ds ps -> DataW.TrodAll enc P W' 0 (fun b => decide (b < W.heap.size)) true ts vs ds ps
  | [], vs, ds, ps, _, h => by
    obtain ⟨rfl, rfl, rfl⟩ := trodAll_nil h
    exact trodAll_mk0
  | t :: ts, vs, ds, ps, hr, h => by
    obtain ⟨v, vs, dd, ds, p, q, rfl, rfl, rfl, hd, hrest⟩ := trodAll_cons h
    simp only [List.all_cons,Bool.and_eq_true,decide_eq_true_eq] at hr
    exact trodAll_cons_mk (Below.trod hl hr.1.1 hr.1.2 hd hb (by obtain ⟨n, hn⟩ := hd; exact DataW.trod_lt n _ _ _ hn)) (trodAll_behind hl hb hr.2 hrest)
theorem lifted_of {C : Checked} {X : Env} (hfit : Fit C.prog X) {f : FuncId} {fn : Func} {s : ChangeSpec} {os : Os} {conds : List PathCond} (d : Nat) {tb : TypeId}
    (own : ownKnob C.prog.godebug = none) (started : os.Started) (noInit : C.prog.inits.idxOf? f = none) (hfn : C.prog.funcs[f]? = some fn)
    (witness : ∃ (w : World) (tape : Tape) (i : Input), w.os = os /\ (w.forCall tape i).Shaped C.prog /\ i.vars = [] /\ Input.okWide C.prog (w.forCall tape i) .any w.heap.size f i /\
      s.pre6 enc C.prog fn conds false (w.forCall tape i).memory i.args /\ ({} : Assume).holds C.prog (lone (Frame.enter C.prog f i.args .normal) [] (w.forCall tape i)))
    (hl : laidOutB C.prog = true) (hvars : s.vars = []) (hspec : ∀ ds : List (DataW H), ds.length = fn.params.size -> s.fn H ds = { results := [.lit (.bool true)], args := ds })
    (hres : fn.resultTypes = #[tb]) (hb : C.prog.underlying tb = some .bool)
    (hps : fn.params.toList.all (fun t => C.prog.readableRec t && decide (t < C.prog.types.size)) = true) (hpl : fn.params.toList.all (plainT (tyOf C.prog) d) = true)
    (law : ∀ (hp : Heap) (xss : List (List V)), FitsAll (tyOf C.prog) hp d fn.params.toList xss -> ∃ h', D X (.fn f []) (argVs (tyOf C.prog) fn.params.toList xss) hp = some (.bool true, h')) :
    ReturnsInHanded {} C os f .any (s.pre6 enc C.prog fn conds false) (s.post enc C.prog fn false true false false) := by
  refine returnsInHanded_of_change own started noInit hfn witness ?_
  intro W base args ds gs before hval hW hcnd _
  have hW' := hW
  obtain ⟨p, q, hA, hV, rfl, hfz, hnd⟩ := hW
  rw [hvars] at hV
  obtain ⟨rfl, rfl⟩ := trodVars_none hV
  letI := goodOf X
  obtain ⟨hm0, hro0⟩ := mem_nil W
  obtain ⟨K, hp, xss, hm, hro, hvs, hft⟩ := args_ok hA (fun j t v h1 h2 => hval j t v (by simpa using h1) (by simpa using h2)) hpl [] [] hm0 hro0
  simp only [List.nil_append] at hm hro hvs hft
  obtain ⟨h', hD⟩ := law hp xss hft
  refine ((hfit.law hD hm hro hvs).mono fun e W' ⟨he, bel⟩ => ?_)
  rw [he]
  have hlen : ds.length = fn.params.size := by
    have := (trodAll_length hA).2
    simpa using this
  refine ⟨_, rfl, ds, [], p ++ [], [], p, [], hW', ?_, ?_, ?_, bel.frame _, fun h => by cases h⟩
  · rw [hres, List.append_nil, hspec ds hlen]
    exact trodAll_mk1 (shut_bool hb _)
  · rw [List.append_nil, hspec ds hlen]
    exact trodAll_behind hl bel hps hA
  · rw [List.append_nil, hspec ds hlen, hvars]
    exact rfl
end
end Go.Ev
namespace Go.Ev
theorem bnd_s {α β : Type} (a : α) (k : α -> Option β) : bnd (some a) k = k a := rfl
theorem cnd_t {α : Type} (x y : Option α) : cnd true x y = x := rfl
theorem cnd_f {α : Type} (x y : Option α) : cnd false x y = y := rfl
theorem grd_t {α : Type} {c : Prop} [Decidable c] (h : c) (x : Option α) : grd c x = x := if_pos h
theorem grd_tr {α : Type} [Decidable True] (x : Option α) : grd True x = x := if_pos trivial
section
variable {X : Env} {C : CallSem} {L : LoopSem} {f : FuncId} {R : Type}
def putK (o : Option Tmp) (p : TV × St) : Option St := some (p.2.put o p.1)
theorem putK_eq (o : Option Tmp) (v : TV) (s : St) : putK o (v, s) = some (s.put o v) := rfl
def stepK (X : Env) (C : CallSem) (f : FuncId) (o : Oper) (s : St) : Bool -> Option St
  | true => exOp X C f o s
  | false => some (s.put o.dst .u)
theorem stepK_t (o : Oper) (s : St) : stepK X C f o s true = exOp X C f o s := rfl
theorem stepK_f (o : Oper) (s : St) : stepK X C f o s false = some (s.put o.dst .u) := rfl
theorem exOps_nil (ops : List Oper) (s : St) : exOps X C f ops [] s = some s := rfl
theorem exOps_cons (ops : List Oper) (o : Oper) (r : List Oper) (s : St) :
    exOps X C f ops (o :: r) s = bnd (bnd (wantedT ops s.e o.guard) (stepK X C f o s)) (exOps X C f ops r) := by
  simp only [exOps]
  cases wantedT ops s.e o.guard with
  | none => rfl
  | some b => cases b <;> rfl
theorem exOp_move {x'} (d : Option Tmp) (ty : TypeId) (pos : String) (af : Array Edge) (g : Option (Nat × Bool)) (s : St) : exOp X C f ⟨d, .move x', ty, pos, af, g⟩ s = bnd (exPure X.ty (d.bind (X.slot f)) (.move x') s) (putK d) := rfl
theorem exOp_assign {x'} (d : Option Tmp) (ty : TypeId) (pos : String) (af : Array Edge) (g : Option (Nat × Bool)) (s : St) : exOp X C f ⟨d, .assign x', ty, pos, af, g⟩ s = bnd (exPure X.ty (d.bind (X.slot f)) (.assign x') s) (putK d) := rfl
theorem exOp_pick {a' b' c'} (d : Option Tmp) (ty : TypeId) (pos : String) (af : Array Edge) (g : Option (Nat × Bool)) (s : St) : exOp X C f ⟨d, .pick a' b' c', ty, pos, af, g⟩ s = bnd (exPure X.ty (d.bind (X.slot f)) (.pick a' b' c') s) (putK d) := rfl
theorem exOp_alloc {t'} (d : Option Tmp) (ty : TypeId) (pos : String) (af : Array Edge) (g : Option (Nat × Bool)) (s : St) : exOp X C f ⟨d, .alloc t', ty, pos, af, g⟩ s = bnd (exPure X.ty (d.bind (X.slot f)) (.alloc t') s) (putK d) := rfl
theorem exOp_box {t' x'} (d : Option Tmp) (ty : TypeId) (pos : String) (af : Array Edge) (g : Option (Nat × Bool)) (s : St) : exOp X C f ⟨d, .box t' x', ty, pos, af, g⟩ s = bnd (exPure X.ty (d.bind (X.slot f)) (.box t' x') s) (putK d) := rfl
theorem exOp_build {t' ps'} (d : Option Tmp) (ty : TypeId) (pos : String) (af : Array Edge) (g : Option (Nat × Bool)) (s : St) : exOp X C f ⟨d, .build t' ps', ty, pos, af, g⟩ s = bnd (exPure X.ty (d.bind (X.slot f)) (.build t' ps') s) (putK d) := rfl
theorem exOp_buildSlice {t' n' ps'} (d : Option Tmp) (ty : TypeId) (pos : String) (af : Array Edge) (g : Option (Nat × Bool)) (s : St) : exOp X C f ⟨d, .buildSlice t' n' ps', ty, pos, af, g⟩ s = bnd (exPure X.ty (d.bind (X.slot f)) (.buildSlice t' n' ps') s) (putK d) := rfl
theorem exOp_load {t' a'} (d : Option Tmp) (ty : TypeId) (pos : String) (af : Array Edge) (g : Option (Nat × Bool)) (s : St) : exOp X C f ⟨d, .load t' a', ty, pos, af, g⟩ s = bnd (exPure X.ty (d.bind (X.slot f)) (.load t' a') s) (putK d) := rfl
theorem exOp_store {t' a' x'} (d : Option Tmp) (ty : TypeId) (pos : String) (af : Array Edge) (g : Option (Nat × Bool)) (s : St) : exOp X C f ⟨d, .store t' a' x', ty, pos, af, g⟩ s = bnd (exPure X.ty (d.bind (X.slot f)) (.store t' a' x') s) (putK d) := rfl
theorem exOp_nilCheck {x'} (d : Option Tmp) (ty : TypeId) (pos : String) (af : Array Edge) (g : Option (Nat × Bool)) (s : St) : exOp X C f ⟨d, .nilCheck x', ty, pos, af, g⟩ s = bnd (exPure X.ty (d.bind (X.slot f)) (.nilCheck x') s) (putK d) := rfl
theorem exOp_binOp {op' t' x' y' u'} (d : Option Tmp) (ty : TypeId) (pos : String) (af : Array Edge) (g : Option (Nat × Bool)) (s : St) : exOp X C f ⟨d, .binOp op' t' x' y' u', ty, pos, af, g⟩ s = bnd (exPure X.ty (d.bind (X.slot f)) (.binOp op' t' x' y' u') s) (putK d) := rfl
theorem exOp_unOp {op' t' x'} (d : Option Tmp) (ty : TypeId) (pos : String) (af : Array Edge) (g : Option (Nat × Bool)) (s : St) : exOp X C f ⟨d, .unOp op' t' x', ty, pos, af, g⟩ s = bnd (exPure X.ty (d.bind (X.slot f)) (.unOp op' t' x') s) (putK d) := rfl
theorem exOp_convert {t' u' x'} (d : Option Tmp) (ty : TypeId) (pos : String) (af : Array Edge) (g : Option (Nat × Bool)) (s : St) : exOp X C f ⟨d, .convert t' u' x', ty, pos, af, g⟩ s = bnd (exPure X.ty (d.bind (X.slot f)) (.convert t' u' x') s) (putK d) := rfl
theorem exOp_makeFunc {g' xs' ys'} (d : Option Tmp) (ty : TypeId) (pos : String) (af : Array Edge) (g : Option (Nat × Bool)) (s : St) : exOp X C f ⟨d, .makeFunc g' xs' ys', ty, pos, af, g⟩ s = bnd (exPure X.ty (d.bind (X.slot f)) (.makeFunc g' xs' ys') s) (putK d) := rfl
theorem exOp_makeSlice {t' l' c'} (d : Option Tmp) (ty : TypeId) (pos : String) (af : Array Edge) (g : Option (Nat × Bool)) (s : St) : exOp X C f ⟨d, .makeSlice t' l' c', ty, pos, af, g⟩ s = bnd (exPure X.ty (d.bind (X.slot f)) (.makeSlice t' l' c') s) (putK d) := rfl
theorem exOp_slice {t' x' l' h' m'} (d : Option Tmp) (ty : TypeId) (pos : String) (af : Array Edge) (g : Option (Nat × Bool)) (s : St) : exOp X C f ⟨d, .slice t' x' l' h' m', ty, pos, af, g⟩ s = bnd (exPure X.ty (d.bind (X.slot f)) (.slice t' x' l' h' m') s) (putK d) := rfl
theorem exOp_fieldAddr {t' x' n'} (d : Option Tmp) (ty : TypeId) (pos : String) (af : Array Edge) (g : Option (Nat × Bool)) (s : St) : exOp X C f ⟨d, .fieldAddr t' x' n', ty, pos, af, g⟩ s = bnd (exPure X.ty (d.bind (X.slot f)) (.fieldAddr t' x' n') s) (putK d) := rfl
theorem exOp_field {t' x' n'} (d : Option Tmp) (ty : TypeId) (pos : String) (af : Array Edge) (g : Option (Nat × Bool)) (s : St) : exOp X C f ⟨d, .field t' x' n', ty, pos, af, g⟩ s = bnd (exPure X.ty (d.bind (X.slot f)) (.field t' x' n') s) (putK d) := rfl
theorem exOp_indexAddr {t' x' i'} (d : Option Tmp) (ty : TypeId) (pos : String) (af : Array Edge) (g : Option (Nat × Bool)) (s : St) : exOp X C f ⟨d, .indexAddr t' x' i', ty, pos, af, g⟩ s = bnd (exPure X.ty (d.bind (X.slot f)) (.indexAddr t' x' i') s) (putK d) := rfl
theorem exOp_index {t' x' i'} (d : Option Tmp) (ty : TypeId) (pos : String) (af : Array Edge) (g : Option (Nat × Bool)) (s : St) : exOp X C f ⟨d, .index t' x' i', ty, pos, af, g⟩ s = bnd (exPure X.ty (d.bind (X.slot f)) (.index t' x' i') s) (putK d) := rfl
theorem exOp_extract {x' i'} (d : Option Tmp) (ty : TypeId) (pos : String) (af : Array Edge) (g : Option (Nat × Bool)) (s : St) : exOp X C f ⟨d, .extract x' i', ty, pos, af, g⟩ s = bnd (exPure X.ty (d.bind (X.slot f)) (.extract x' i') s) (putK d) := rfl
theorem exOp_builtin {b' as' ts'} (d : Option Tmp) (ty : TypeId) (pos : String) (af : Array Edge) (g : Option (Nat × Bool)) (s : St) : exOp X C f ⟨d, .call ⟨.builtin b', as', ts'⟩, ty, pos, af, g⟩ s = bnd (exPure X.ty (d.bind (X.slot f)) (.call ⟨.builtin b', as', ts'⟩) s) (putK d) := rfl
def callK (d : Option Tmp) (s : St) (p : V × Heap) : Option St := some ({ s with h := p.2 }.put d (.v p.1))
theorem callK_eq (d : Option Tmp) (e : List TV) (l : Locs) (h h' : Heap) (v : V) : callK d ⟨e, l, h⟩ (v, h') = some ((⟨e, l, h'⟩ : St).put d (.v v)) := rfl
theorem exOp_call {g' as' ts'} (d : Option Tmp) (ty : TypeId) (pos : String) (af : Array Edge) (g : Option (Nat × Bool)) (s : St) :
    exOp X C f ⟨d, .call ⟨.value g', as', ts'⟩, ty, pos, af, g⟩ s = (match opd s.e g' with | .v fv => bnd (allV (as'.toList.map (opd s.e))) fun vs => bnd (C fv vs s.h) (callK d s) | _ => none) := rfl
def leadK (X : Env) (C : CallSem) (f : FuncId) (sl : List Nat) (o : Oper) (s : St) : Bool -> Option St
  | true => cond (leadsT s.e sl o.op.operands.toList) (exOp X C f o s) none
  | false => some (s.put o.dst .u)
theorem leadK_t (sl : List Nat) (o : Oper) (s : St) : leadK X C f sl o s true = cond (leadsT s.e sl o.op.operands.toList) (exOp X C f o s) none := rfl
theorem leadK_f (sl : List Nat) (o : Oper) (s : St) : leadK X C f sl o s false = some (s.put o.dst .u) := rfl
def lookK (X : Env) (C : CallSem) (f : FuncId) (ops : List Oper) (re : List (Nat × List Nat)) (r : List PE) (s : St) : Option St := cond (re.all (again X ops s)) (exPlan X C f ops r s) none
theorem lookK_nil (ops : List Oper) (r : List PE) (s : St) : lookK X C f ops [] r s = exPlan X C f ops r s := rfl
theorem lookK_cons (ops : List Oper) (j : Nat × List Nat) (re : List (Nat × List Nat)) (r : List PE) (s : St) :
    lookK X C f ops (j :: re) r s = cond (again X ops s j) (lookK X C f ops re r s) none := by
  unfold lookK
  simp only [List.all_cons]
  cases again X ops s j <;> rfl
def entryK (X : Env) (C : CallSem) (f : FuncId) (ops : List Oper) (sl : List Nat) (re : List (Nat × List Nat)) (r : List PE) (s : St) : Option Oper -> Option St
  | some o => bnd (bnd (wantedT ops s.e o.guard) (leadK X C f sl o s)) (lookK X C f ops re r)
  | none => none
theorem entryK_eq (ops : List Oper) (sl : List Nat) (re : List (Nat × List Nat)) (r : List PE) (s : St) (o : Oper) :
    entryK X C f ops sl re r s (some o) = bnd (bnd (wantedT ops s.e o.guard) (leadK X C f sl o s)) (lookK X C f ops re r) := rfl
theorem exPlan_nil (ops : List Oper) (s : St) : exPlan X C f ops [] s = some s := rfl
theorem exPlan_cons (ops : List Oper) (i : Nat) (sl : List Nat) (re : List (Nat × List Nat)) (r : List PE) (s : St) :
    exPlan X C f ops ((i, sl, re) :: r) s = entryK X C f ops sl re r s ops[i]? := by
  simp only [exPlan]
  cases ops[i]? with
  | none => rfl
  | some o =>
    simp only [entryK]
    cases wantedT ops s.e o.guard with
    | none => rfl
    | some b =>
      cases b with
      | false =>
        simp only [bnd,cnd,leadK,lookK]
        cases re.all (again X ops (s.put o.dst .u)) <;> rfl
      | true =>
        simp only [bnd,cnd,leadK]
        cases leadsT s.e sl o.op.operands.toList with
        | false => rfl
        | true =>
          simp only [cond_true]
          cases exOp X C f o s with
          | none => rfl
          | some s1 =>
            simp only [lookK]
            cases re.all (again X ops s1) <;> rfl
def seqK (X : Env) (C : CallSem) (L : LoopSem) (f : FuncId) (b : Code) (k : Ex -> St -> Option R) : Ex -> St -> Option R
  | .normal, s => evC X C L f b s k
  | x, s => k x s
theorem seqK_n (b : Code) (k : Ex -> St -> Option R) (s : St) : seqK X C L f b k .normal s = evC X C L f b s k := rfl
theorem seqK_e (b : Code) (k : Ex -> St -> Option R) (id : Nat) (s : St) : seqK X C L f b k (.exit id) s = k (.exit id) s := rfl
theorem seqK_r (b : Code) (k : Ex -> St -> Option R) (s : St) : seqK X C L f b k .ret s = k .ret s := rfl
def blockK (id : Nat) (k : Ex -> St -> Option R) : Ex -> St -> Option R
  | .exit id', s => cnd (decide (id' = id)) (k .normal s) (k (.exit id') s)
  | x, s => k x s
theorem blockK_n (id : Nat) (k : Ex -> St -> Option R) (s : St) : blockK id k .normal s = k .normal s := rfl
theorem blockK_r (id : Nat) (k : Ex -> St -> Option R) (s : St) : blockK id k .ret s = k .ret s := rfl
theorem blockK_e (id id' : Nat) (k : Ex -> St -> Option R) (s : St) : blockK id k (.exit id') s = cnd (decide (id' = id)) (k .normal s) (k (.exit id') s) := rfl
theorem evC_skip (s : St) (k : Ex -> St -> Option R) : evC X C L f .skip s k = k .normal s := rfl
theorem evC_label (l : Nat) (s : St) (k : Ex -> St -> Option R) : evC X C L f (.label l) s k = k .normal s := rfl
theorem evC_exit (id : Nat) (s : St) (k : Ex -> St -> Option R) : evC X C L f (.exit id) s k = k (.exit id) s := rfl
theorem evC_ret (s : St) (k : Ex -> St -> Option R) : evC X C L f .ret s k = k .ret s := rfl
theorem evC_seq (a b : Code) (s : St) (k : Ex -> St -> Option R) : evC X C L f (.seq a b) s k = evC X C L f a s (seqK X C L f b k) := by
  simp only [evC]
  congr 1
  funext x s'
  cases x <;> rfl
theorem evC_block (id : Nat) (c : Code) (s : St) (k : Ex -> St -> Option R) : evC X C L f (.block id c) s k = evC X C L f c s (blockK id k) := by
  simp only [evC]
  congr 1
  funext x s'
  cases x <;> rfl
theorem evC_scope (c : Code) (s : St) (k : Ex -> St -> Option R) : evC X C L f (.scope c) s k = evC X C L f c s k := rfl
theorem evC_region (id : Nat) (ops : List Oper) (s : St) (k : Ex -> St -> Option R) : evC X C L f (.region id ⟨ops⟩ false) s k = bnd (exOps X C f ops ops s) (k .normal) := rfl
theorem evC_plan (id : Nat) (ops : List Oper) (s : St) (k : Ex -> St -> Option R) : evC X C L f (.region id ⟨ops⟩ true) s k = bnd (exPlan X C f ops (X.plan f id) s) (k .normal) := rfl
def brK (X : Env) (C : CallSem) (L : LoopSem) (f : FuncId) (t e : Code) (s : St) (k : Ex -> St -> Option R) : TV -> Option R
  | .v (.bool b) => cnd b (evC X C L f t s k) (evC X C L f e s k)
  | _ => none
theorem evC_cond (c : Operand) (t e : Code) (s : St) (k : Ex -> St -> Option R) : evC X C L f (.cond c t e) s k = brK X C L f t e s k (opd s.e c) := rfl
def loopK (k : Ex -> St -> Option R) (p : Ex × St) : Option R := k p.1 p.2
theorem evC_loop (c : Code) (s : St) (k : Ex -> St -> Option R) : evC X C L f (.loop c) s k = bnd (L c s) (loopK k) := rfl
theorem loopK_eq (k : Ex -> St -> Option R) (x : Ex) (s : St) : loopK k (x, s) = k x s := rfl
def resK (X : Env) (rs : List ResultVar) : Ex -> St -> Option (V × Heap)
  | .exit _, _ => none
  | _, s => bnd (results X s rs) fun vs => some (resV vs, s.h)
theorem resK_n (rs : List ResultVar) (s : St) : resK X rs .normal s = bnd (results X s rs) fun vs => some (resV vs, s.h) := rfl
theorem resK_r (rs : List ResultVar) (s : St) : resK X rs .ret s = bnd (results X s rs) fun vs => some (resV vs, s.h) := rfl
theorem evBody_eq {Lf : FuncId -> LoopSem} {c : Code} {n : Nat} {rs : List ResultVar} (hb : X.body f = some (c, n, rs)) (args : List V) (h : Heap) :
    evBody X C Lf f args h = evC X C (Lf f) f c ⟨args.map .v ++ List.replicate (n - args.length) .u, List.replicate (X.nslots f) (0, []), h⟩ (resK X rs) := by
  unfold evBody
  rw [hb]
  dsimp only
  congr 1
  funext x s
  cases x <;> rfl
def loopE (again : LoopSem) (c : Code) : Ex -> St -> Option (Ex × St)
  | .normal, s => again c s
  | x, s => some (x, s)
theorem loopBody_eq (again : LoopSem) (c : Code) (s : St) : loopBody X C L again f c s = evC X C L f c s (loopE again c) := by
  unfold loopBody
  congr 1
  funext x s'
  cases x <;> rfl
end
end Go.Ev
namespace Go.Ev
theorem itT {α : Type} {a b : α} [Decidable True] : (if True then a else b) = a := if_pos trivial
theorem itF {α : Type} {a b : α} [Decidable False] : (if False then a else b) = b := if_neg id
theorem beq_f (b : Bool) : (b == false) = !b := by cases b <;> rfl
theorem beq_t (b : Bool) : (b == true) = b := by cases b <;> rfl
theorem wrap_i64 {e : Int} (h : -9223372036854775808 <= e /\ e < 9223372036854775808) : IntKind.i64.wrap e = e := by
  simp only [IntKind.wrap,IntKind.signed,IntKind.bits]
  simp
  omega
def Ok {α : Type} (x : Option α) (Q : α -> Prop) : Prop := ∃ r, x = some r /\ Q r
theorem ok_some {α : Type} (r : α) (Q : α -> Prop) : Ok (some r) Q = Q r := by
  simp [Ok]
theorem Ok.ret {α : Type} {r : α} {Q : α -> Prop} (h : Q r) : Ok (some r) Q := ⟨r, rfl, h⟩
theorem Ok.mono {α : Type} {x : Option α} {P Q : α -> Prop} (h : Ok x P) (k : ∀ r, P r -> Q r) : Ok x Q := let ⟨r, e, p⟩ := h; ⟨r, e, k r p⟩
theorem Ok.eq {α : Type} {x : Option α} {r : α} (h : Ok x (fun y => y = r)) : x = some r := by obtain ⟨y, e, rfl⟩ := h; exact e
theorem Ok.of {α : Type} {x : Option α} {r : α} {Q : α -> Prop} (h : x = some r) (k : Q r) : Ok x Q := ⟨r, h, k⟩
theorem Ok.bnd {α β : Type} {x : Option α} {P : α -> Prop} {k : α -> Option β} {Q : β -> Prop} (h : Ok x P) (hk : ∀ a, P a -> Ok (k a) Q) : Ok (Ev.bnd x k) Q := by
  obtain ⟨a, rfl, pa⟩ := h
  exact hk a pa
theorem Ok.bnd2 {α β γ : Type} {x : Option (α × γ)} {P : α × γ -> Prop} {k : α × γ -> Option β} {Q : β -> Prop} (h : Ok x P) (hk : ∀ a c, P (a, c) -> Ok (k (a, c)) Q) : Ok (Ev.bnd x k) Q :=
  Ok.bnd h fun a pa => hk a.1 a.2 pa
theorem Ok.aim {α : Type} {x : Option α} {P : α -> Prop} (h : ∀ Q : α -> Prop, (∀ r, P r -> Q r) -> Ok x Q) : Ok x P := h P fun _ p => p
def thenK {α β γ : Type} (k1 : α -> Option β) (k2 : β -> Option γ) (a : α) : Option γ := bnd (k1 a) k2
theorem thenK_eq {α β γ : Type} (k1 : α -> Option β) (k2 : β -> Option γ) (a : α) : thenK k1 k2 a = bnd (k1 a) k2 := rfl
theorem bnd_bnd {α β γ : Type} (x : Option α) (k1 : α -> Option β) (k2 : β -> Option γ) : bnd (bnd x k1) k2 = bnd x (thenK k1 k2) := by
  cases x <;> rfl
section
variable {X : Env} {C : CallSem} {L : LoopSem} {f : FuncId} {R : Type}
theorem brK_t (t e : Code) (s : St) (k : Ex -> St -> Option R) : brK X C L f t e s k (.v (.bool true)) = evC X C L f t s k := rfl
theorem brK_f (t e : Code) (s : St) (k : Ex -> St -> Option R) : brK X C L f t e s k (.v (.bool false)) = evC X C L f e s k := rfl
theorem Ok.br {t e : Code} {s : St} {k : Ex -> St -> Option R} {b : Bool} {Q : R -> Prop} (ht : b = true -> Ok (evC X C L f t s k) Q) (hf : b = false -> Ok (evC X C L f e s k) Q) : Ok (brK X C L f t e s k (.v (.bool b))) Q := by
  cases b
  · exact hf rfl
  · exact ht rfl
theorem Ok.gd {o : Oper} {s : St} {k : St -> Option R} {b : Bool} {Q : R -> Prop} (ht : b = true -> Ok (Ev.bnd (exOp X C f o s) k) Q) (hf : b = false -> Ok (Ev.bnd (some (s.put o.dst .u)) k) Q) : Ok (Ev.bnd (stepK X C f o s b) k) Q := by
  cases b
  · exact hf rfl
  · exact ht rfl
theorem Ok.ld {sl : List Nat} {o : Oper} {s : St} {k : St -> Option R} {b : Bool} {Q : R -> Prop} (ht : b = true -> Ok (Ev.bnd (_root_.cond (leadsT s.e sl o.op.operands.toList) (exOp X C f o s) none) k) Q) (hf : b = false -> Ok (Ev.bnd (some (s.put o.dst .u)) k) Q) : Ok (Ev.bnd (leadK X C f sl o s b) k) Q := by
  cases b
  · exact hf rfl
  · exact ht rfl
theorem Ok.cnd {α : Type} {b : Bool} {x y : Option α} {Q : α -> Prop} (ht : b = true -> Ok x Q) (hf : b = false -> Ok y Q) : Ok (Ev.cnd b x y) Q := by
  cases b
  · exact hf rfl
  · exact ht rfl
theorem Ok.grd {α : Type} {c : Prop} [Decidable c] {x : Option α} {Q : α -> Prop} (hc : c) (h : Ok x Q) : Ok (Ev.grd c x) Q := by
  rw [grd_t hc]; exact h
end
theorem Ok.body {X : Env} {f : FuncId} {c : Code} {n : Nat} {rs : List ResultVar} (hb : X.body f = some (c, n, rs)) (hp : X.pin f = none) {cap args : List V} {h : Heap} {Q : V × Heap -> Prop}
    (hh : Ok (evC X (D X) (Lo X f) f c ⟨(args ++ cap).map .v ++ List.replicate (n - (args ++ cap).length) .u, List.replicate (X.nslots f) (0, []), h⟩ (resK X rs)) Q) : Ok (D X (.fn f cap) args h) Q := by
  obtain ⟨r, e, q⟩ := hh
  exact ⟨r, D_fn hp (by rw [evBody_eq hb]; exact e), q⟩
theorem callops_v (g : Operand) (as0 : Array Operand) (ts : Array TypeId) : (Call.mk (.value g) as0 ts).operands.toList = g :: as0.toList := by simp [Call.operands]
theorem callops_b (b : Builtin) (as0 : Array Operand) (ts : Array TypeId) : (Call.mk (.builtin b) as0 ts).operands.toList = as0.toList := by simp [Call.operands]
def veqM (T : TypeId -> TI) (d : Nat) (ti : TI) (x y : V) : Option Bool :=
  match ti.desc, x, y with
  | .int _, .int k a, .int k' b => grd (k = k') (some (decide (a = b)))
  | .str, .str a, .str b => some (strEq a b)
  | .bool, .bool a, .bool b => some (a == b)
  | .ptr _, .nilp, .nilp => some true
  | .ptr _, .nilp, .ptr _ _ _ => some false
  | .ptr _, .ptr _ _ _, .nilp => some false
  | .slice _, .sl .nil _ _ _, .sl .nil _ _ _ => some true
  | .slice _, .sl .nil _ _ _, .sl (.at _ _ _) _ _ _ => some false
  | .slice _, .sl .nil _ _ _, .sl .any _ _ _ => some false
  | .slice _, .sl (.at _ _ _) _ _ _, .sl .nil _ _ _ => some false
  | .slice _, .sl .any _ _ _, .sl .nil _ _ _ => some false
  | .map _ _, .nilm, .nilm => some true
  | .map _ _, .nilm, .map _ => some false
  | .map _ _, .map _, .nilm => some false
  | .func, .nilFn, .nilFn => some true
  | .func, .nilFn, .fn _ _ => some false
  | .func, .fn _ _, .nilFn => some false
  | .struct fs, .agg xs, .agg ys => cnd ti.eqok (fs.foldr (fun p acc => bnd (rd xs p.1 (T p.2)) fun a => bnd (rd ys p.1 (T p.2)) fun b => bnd (veq T d p.2 a b) fun r => cnd r acc (some false)) (some true)) none
  | .arr n e, .agg xs, .agg ys => cnd ti.eqok ((List.range n).foldr (fun i acc => bnd (rd xs (i * (T e).size) (T e)) fun a => bnd (rd ys (i * (T e).size) (T e)) fun b => bnd (veq T d e a b) fun r => cnd r acc (some false)) (some true)) none
  | _, _, _ => none
section
variable (T : TypeId -> TI) (d : Nat)
theorem veq_eq (t : TypeId) (x y : V) : veq T (d + 1) t x y = veqM T d (T t) x y := by unfold veq veqM; rfl
def veqF (xs ys : List V) (fs : List (Nat × TypeId)) : Option Bool := fs.foldr (fun p acc => bnd (rd xs p.1 (T p.2)) fun a => bnd (rd ys p.1 (T p.2)) fun b => bnd (veq T d p.2 a b) fun r => cnd r acc (some false)) (some true)
def veqA (e : TypeId) (xs ys : List V) (l : List Nat) : Option Bool := l.foldr (fun i acc => bnd (rd xs (i * (T e).size) (T e)) fun a => bnd (rd ys (i * (T e).size) (T e)) fun b => bnd (veq T d e a b) fun r => cnd r acc (some false)) (some true)
def partK (t : TypeId) (acc : Option Bool) : Option V -> Option V -> Option Bool
  | some a, some b => bnd (veq T d t a b) fun r => cnd r acc (some false)
  | _, _ => none
theorem partK_eq (t : TypeId) (acc : Option Bool) (a b : V) : partK T d t acc (some a) (some b) = bnd (veq T d t a b) fun r => cnd r acc (some false) := rfl
theorem veqF_nil (xs ys : List V) : veqF T d xs ys [] = some true := rfl
theorem veqF_cons (xs ys : List V) (o : Nat) (t : TypeId) (r : List (Nat × TypeId)) : veqF T d xs ys ((o, t) :: r) = partK T d t (veqF T d xs ys r) (rd xs o (T t)) (rd ys o (T t)) := by
  show bnd (rd xs o (T t)) (fun a => bnd (rd ys o (T t)) fun b => bnd (veq T d t a b) fun q => cnd q (veqF T d xs ys r) (some false)) = _
  cases rd xs o (T t) <;> cases rd ys o (T t) <;> rfl
theorem veqA_nil (e : TypeId) (xs ys : List V) : veqA T d e xs ys [] = some true := rfl
theorem veqA_cons (e : TypeId) (xs ys : List V) (i : Nat) (r : List Nat) : veqA T d e xs ys (i :: r) = partK T d e (veqA T d e xs ys r) (rd xs (i * (T e).size) (T e)) (rd ys (i * (T e).size) (T e)) := by
  show bnd (rd xs (i * (T e).size) (T e)) (fun a => bnd (rd ys (i * (T e).size) (T e)) fun b => bnd (veq T d e a b) fun q => cnd q (veqA T d e xs ys r) (some false)) = _
  cases rd xs (i * (T e).size) (T e) <;> cases rd ys (i * (T e).size) (T e) <;> rfl
variable (s b : Nat) (z : List V)
theorem veqM_int (k : IntKind) (q : Bool) (k1 k2 : IntKind) (m n : Int) : veqM T d ⟨.int k, s, b, z, q⟩ (.int k1 m) (.int k2 n) = grd (k1 = k2) (some (decide (m = n))) := rfl
theorem veqM_str (q : Bool) (m n : ByteArray) : veqM T d ⟨.str, s, b, z, q⟩ (.str m) (.str n) = some (strEq m n) := rfl
theorem veqM_bool (q : Bool) (m n : Bool) : veqM T d ⟨.bool, s, b, z, q⟩ (.bool m) (.bool n) = some (m == n) := rfl
theorem veqM_p1 (e : TypeId) (q : Bool) : veqM T d ⟨.ptr e, s, b, z, q⟩ .nilp .nilp = some true := rfl
theorem veqM_p2 (e : TypeId) (q : Bool) (m n o : Nat) : veqM T d ⟨.ptr e, s, b, z, q⟩ .nilp (.ptr m n o) = some false := rfl
theorem veqM_p3 (e : TypeId) (q : Bool) (m n o : Nat) : veqM T d ⟨.ptr e, s, b, z, q⟩ (.ptr m n o) .nilp = some false := rfl
theorem veqM_s1 (e : TypeId) (q : Bool) (l c y l' c' y' : Nat) : veqM T d ⟨.slice e, s, b, z, q⟩ (.sl .nil l c y) (.sl .nil l' c' y') = some true := rfl
theorem veqM_s2 (e : TypeId) (q : Bool) (m n o l c y l' c' y' : Nat) : veqM T d ⟨.slice e, s, b, z, q⟩ (.sl .nil l c y) (.sl (.at m n o) l' c' y') = some false := rfl
theorem veqM_s3 (e : TypeId) (q : Bool) (l c y l' c' y' : Nat) : veqM T d ⟨.slice e, s, b, z, q⟩ (.sl .nil l c y) (.sl .any l' c' y') = some false := rfl
theorem veqM_s4 (e : TypeId) (q : Bool) (m n o l c y l' c' y' : Nat) : veqM T d ⟨.slice e, s, b, z, q⟩ (.sl (.at m n o) l c y) (.sl .nil l' c' y') = some false := rfl
theorem veqM_s5 (e : TypeId) (q : Bool) (l c y l' c' y' : Nat) : veqM T d ⟨.slice e, s, b, z, q⟩ (.sl .any l c y) (.sl .nil l' c' y') = some false := rfl
theorem veqM_m1 (k e : TypeId) (q : Bool) : veqM T d ⟨.map k e, s, b, z, q⟩ .nilm .nilm = some true := rfl
theorem veqM_m2 (k e : TypeId) (q : Bool) (m : Nat) : veqM T d ⟨.map k e, s, b, z, q⟩ .nilm (.map m) = some false := rfl
theorem veqM_m3 (k e : TypeId) (q : Bool) (m : Nat) : veqM T d ⟨.map k e, s, b, z, q⟩ (.map m) .nilm = some false := rfl
theorem veqM_f1 (q : Bool) : veqM T d ⟨.func, s, b, z, q⟩ .nilFn .nilFn = some true := rfl
theorem veqM_f2 (q : Bool) (f : FuncId) (c : List V) : veqM T d ⟨.func, s, b, z, q⟩ .nilFn (.fn f c) = some false := rfl
theorem veqM_f3 (q : Bool) (f : FuncId) (c : List V) : veqM T d ⟨.func, s, b, z, q⟩ (.fn f c) .nilFn = some false := rfl
theorem veqM_struct (fs : List (Nat × TypeId)) (xs ys : List V) : veqM T d ⟨.struct fs, s, b, z, true⟩ (.agg xs) (.agg ys) = veqF T d xs ys fs := rfl
theorem veqM_arr (n : Nat) (e : TypeId) (xs ys : List V) : veqM T d ⟨.arr n e, s, b, z, true⟩ (.agg xs) (.agg ys) = veqA T d e xs ys (List.range n) := rfl
end
theorem cnd_and (b c : Bool) : cnd b (some c) (some false) = some (b && c) := by cases b <;> rfl
structure Hid (P : Prop) : Prop where
  out : P
def tv (e : List TV) (i : Nat) : TV := e.getD i .u
def mask : List Bool -> List TV -> List TV
  | b :: m, v :: e => cond b .u v :: mask m e
  | [], e => e
  | _ :: _, [] => []
def OutW (W : List Bool) (e0 e : List TV) : Prop := mask W e = mask W e0
theorem OutW.refl (W : List Bool) (e : List TV) : OutW W e e := rfl
def spread : List Bool -> List TV -> List TV -> Nat -> List TV
  | b :: m, v :: e0, e, i => cond b (tv e i) v :: spread m e0 e (i + 1)
  | [], e0, _, _ => e0
  | _ :: _, [], _, _ => []
theorem spread_t (m : List Bool) (v : TV) (e0 e : List TV) (i : Nat) : spread (true :: m) (v :: e0) e i = tv e i :: spread m e0 e (i + 1) := rfl
theorem spread_f (m : List Bool) (v : TV) (e0 e : List TV) (i : Nat) : spread (false :: m) (v :: e0) e i = v :: spread m e0 e (i + 1) := rfl
theorem spread_n (e0 e : List TV) (i : Nat) : spread [] e0 e i = e0 := rfl
theorem spread_of : ∀ (W : List Bool) (e0 e pre : List TV), mask W e = mask W e0 -> e = spread W e0 (pre ++ e) pre.length
  | [], e0, e, pre, h => by simpa [mask, spread] using h
  | b :: m, [], [], pre, h => rfl
  | b :: m, [], v :: e, pre, h => by simp [mask] at h
  | b :: m, v :: e0, [], pre, h => by simp [mask] at h
  | b :: m, v0 :: e0, v :: e, pre, h => by
    simp only [mask,List.cons.injEq] at h
    have ih := spread_of m e0 e (pre ++ [v]) h.2
    simp only [List.append_assoc,List.cons_append,List.nil_append,List.length_append,List.length_cons,List.length_nil] at ih
    simp only [spread]
    rw [Nat.zero_add] at ih
    rw [<- ih]
    cases b with
    | true => simp [tv]
    | false =>
      have h1 : v = v0 := h.1
      rw [h1]; rfl
theorem OutW.spread {W : List Bool} {e0 e : List TV} (h : OutW W e0 e) : e = spread W e0 e 0 := spread_of W e0 e [] h
def stopK (x : Ex) (s : St) : Option (Ex × St) := some (x, s)
theorem stopK_eq (x : Ex) (s : St) : stopK x s = some (x, s) := rfl
section
variable {X : Env} {C : CallSem} {L : LoopSem} {f : FuncId} {R : Type}
theorem bnd_congr {α β : Type} {x : Option α} {k k' : α -> Option β} (h : ∀ a, k a = k' a) : bnd x k = bnd x k' := by
  cases x
  · rfl
  · exact h _
theorem bnd_assoc {α β γ : Type} (x : Option α) (k1 : α -> Option β) (k2 : β -> Option γ) : bnd (bnd x k1) k2 = bnd x fun a => bnd (k1 a) k2 := by
  cases x <;> rfl
theorem cnd_bnd {α β : Type} (b : Bool) (x y : Option α) (k : α -> Option β) : bnd (cnd b x y) k = cnd b (bnd x k) (bnd y k) := by cases b <;> rfl
theorem grd_bnd {α β : Type} (c : Prop) [Decidable c] (x : Option α) (k : α -> Option β) : bnd (grd c x) k = grd c (bnd x k) := by unfold grd; split <;> rfl
theorem endRF_stop (k : Ex -> St -> Option R) (e : List TV) (l : Nat) (h : Heap) : endRF k e l h = bnd (endRF stopK e l h) fun p => k p.1 p.2 := by
  unfold endRF
  split
  · rw [grd_bnd]
    split <;> rfl
  · rfl
theorem evC_stop : ∀ (c : Code) {R : Type} (s : St) (k : Ex -> St -> Option R), evC X C L f c s k = bnd (evC X C L f c s stopK) fun p => k p.1 p.2 := by
  intro c
  induction c with
  | skip => intro R s k; rfl
  | label l => intro R s k; rfl
  | exit id => intro R s k; rfl
  | ret => intro R s k; rfl
  | goto l => intro R s k; rfl
  | refuse w => intro R s k; rfl
  | scope c ih => intro R s k; exact ih s k
  | region id ops draw =>
    intro R s k
    simp only [evC]
    rw [cnd_bnd, bnd_assoc, bnd_assoc]
    rfl
  | seq a b iha ihb =>
    intro R s k
    rw [evC_seq, evC_seq, iha s (seqK X C L f b k), iha s (seqK X C L f b stopK), bnd_assoc]
    refine bnd_congr fun p => ?_
    obtain ⟨x, s'⟩ := p
    cases x with
    | normal => exact ihb s' k
    | exit id => rfl
    | ret => rfl
  | cond o a b iha ihb =>
    intro R s k
    simp only [evC]
    split
    · rw [cnd_bnd, <- iha, <- ihb]
    · rfl
  | block id c ih =>
    intro R s k
    rw [evC_block, evC_block, ih s (blockK id k), ih s (blockK id stopK), bnd_assoc]
    refine bnd_congr fun p => ?_
    obtain ⟨x, s'⟩ := p
    cases x with
    | normal => rfl
    | exit id' => dsimp only [blockK]; rw [cnd_bnd]; rfl
    | ret => rfl
  | loop c _ =>
    intro R s k
    simp only [evC]
    rw [bnd_assoc]
    rfl
  | rangeFunc g ps a b _ _ =>
    intro R s k
    simp only [evC]
    split
    · rw [bnd_assoc]
      refine bnd_congr fun p => ?_
      exact endRF_stop _ _ _ _
    · rfl
end
def Turn (I : Nat -> St -> Prop) (E : Ex -> St -> Prop) (n : Nat) (p : Ex × St) : Prop :=
  match p.1 with
  | .normal => ∃ m, m < n /\ I m p.2
  | x => E x p.2
theorem Turn.next {I : Nat -> St -> Prop} {E : Ex -> St -> Prop} {n : Nat} {s : St} (m : Nat) (hm : m < n) (h : I m s) : Turn I E n (.normal, s) := ⟨m, hm, h⟩
theorem Turn.exit {I : Nat -> St -> Prop} {E : Ex -> St -> Prop} {n id : Nat} {s : St} (h : E (.exit id) s) : Turn I E n (.exit id, s) := h
theorem Turn.ret {I : Nat -> St -> Prop} {E : Ex -> St -> Prop} {n : Nat} {s : St} (h : E .ret s) : Turn I E n (.ret, s) := h
theorem Lo_ok {X : Env} {f : FuncId} {c : Code} {I : Nat -> St -> Prop} {E : Ex -> St -> Prop}
    (hs : ∀ n s, I n s -> Ok (evC X (D X) (Lo X f) f c s stopK) (Turn I E n)) : ∀ (n : Nat) (s : St), I n s -> Ok (Lo X f c s) fun p => E p.1 p.2 := by
  intro n
  induction n using Nat.strongRecOn with
  | _ n ih =>
    intro s hi
    obtain ⟨⟨x, s'⟩, e, q⟩ := hs n s hi
    have hb : loopBody X (D X) (Lo X f) (Lo X f) f c s = loopE (Lo X f) c x s' := by
      rw [loopBody_eq, evC_stop, e]; rfl
    cases x with
    | normal =>
      obtain ⟨m, hm, hi'⟩ := q
      obtain ⟨r, e', q'⟩ := ih m hm s' hi'
      exact ⟨r, Lo_of (by rw [hb]; exact e'), q'⟩
    | exit id => exact ⟨(.exit id, s'), Lo_of (by rw [hb]; rfl), q⟩
    | ret => exact ⟨(.ret, s'), Lo_of (by rw [hb]; rfl), q⟩
theorem Ok.loop {X : Env} {f : FuncId} {c : Code} {R : Type} {k : Ex × St -> Option R} {Q : R -> Prop} (W : List Bool) (I : Nat -> St -> Prop) (E : Ex -> St -> Prop) (n : Nat) {s : St} (hi : I n s)
    (hs : ∀ n s', OutW W s.e s'.e -> I n s' -> Ok (evC X (D X) (Lo X f) f c s' stopK) (Turn (fun m s' => OutW W s.e s'.e /\ I m s') (fun x s' => OutW W s.e s'.e /\ E x s') n))
    (hk : ∀ x s', OutW W s.e s'.e -> E x s' -> Ok (k (x, s')) Q) : Ok (Ev.bnd (Lo X f c s) k) Q := by
  refine Ok.bnd2 (Lo_ok (I := fun m s' => OutW W s.e s'.e /\ I m s') (E := fun x s' => OutW W s.e s'.e /\ E x s') (fun n s' h => hs n s' h.1 h.2) n s ⟨.refl W s.e, hi⟩) fun x s' h => hk x s' h.1 h.2
end Go.Ev
namespace Go.Ev
theorem nat_cast_0 : ((0 : Nat) : Int) = 0 := rfl
theorem nat_cast_1 : ((1 : Nat) : Int) = 1 := rfl
theorem arr_empty {α : Type} : (#[] : Array α).isEmpty = true := rfl
theorem reps_0 (z : List V) : reps 0 z = [] := by simp [reps]
theorem reps_1 (z : List V) : reps 1 z = z := by simp [reps]
noncomputable def unrK (X : Env) (f : FuncId) (c : Code) {R : Type} (k : Ex × St -> Option R) : Ex -> St -> Option R
  | .normal, s => bnd (Lo X f c s) k
  | x, s => k (x, s)
section
variable {X : Env} {f : FuncId} {c : Code} {R : Type}
theorem unrK_n (k : Ex × St -> Option R) (s : St) : unrK X f c k .normal s = bnd (Lo X f c s) k := rfl
theorem unrK_e (k : Ex × St -> Option R) (id : Nat) (s : St) : unrK X f c k (.exit id) s = k (.exit id, s) := rfl
theorem unrK_r (k : Ex × St -> Option R) (s : St) : unrK X f c k .ret s = k (.ret, s) := rfl
theorem Ok.unroll {k : Ex × St -> Option R} {s : St} {Q : R -> Prop} (h : Ok (evC X (D X) (Lo X f) f c s (unrK X f c k)) Q) : Ok (Ev.bnd (Lo X f c s) k) Q := by
  obtain ⟨r, e, q⟩ := h
  rw [evC_stop] at e
  obtain ⟨⟨x, s'⟩, e1, e2⟩ := bnd_get e
  have hb : loopBody X (D X) (Lo X f) (Lo X f) f c s = loopE (Lo X f) c x s' := by
    rw [loopBody_eq, evC_stop, e1]; rfl
  cases x with
  | normal =>
    obtain ⟨p, e3, e4⟩ := bnd_get (x := Lo X f c s') e2
    exact ⟨r, by rw [Lo_of (hb.trans e3)]; exact e4, q⟩
  | exit id => exact ⟨r, by rw [Lo_of (hb.trans rfl)]; exact e2, q⟩
  | ret => exact ⟨r, by rw [Lo_of (hb.trans rfl)]; exact e2, q⟩
end
theorem hcells_lt {h : Heap} {b g : Nat} {p : Bool × List V} (e : hcells h b g = some p) : b < h.length := by
  unfold hcells at e
  cases hx : h[b]? with
  | none => rw [hx] at e; cases e
  | some y => exact (List.getElem?_eq_some_iff.1 hx).1
theorem hcells_set_ne {h : Heap} {b l g : Nat} {x : Blk} (e : b ≠ l) : hcells (h.set l x) b g = hcells h b g := by
  unfold hcells; rw [List.getElem?_set_ne (Ne.symm e)]
theorem hcells_set_eq {h : Heap} {l g : Nat} {k : Bool} {c : List V} (e : l < h.length) : hcells (h.set l (.cells g k c)) l g = some (k, c) := by
  unfold hcells; rw [List.getElem?_set_self e]; exact grd_t rfl _
theorem hcells_app {h : Heap} {l : List Blk} {b g : Nat} (hb : b < h.length) : hcells (h ++ l) b g = hcells h b g := by
  unfold hcells; rw [List.getElem?_append_left hb]
theorem hcells_ge {h l : Heap} {i g : Nat} (e : h.length <= i) : hcells (h ++ l) i g = hcells l (i - h.length) g := by
  unfold hcells; rw [List.getElem?_append_right e]
theorem hcells_c0 {l : Heap} {g g' : Nat} {k : Bool} {c : List V} : hcells (.cells g' k c :: l) 0 g = grd (g' = g) (some (k, c)) := rfl
theorem hcells_cs {l : Heap} {x : Blk} {i g : Nat} : hcells (x :: l) (i + 1) g = hcells l i g := rfl
theorem heap_set_ge {h l : Heap} {i : Nat} {x : Blk} (e : h.length <= i) : (h ++ l).set i x = h ++ l.set (i - h.length) x := List.set_append_right _ _ e
theorem heap_set_lt {h l : Heap} {i : Nat} {x : Blk} (e : i < h.length) : (h ++ l).set i x = h.set i x ++ l := List.set_append_left _ _ e
def Keeps (F : List Nat) (h h' : Heap) : Prop := h.length <= h'.length /\ ∀ b, b < h.length -> b ∉ F -> h'[b]? = h[b]?
theorem Keeps.refl (F : List Nat) (h : Heap) : Keeps F h h := ⟨Nat.le_refl _, fun _ _ _ => rfl⟩
theorem Keeps.trans {F : List Nat} {a b c : Heap} (h : Keeps F a b) (k : Keeps F b c) : Keeps F a c :=
  ⟨Nat.le_trans h.1 k.1, fun i hi hF => (k.2 i (Nat.lt_of_lt_of_le hi h.1) hF).trans (h.2 i hi hF)⟩
theorem Keeps.mono {F G : List Nat} {a b : Heap} (h : Keeps F a b) (hs : ∀ i, i < a.length -> i ∈ F -> i ∈ G) : Keeps G a b := ⟨h.1, fun i hi hG => h.2 i hi fun hF => hG (hs i hi hF)⟩
theorem Keeps.app (F : List Nat) (h : Heap) (l : List Blk) : Keeps F h (h ++ l) := ⟨by simp, fun b hb _ => List.getElem?_append_left hb⟩
theorem Keeps.set {F : List Nat} {a b : Heap} (h : Keeps F a b) {i : Nat} (hi : i ∈ F \/ a.length <= i) (x : Blk) : Keeps F a (b.set i x) :=
  ⟨by rw [List.length_set]; exact h.1, fun j hj hF => by
    rw [List.getElem?_set_ne, h.2 j hj hF]
    rintro rfl
    rcases hi with hi | hi
    · exact hF hi
    · omega⟩
theorem Keeps.snoc {F : List Nat} {a b : Heap} (h : Keeps F a b) (l : List Blk) : Keeps F a (b ++ l) := h.trans (.app F b l)
theorem Keeps.cells {F : List Nat} {h h' : Heap} (k : Keeps F h h') {b g : Nat} {p : Bool × List V} (e : hcells h b g = some p) (hb : b ∉ F) : hcells h' b g = some p := by
  have := k.2 b (hcells_lt e) hb
  unfold hcells at e ⊢
  rw [this]; exact e
def loopAt (h : Heap) (l : Nat) : Option LoopR := match h[l]? with | some (.loop r) => some r | _ => none
theorem loopAt_lt {h : Heap} {l : Nat} {r : LoopR} (e : loopAt h l = some r) : l < h.length := by
  unfold loopAt at e
  cases hx : h[l]? with
  | none => rw [hx] at e; cases e
  | some y => exact (List.getElem?_eq_some_iff.1 hx).1
theorem loopAt_get {h : Heap} {l : Nat} {r : LoopR} (e : loopAt h l = some r) : h[l]? = some (.loop r) := by
  unfold loopAt at e
  split at e
  · rename_i r' hr; cases e; exact hr
  · cases e
theorem loopAt_set_ne {h : Heap} {b l : Nat} {x : Blk} (e : l ≠ b) : loopAt (h.set b x) l = loopAt h l := by
  unfold loopAt; rw [List.getElem?_set_ne (Ne.symm e)]
theorem loopAt_set_eq {h : Heap} {l : Nat} {r : LoopR} (e : l < h.length) : loopAt (h.set l (.loop r)) l = some r := by
  unfold loopAt; rw [List.getElem?_set_self e]
theorem loopAt_app {h : Heap} {l : List Blk} {b : Nat} (hb : b < h.length) : loopAt (h ++ l) b = loopAt h b := by
  unfold loopAt; rw [List.getElem?_append_left hb]
theorem Keeps.loop {F : List Nat} {h h' : Heap} (k : Keeps F h h') {l : Nat} {r : LoopR} (e : loopAt h l = some r) (hb : l ∉ F) : loopAt h' l = some r := by
  have := k.2 l (loopAt_lt e) hb
  unfold loopAt at e ⊢
  rw [this]; exact e
noncomputable def asgK (X : Env) (l : Nat) (fn : FuncId) (body : Code) : Ex -> St -> Option (V × Heap)
  | .normal, s => bnd (beginRound l s) fun s' => evC X (D X) (Lo X fn) fn body s' (endRound l)
  | _, _ => none
noncomputable def asgM (X : Env) (l : Nat) (fn : FuncId) (body : Code) (e : List TV) (lc : Locs) (h : Heap) : Option LoopR -> Option (V × Heap)
  | some r => grd (r.state = 0) (evC X (D X) (Lo X fn) fn body ⟨e, lc, h.set l (.loop { r with state := 1 })⟩ (endRound l))
  | none => none
theorem asgM_s {X : Env} {l : Nat} {fn : FuncId} {body : Code} {e : List TV} {lc : Locs} {h : Heap} {r : LoopR} :
    asgM X l fn body e lc h (some r) = grd (r.state = 0) (evC X (D X) (Lo X fn) fn body ⟨e, lc, h.set l (.loop { r with state := 1 })⟩ (endRound l)) := rfl
theorem asgK_n {X : Env} {l : Nat} {fn : FuncId} {body : Code} {e : List TV} {lc : Locs} {h : Heap} : asgK X l fn body .normal ⟨e, lc, h⟩ = asgM X l fn body e lc h (loopAt h l) := by
  simp only [asgK,beginRound,loopAt]
  cases hx : h[l]? with
  | none => rfl
  | some b =>
    cases b with
    | loop r =>
      simp only [asgM]
      unfold grd
      split <;> rfl
    | cells g k c => rfl
    | map ex es c => rfl
def endM (x : Ex) (l : Nat) (lc : Locs) (h : Heap) : Option LoopR -> Option (V × Heap)
  | some r => match x with
    | .normal => some (.bool true, h.set l (.loop { r with state := 0, pending := none, l := lc, lent := false }))
    | .ret => some (.bool false, h.set l (.loop { r with state := 2, pending := some .ret, l := lc, lent := false }))
    | .exit id => some (.bool false, h.set l (.loop { r with state := 2, pending := some (.exit id), l := lc, lent := false }))
  | none => none
theorem endM_n {l : Nat} {lc : Locs} {h : Heap} {r : LoopR} : endM .normal l lc h (some r) = some (.bool true, h.set l (.loop { r with state := 0, pending := none, l := lc, lent := false })) := rfl
theorem endM_r {l : Nat} {lc : Locs} {h : Heap} {r : LoopR} : endM .ret l lc h (some r) = some (.bool false, h.set l (.loop { r with state := 2, pending := some .ret, l := lc, lent := false })) := rfl
theorem endM_e {l id : Nat} {lc : Locs} {h : Heap} {r : LoopR} : endM (.exit id) l lc h (some r) = some (.bool false, h.set l (.loop { r with state := 2, pending := some (.exit id), l := lc, lent := false })) := rfl
theorem endRound_eq {x : Ex} {l : Nat} {e : List TV} {lc : Locs} {h : Heap} : endRound l x ⟨e, lc, h⟩ = endM x l lc h (loopAt h l) := by
  simp only [endRound,loopAt]
  cases hx : h[l]? with
  | none => rfl
  | some b =>
    cases b with
    | loop r => cases x <;> rfl
    | cells g k c => rfl
    | map ex es c => rfl
def endFM {R : Type} (k : Ex -> St -> Option R) (e : List TV) (l : Nat) (h : Heap) : Option LoopR -> Option R
  | some r => grd (r.state ≠ 1 /\ r.lent = false) (
      match r.pending with
      | none => k .normal ⟨e, r.l, h.set l (.loop { r with state := 3, lent := true })⟩
      | some .ret => k .ret ⟨e, r.l, h.set l (.loop { r with state := 3, lent := true })⟩
      | some (.exit id) => k (.exit id) ⟨e, r.l, h.set l (.loop { r with state := 3, lent := true })⟩
      | _ => none)
  | none => none
theorem endRF_eq {R : Type} {k : Ex -> St -> Option R} {e : List TV} {l : Nat} {h : Heap} : endRF k e l h = endFM k e l h (loopAt h l) := by
  simp only [endRF,loopAt]
  cases hx : h[l]? with
  | none => rfl
  | some b =>
    cases b with
    | loop r => rfl
    | cells g k c => rfl
    | map ex es c => rfl
section
variable {R : Type} {k : Ex -> St -> Option R} {e e' : List TV} {l : Nat} {h : Heap} {fn : FuncId} {lc : Locs} {ps : List Tmp} {a b : Code}
theorem endFM_n : endFM k e l h (some ⟨0, none, fn, e', lc, ps, a, b, false⟩) = k .normal ⟨e, lc, h.set l (.loop ⟨3, none, fn, e', lc, ps, a, b, true⟩)⟩ := grd_t ⟨(by simp), rfl⟩ _
theorem endFM_r : endFM k e l h (some ⟨2, some .ret, fn, e', lc, ps, a, b, false⟩) = k .ret ⟨e, lc, h.set l (.loop ⟨3, some .ret, fn, e', lc, ps, a, b, true⟩)⟩ := grd_t ⟨(by simp), rfl⟩ _
theorem endFM_e {id : Nat} : endFM k e l h (some ⟨2, some (.exit id), fn, e', lc, ps, a, b, false⟩) = k (.exit id) ⟨e, lc, h.set l (.loop ⟨3, some (.exit id), fn, e', lc, ps, a, b, true⟩)⟩ := grd_t ⟨(by simp), rfl⟩ _
end
theorem loopAt_ge {h l : Heap} {i : Nat} (e : h.length <= i) : loopAt (h ++ l) i = loopAt l (i - h.length) := by
  unfold loopAt; rw [List.getElem?_append_right e]
theorem loopAt_c0 {l : Heap} {r : LoopR} : loopAt (.loop r :: l) 0 = some r := rfl
theorem loopAt_cs {l : Heap} {x : Blk} {i : Nat} : loopAt (x :: l) (i + 1) = loopAt l i := rfl
theorem Keeps.wide {F G : List Nat} {a b c : Heap} (h : Keeps F a b) (k : Keeps G b c) (hG : ∀ j ∈ G, j < a.length -> j ∈ F) : Keeps F a c :=
  ⟨Nat.le_trans h.1 k.1, fun i hi hF => (k.2 i (Nat.lt_of_lt_of_le hi h.1) (fun hm => hF (hG i hm hi))).trans (h.2 i hi hF)⟩
theorem Ok.round {X : Env} {l : Nat} {args : List V} {h : Heap} {r : LoopR} {Q : V × Heap -> Prop} (hl : loopAt h l = some r) (hlen : args.length = r.params.length) (ht : r.lent = false)
    (hh : Ok (evC X (D X) (Lo X r.fn) r.fn r.assign ⟨setArgs r.e r.params args, r.l, h.set l (.loop { r with lent := true })⟩ (asgK X l r.fn r.body)) Q) : Ok (D X (.yld l) args h) Q := by
  obtain ⟨q, e, p⟩ := hh
  refine ⟨q, D_yld ?_, p⟩
  unfold evRound
  rw [loopAt_get hl]
  dsimp only
  rw [grd_t ⟨hlen, ht⟩, <- e]
  congr 1
  funext x s
  cases x <;> rfl
def rfK {R : Type} (k : Ex -> St -> Option R) (e : List TV) (l : Nat) (p : V × Heap) : Option R := endRF k e l p.2
theorem rfK_eq {R : Type} (k : Ex -> St -> Option R) (e : List TV) (l : Nat) (v : V) (h : Heap) : rfK k e l (v, h) = endRF k e l h := rfl
theorem evC_rf {X : Env} {C : CallSem} {L : LoopSem} {f : FuncId} {R : Type} (g : Operand) (ps : Array Tmp) (a b : Code) (s : St) (k : Ex -> St -> Option R) :
    evC X C L f (.rangeFunc g ps a b) s k = (match opd s.e g with
      | .v (.fn gf cap) => bnd (C (.fn gf cap) [.yld s.h.length] (s.h ++ [.loop { state := 0, pending := none, fn := f, e := s.e, l := s.l, params := ps.toList, assign := a, body := b, lent := false }])) (rfK k s.e s.h.length)
      | _ => none) := rfl
def rangesOf : Code -> List (Code × Code)
  | .rangeFunc _ _ a b => (a, b) :: (rangesOf a ++ rangesOf b)
  | .seq a b => rangesOf a ++ rangesOf b
  | .cond _ a b => rangesOf a ++ rangesOf b
  | .block _ c => rangesOf c
  | .scope c => rangesOf c
  | .loop c => rangesOf c
  | _ => []
end Go.Ev
namespace Go.Ev
open Go.Proofs
def slotTab : FuncId -> List Tmp
  | 3 => [2, 3]
  | 4 => [3, 4, 5, 7, 8, 13, 14, 15, 17, 86, 99]
  | 5 => [2, 3]
  | 6 => [2]
  | 7 => [3, 5, 10, 13]
  | 8 => [3, 10, 14, 15]
  | 9 => [3, 4, 5, 9]
  | 10 => [3, 10]
  | 11 => [2, 3, 6]
  | 12 => [2, 8, 10]
  | 14 => [2]
  | 15 => [1]
  | 16 => [3, 4, 5]
  | 17 => [1]
  | 18 => [1]
  | 19 => [1]
  | 20 => [2]
  | 21 => [1, 2]
  | 22 => [2, 3, 4, 6, 91]
  | 25 => [2, 3]
  | 26 => [2, 3]
  | 27 => [3, 13, 14, 16]
  | 31 => [6]
  | 32 => [2, 3]
  | 33 => [3]
  | 35 => [5]
  | 36 => [3, 19]
  | 38 => [1, 20]
  | 40 => [13]
  | 41 => [2, 3]
  | 46 => [28, 31]
  | 47 => [1]
  | 56 => [2, 3]
  | 57 => [1, 21, 31]
  | 58 => [3, 4, 7, 95]
  | 60 => [26, 38]
  | 63 => [10]
  | 71 => [35]
  | 79 => [6, 48]
  | 80 => [4]
  | 81 => [1]
  | 82 => [2, 3, 4]
  | 85 => [7]
  | 88 => [2, 3]
  | _ => []
def planTab : FuncId -> Nat -> List PE
  | 3, 5 => [(0, [0], []), (2, [0], []), (1, [], [(2, [0])]), (3, [], []), (4, [], []), (5, [], []), (6, [], []), (7, [], []), (8, [], []), (9, [], []), (10, [], []), (11, [], []), (12, [], []), (13, [], []), (14, [], []), (15, [], []), (16, [], []), (17, [], []), (18, [], []), (19, [], []), (20, [], []), (21, [], []), (22, [], []), (23, [], []), (24, [], []), (25, [], []), (26, [], []), (27, [], []), (28, [], []), (30, [1], []), (29, [], [(30, [1])]), (31, [], []), (32, [], []), (33, [], []), (34, [], []), (35, [], []), (36, [], []), (37, [], [])]
  | 4, 1 => [(0, [0], []), (2, [1], []), (4, [], []), (5, [], []), (1, [], [(2, [1])]), (3, [], []), (6, [3], []), (7, [4], [])]
  | 4, 2 => [(0, [3], []), (1, [3], []), (2, [3], []), (3, [3], []), (4, [], []), (5, [], []), (6, [4], []), (7, [4], []), (8, [4], []), (9, [4], []), (10, [], []), (11, [], []), (12, [3], []), (13, [3], [(7, [4]), (9, [4])]), (14, [4], []), (15, [4], [])]
  | 5, 1 => [(0, [0], []), (1, [1], []), (3, [0], []), (4, [1], []), (2, [], [(3, [0]), (4, [1])]), (5, [], []), (6, [], []), (7, [], []), (8, [1], []), (9, [0], []), (11, [0], []), (12, [1], []), (10, [], [(11, [0]), (12, [1])]), (13, [], []), (14, [], []), (15, [], []), (16, [], []), (17, [], []), (18, [], []), (19, [], [])]
  | 10, 7 => [(0, [1], []), (1, [1], []), (2, [], []), (3, [1], []), (4, [1], []), (5, [1], []), (6, [1], []), (7, [], []), (8, [], []), (9, [], []), (10, [], []), (11, [], []), (12, [], [])]
  | 12, 7 => [(0, [], []), (1, [], []), (2, [0], []), (3, [], [(1, [])]), (4, [], []), (5, [], [])]
  | 13, 7 => [(0, [], []), (1, [], []), (2, [], []), (3, [], []), (4, [], []), (5, [], []), (6, [], []), (7, [], []), (8, [], []), (11, [], []), (12, [], []), (9, [], [(12, [])]), (10, [], []), (13, [], []), (14, [], []), (15, [], []), (16, [], []), (17, [], []), (18, [], [])]
  | 14, 6 => [(0, [], []), (1, [], []), (2, [], []), (3, [], [(1, [])]), (4, [], []), (5, [], []), (6, [], []), (7, [], []), (8, [], []), (9, [], []), (10, [], []), (11, [], []), (12, [], []), (13, [], []), (14, [], []), (15, [], []), (16, [], []), (17, [], []), (18, [], []), (19, [], []), (20, [], []), (21, [], []), (22, [], []), (23, [], [])]
  | 17, 3 => [(0, [0], []), (1, [0], []), (2, [0], []), (3, [0], []), (4, [0], []), (5, [], []), (6, [], [(0, [0])]), (7, [], []), (8, [], []), (9, [], []), (10, [], [])]
  | 22, 5 => [(0, [1], []), (1, [1], []), (2, [], []), (3, [], []), (4, [1], []), (5, [1], []), (6, [0], []), (7, [], []), (8, [], []), (9, [], []), (10, [], []), (11, [], []), (12, [], []), (13, [1], []), (14, [1], []), (15, [0], []), (16, [], []), (17, [], []), (18, [], []), (19, [], []), (20, [], []), (21, [], []), (22, [], []), (23, [], [])]
  | 22, 14 => [(0, [0], []), (1, [], []), (2, [], []), (3, [], []), (4, [], []), (5, [0], []), (6, [], []), (7, [], []), (8, [], []), (9, [], []), (10, [], []), (11, [], []), (12, [], [])]
  | 22, 16 => [(0, [3], []), (1, [3], []), (2, [], []), (3, [], []), (4, [], []), (5, [], []), (6, [], []), (7, [4], []), (8, [3], []), (9, [3], [])]
  | 22, 17 => [(0, [1], []), (1, [1], []), (2, [], []), (3, [], []), (4, [], []), (5, [1], []), (6, [1], []), (7, [], []), (8, [], []), (9, [], []), (10, [], []), (11, [1], []), (12, [1], []), (13, [], []), (14, [], []), (15, [], [])]
  | 22, 19 => [(0, [], []), (1, [], []), (2, [1], []), (3, [1], []), (4, [1], []), (5, [1], []), (6, [], []), (7, [1], []), (8, [1], []), (9, [], []), (10, [], []), (11, [], []), (12, [1], []), (13, [1], []), (14, [], []), (15, [], []), (17, [], []), (18, [], []), (16, [], [(3, [1]), (13, [1])]), (19, [], []), (20, [], [])]
  | 22, 21 => [(0, [], []), (1, [], []), (2, [1], []), (3, [1], []), (4, [1], []), (5, [1], []), (6, [], []), (7, [], []), (9, [], []), (10, [], []), (8, [], [(3, [1]), (5, [1])]), (11, [], []), (12, [], [])]
  | 26, 5 => [(0, [0], []), (1, [0], []), (2, [0], []), (3, [0], []), (4, [], []), (5, [], [])]
  | 28, 1 => [(0, [], []), (1, [], []), (2, [], []), (3, [], []), (5, [], []), (6, [], []), (7, [], []), (8, [], []), (4, [], [(8, [])]), (9, [], []), (10, [], []), (11, [], []), (12, [], []), (14, [], []), (15, [], []), (16, [], []), (17, [], []), (13, [], [(17, [])]), (18, [], []), (19, [], [])]
  | 29, 3 => [(0, [], []), (1, [], []), (2, [], []), (3, [], []), (4, [], []), (5, [], []), (6, [], []), (7, [], []), (8, [], []), (9, [], []), (10, [], []), (11, [], []), (12, [], [(3, []), (7, [])]), (13, [], []), (14, [], []), (15, [], [])]
  | 31, 3 => [(0, [], []), (1, [], []), (2, [], []), (3, [], []), (4, [], []), (5, [], []), (6, [], []), (7, [], []), (8, [], []), (9, [], []), (10, [], []), (11, [], []), (12, [], []), (13, [], []), (14, [], []), (15, [], []), (16, [], []), (17, [], []), (18, [], []), (19, [], []), (20, [], []), (21, [], []), (22, [], []), (23, [], []), (24, [], []), (25, [], []), (26, [], []), (27, [], []), (28, [], []), (29, [], []), (30, [], []), (31, [], []), (32, [], [])]
  | 31, 8 => [(0, [0], []), (1, [0], []), (2, [], []), (3, [], []), (4, [], []), (5, [], []), (6, [], []), (7, [], []), (8, [], []), (9, [], []), (10, [], []), (11, [], []), (12, [0], []), (13, [0], []), (14, [], []), (15, [], []), (16, [], []), (17, [], []), (18, [], []), (19, [], []), (20, [], []), (21, [], []), (22, [], []), (23, [], [])]
  | 33, 5 => [(0, [0], []), (1, [0], []), (2, [], []), (3, [], []), (4, [], []), (5, [], []), (6, [], []), (7, [], []), (8, [], []), (9, [0], []), (10, [0], []), (11, [], []), (12, [], []), (13, [], []), (14, [], []), (15, [], []), (16, [], []), (17, [], []), (18, [], [])]
  | 33, 7 => [(0, [0], []), (1, [], []), (2, [], []), (3, [], []), (4, [], []), (5, [0], []), (6, [0], []), (7, [], []), (8, [], []), (9, [], []), (10, [], []), (11, [], []), (12, [], []), (13, [0], []), (14, [0], []), (15, [], []), (16, [], []), (17, [], []), (18, [], []), (19, [], []), (20, [], []), (21, [], []), (22, [], [(0, [0])]), (23, [], []), (24, [], []), (25, [], []), (26, [], [])]
  | 34, 3 => [(0, [], []), (1, [], []), (2, [], []), (3, [], []), (4, [], []), (5, [], []), (6, [], []), (7, [], []), (8, [], []), (9, [], []), (10, [], []), (11, [], []), (12, [], [(2, []), (5, [])]), (13, [], []), (14, [], []), (15, [], [])]
  | 34, 7 => [(0, [], []), (1, [], []), (2, [], []), (3, [], []), (4, [], []), (5, [], []), (6, [], []), (7, [], []), (8, [], []), (9, [], []), (10, [], []), (11, [], []), (12, [], []), (13, [], []), (14, [], [])]
  | 34, 10 => [(0, [], []), (1, [], []), (2, [], []), (3, [], []), (4, [], []), (5, [], []), (6, [], []), (7, [], []), (8, [], []), (9, [], []), (10, [], []), (11, [], []), (12, [], [])]
  | 41, 6 => [(0, [0], []), (1, [0], []), (2, [], []), (3, [], []), (4, [], []), (5, [1], []), (6, [1], []), (7, [], []), (8, [], []), (9, [], []), (10, [], [])]
  | 42, 3 => [(0, [], []), (1, [], []), (2, [], []), (3, [], []), (4, [], []), (5, [], []), (6, [], []), (7, [], []), (8, [], []), (9, [], []), (10, [], [])]
  | 46, 1 => [(0, [], []), (1, [], []), (2, [], []), (3, [], []), (4, [], []), (5, [], []), (7, [], []), (8, [], []), (9, [], []), (10, [], []), (11, [], []), (12, [], []), (6, [], [(11, [])]), (13, [], []), (14, [], []), (15, [], [])]
  | 55, 5 => [(0, [], []), (1, [], []), (2, [], []), (3, [], []), (4, [], []), (5, [], []), (6, [], []), (7, [], []), (8, [], []), (9, [], []), (10, [], []), (11, [], []), (12, [], []), (13, [], [])]
  | 58, 4 => [(0, [], []), (1, [], []), (2, [0], []), (3, [0], []), (4, [], []), (5, [], []), (6, [], []), (7, [], []), (8, [], []), (9, [], []), (10, [], []), (11, [0], []), (12, [0], []), (13, [], []), (14, [], []), (15, [], []), (16, [], []), (17, [], []), (18, [], []), (19, [], []), (20, [], [])]
  | 58, 14 => [(0, [0], []), (1, [0], []), (2, [], []), (3, [], []), (4, [], []), (5, [], []), (6, [], []), (7, [], []), (8, [], []), (9, [], []), (10, [], [])]
  | 58, 16 => [(0, [2], []), (1, [2], []), (2, [], []), (3, [], []), (4, [], []), (5, [], []), (6, [], []), (7, [], []), (8, [], []), (9, [], []), (10, [3], []), (11, [2], []), (12, [2], [])]
  | 58, 17 => [(0, [0], []), (1, [0], []), (2, [], []), (3, [], []), (4, [0], []), (5, [0], []), (6, [], []), (7, [], []), (8, [], []), (9, [], []), (10, [], []), (11, [], []), (12, [], []), (13, [], []), (14, [], []), (15, [], []), (16, [0], []), (17, [0], []), (18, [], []), (19, [], []), (20, [0], []), (21, [0], []), (22, [], []), (23, [], [])]
  | 58, 18 => [(0, [], []), (1, [], []), (2, [], []), (3, [], []), (4, [], []), (5, [], []), (6, [], []), (7, [0], []), (8, [0], []), (9, [0], []), (10, [0], []), (11, [], []), (12, [], [])]
  | 58, 21 => [(0, [], []), (1, [], []), (2, [], []), (3, [], []), (4, [], []), (5, [0], []), (6, [0], []), (7, [], []), (8, [], []), (9, [], []), (10, [], []), (11, [], [])]
  | 60, 3 => [(0, [], []), (1, [], []), (2, [], []), (3, [], []), (4, [], []), (5, [], []), (6, [], []), (7, [], []), (8, [], []), (9, [], []), (10, [], []), (11, [], []), (12, [], []), (13, [0], []), (14, [], []), (15, [], []), (16, [], [])]
  | 69, 5 => [(0, [], []), (1, [], []), (2, [], []), (3, [], []), (4, [], []), (5, [], []), (6, [], []), (7, [], []), (8, [], []), (9, [], []), (10, [], []), (11, [], [])]
  | 72, 8 => [(0, [], []), (1, [], []), (2, [], []), (3, [], []), (4, [], []), (5, [], []), (6, [], []), (7, [], []), (8, [], []), (9, [], []), (10, [], []), (11, [], []), (12, [], []), (13, [], []), (14, [], []), (15, [], []), (16, [], []), (17, [], [])]
  | 76, 9 => [(0, [], []), (3, [], []), (4, [], []), (5, [], []), (6, [], []), (7, [], []), (1, [], [(7, [])]), (2, [], []), (8, [], [])]
  | 79, 8 => [(0, [], []), (1, [], []), (2, [], []), (3, [0], []), (4, [0], []), (5, [], []), (6, [], []), (7, [], []), (8, [], []), (9, [], []), (10, [], []), (11, [], [])]
  | 79, 9 => [(0, [], []), (1, [], []), (2, [], []), (3, [], []), (4, [], []), (5, [], []), (6, [], []), (7, [0], []), (8, [0], []), (9, [], []), (10, [], []), (11, [], []), (12, [], [])]
  | 90, 17 => [(0, [], []), (1, [], []), (2, [], []), (3, [], []), (4, [], []), (5, [], []), (6, [], []), (7, [], []), (8, [], []), (9, [], []), (10, [], []), (11, [], []), (12, [], []), (13, [], []), (14, [], []), (15, [], []), (16, [], [])]
  | 92, 4 => [(0, [], []), (1, [], []), (2, [], []), (3, [], []), (4, [], []), (5, [], []), (6, [], []), (7, [], []), (8, [], []), (9, [], []), (10, [], []), (11, [], []), (12, [], []), (13, [], []), (14, [], []), (15, [], []), (16, [], [])]
  | 92, 6 => [(0, [], []), (1, [], []), (2, [], []), (3, [], []), (4, [], []), (5, [], []), (6, [], []), (7, [], []), (8, [], []), (9, [], []), (10, [], []), (11, [], []), (12, [], []), (13, [], []), (14, [], []), (15, [], []), (16, [], []), (17, [], [])]
  | 93, 10 => [(0, [], []), (1, [], []), (2, [], []), (3, [], []), (4, [], []), (5, [], []), (6, [], []), (7, [], []), (8, [], []), (9, [], []), (10, [], []), (11, [], []), (12, [], []), (13, [], []), (14, [], []), (15, [], []), (16, [], []), (17, [], []), (18, [], []), (19, [], [])]
  | 94, 10 => [(0, [], []), (1, [], []), (2, [], []), (3, [], []), (4, [], []), (5, [], []), (6, [], []), (7, [], []), (8, [], []), (9, [], []), (10, [], []), (11, [], []), (12, [], []), (13, [], []), (14, [], []), (15, [], []), (16, [], []), (17, [], []), (18, [], []), (19, [], [])]
  | 96, 3 => [(0, [], []), (1, [], []), (2, [], []), (3, [], []), (4, [], []), (5, [], []), (6, [], []), (7, [], []), (8, [], []), (9, [], []), (10, [], []), (11, [], []), (12, [], []), (13, [], []), (14, [], []), (15, [], [])]
  | 97, 5 => [(0, [], []), (1, [], []), (2, [], []), (3, [], []), (4, [], []), (5, [], []), (6, [], []), (7, [], []), (8, [], []), (9, [], []), (10, [], []), (11, [], []), (12, [], []), (13, [], []), (14, [], []), (15, [], []), (16, [], []), (17, [], [])]
  | 97, 11 => [(0, [], []), (1, [], []), (2, [], []), (3, [], []), (4, [], []), (5, [], []), (6, [], []), (7, [], []), (8, [], []), (9, [], []), (10, [], []), (11, [], []), (12, [], []), (13, [], []), (14, [], []), (15, [], []), (16, [], []), (17, [], [])]
  | 97, 16 => [(0, [], []), (1, [], []), (2, [], []), (3, [], []), (4, [], []), (5, [], []), (6, [], []), (7, [], []), (8, [], []), (9, [], []), (10, [], []), (11, [], []), (12, [], [])]
  | 97, 17 => [(0, [], []), (1, [], []), (2, [], []), (3, [], []), (4, [], []), (5, [], []), (6, [], []), (7, [], []), (8, [], []), (9, [], []), (10, [], []), (11, [], []), (12, [], []), (13, [], []), (14, [], []), (15, [], []), (16, [], []), (17, [], [])]
  | 97, 22 => [(0, [], []), (1, [], []), (2, [], []), (3, [], []), (4, [], []), (5, [], []), (6, [], []), (7, [], []), (8, [], []), (9, [], []), (10, [], []), (11, [], []), (12, [], [])]
  | 97, 23 => [(0, [], []), (1, [], []), (2, [], []), (3, [], []), (4, [], []), (5, [], []), (6, [], []), (7, [], []), (8, [], []), (9, [], []), (10, [], []), (11, [], []), (12, [], []), (13, [], []), (14, [], []), (15, [], []), (16, [], []), (17, [], [])]
  | 98, 1 => [(0, [], []), (1, [], []), (2, [], []), (3, [], []), (4, [], []), (5, [], []), (6, [], []), (7, [], []), (8, [], []), (9, [], []), (10, [], []), (11, [], []), (12, [], []), (13, [], []), (14, [], []), (15, [], [])]
  | 98, 3 => [(0, [], []), (1, [], []), (2, [], []), (3, [], []), (4, [], []), (5, [], []), (6, [], []), (7, [], []), (8, [], []), (9, [], []), (10, [], []), (11, [], []), (12, [], []), (13, [], []), (14, [], []), (15, [], []), (16, [], [])]
  | 98, 5 => [(0, [], []), (1, [], []), (2, [], []), (3, [], []), (4, [], []), (5, [], []), (6, [], []), (7, [], []), (8, [], []), (9, [], []), (10, [], []), (11, [], []), (12, [], []), (13, [], []), (14, [], []), (15, [], [])]
  | 98, 8 => [(0, [], []), (1, [], []), (2, [], []), (3, [], []), (4, [], []), (5, [], []), (6, [], []), (7, [], []), (8, [], []), (9, [], []), (10, [], []), (11, [], []), (12, [], []), (13, [], []), (14, [], []), (15, [], [])]
  | 99, 1 => [(0, [], []), (1, [], []), (2, [], []), (3, [], []), (4, [], []), (5, [], []), (6, [], []), (7, [], []), (8, [], []), (9, [], []), (10, [], []), (11, [], []), (12, [], []), (13, [], []), (14, [], []), (15, [], [])]
  | 99, 3 => [(0, [], []), (1, [], []), (2, [], []), (3, [], []), (4, [], []), (5, [], []), (6, [], []), (7, [], []), (8, [], []), (9, [], []), (10, [], []), (11, [], []), (12, [], []), (13, [], []), (14, [], []), (15, [], [])]
  | 99, 5 => [(0, [], []), (1, [], []), (2, [], []), (3, [], []), (4, [], []), (5, [], []), (6, [], []), (7, [], []), (8, [], []), (9, [], []), (10, [], []), (11, [], []), (12, [], []), (13, [], []), (14, [], []), (15, [], []), (16, [], [])]
  | 99, 8 => [(0, [], []), (1, [], []), (2, [], []), (3, [], []), (4, [], []), (5, [], []), (6, [], []), (7, [], []), (8, [], []), (9, [], []), (10, [], []), (11, [], []), (12, [], []), (13, [], []), (14, [], []), (15, [], [])]
  | 99, 10 => [(0, [], []), (1, [], []), (2, [], []), (3, [], []), (4, [], []), (5, [], []), (6, [], []), (7, [], []), (8, [], []), (9, [], []), (10, [], []), (11, [], []), (12, [], []), (13, [], []), (14, [], []), (15, [], [])]
  | 99, 13 => [(0, [], []), (1, [], []), (2, [], []), (3, [], []), (4, [], []), (5, [], []), (6, [], []), (7, [], []), (8, [], []), (9, [], []), (10, [], []), (11, [], []), (12, [], []), (13, [], []), (14, [], []), (15, [], [])]
  | 99, 15 => [(0, [], []), (1, [], []), (2, [], []), (3, [], []), (4, [], []), (5, [], []), (6, [], []), (7, [], []), (8, [], []), (9, [], []), (10, [], []), (11, [], []), (12, [], []), (13, [], []), (14, [], []), (15, [], []), (16, [], [])]
  | 99, 18 => [(0, [], []), (1, [], []), (2, [], []), (3, [], []), (4, [], []), (5, [], []), (6, [], []), (7, [], []), (8, [], []), (9, [], []), (10, [], []), (11, [], []), (12, [], []), (13, [], []), (14, [], []), (15, [], [])]
  | 99, 21 => [(0, [], []), (1, [], []), (2, [], []), (3, [], []), (4, [], []), (5, [], []), (6, [], []), (7, [], []), (8, [], []), (9, [], []), (10, [], []), (11, [], []), (12, [], []), (13, [], []), (14, [], []), (15, [], [])]
  | 101, 3 => [(0, [], []), (1, [], []), (2, [], []), (3, [], []), (4, [], []), (5, [], []), (6, [], []), (7, [], []), (8, [], []), (9, [], []), (10, [], []), (11, [], []), (12, [], []), (13, [], []), (14, [], []), (15, [], []), (16, [], []), (17, [], []), (18, [], []), (19, [], []), (20, [], []), (21, [], [])]
  | 101, 5 => [(0, [], []), (1, [], []), (2, [], []), (3, [], []), (4, [], []), (5, [], []), (6, [], []), (7, [], []), (8, [], []), (9, [], []), (10, [], []), (11, [], []), (12, [], []), (13, [], []), (14, [], []), (15, [], [])]
  | 101, 6 => [(0, [], []), (1, [], []), (2, [], []), (3, [], []), (4, [], []), (5, [], []), (6, [], []), (7, [], []), (8, [], []), (9, [], []), (10, [], []), (11, [], []), (12, [], []), (13, [], []), (14, [], []), (15, [], []), (16, [], []), (17, [], []), (18, [], []), (19, [], []), (20, [], []), (21, [], []), (22, [], []), (23, [], [])]
  | 103, 1 => [(0, [], []), (1, [], []), (2, [], []), (3, [], []), (4, [], []), (5, [], []), (6, [], []), (7, [], []), (8, [], []), (9, [], [])]
  | 103, 2 => [(0, [], []), (1, [], []), (2, [], []), (3, [], []), (4, [], []), (5, [], []), (6, [], []), (7, [], []), (8, [], []), (9, [], [])]
  | 103, 3 => [(0, [], []), (1, [], []), (2, [], []), (3, [], []), (4, [], []), (5, [], []), (6, [], []), (7, [], []), (8, [], []), (9, [], [])]
  | 106, 1 => [(0, [], []), (1, [], []), (2, [], []), (3, [], []), (4, [], []), (5, [], []), (6, [], []), (7, [], []), (8, [], []), (9, [], []), (10, [], [])]
  | _, _ => []
def posT : List Tmp -> Tmp -> Nat -> Option Nat
  | [], _, _ => none
  | t :: r, u, n => cond (decide (t = u)) (some n) (posT r u (n + 1))
noncomputable def X0 : Env := { ty := tyOf Try.prog, body := bodyOf Try.prog, slot := fun f t => posT (slotTab f) t 0, nslots := fun f => (slotTab f).length, plan := planTab, pin := fun _ => none }
end Go.Ev
namespace Go.Ev
open Go.Proofs
theorem tysChk : (List.range Try.prog.types.size).all (typeChk Try.prog) = true := by decide +kernel
theorem fnsChk : (List.range Try.prog.funcs.size).all (bodyChk X0 Try.prog) = true := by decide +kernel
theorem fit0 : Fit Try.prog X0 where
  ty := by kernel_rfl
  body := by kernel_rfl
  mixed := by kernel_rfl
  types := fun t ht => List.all_eq_true.1 tysChk t (List.mem_range.2 ht)
  bodies := fun f hf => List.all_eq_true.1 fnsChk f (List.mem_range.2 hf)
  pins := fun f b h => by cases h
theorem livesRun : ((callN X0 60 (.fn 16 []) [] []).map fun r => match r.1 with | .bool b => some b | _ => none) = some (some true) := by decide +kernel
theorem livesBody : (bodyOf Try.prog 16).isSome = true := by decide +kernel
noncomputable def X : Env := X0.pins fun f => if f = 16 then some (.b true) else none
theorem fit : Fit Try.prog X := by
  refine fit0.pinsFit fun f b h => ?_
  by_cases hf : f = 16
  · subst hf
    simp only [if_true,Option.some.injEq] at h
    subst h
    exact @pinOk_bool (goodOf X0) _ fit0.funcsOk _ _ livesBody fun w => fit0.closed livesRun w
  · simp only [hf,if_false] at h
    cases h
end Go.Ev
namespace Go.Ev
open Go.Proofs
noncomputable def c2 : Code := (Try.f2.body).getD .skip
theorem slot3 : X.slot 3 = fun t => posT [2, 3] t 0 := rfl
theorem plan3_5 : X.plan 3 5 = [(0, [0], []), (2, [0], []), (1, [], [(2, [0])]), (3, [], []), (4, [], []), (5, [], []), (6, [], []), (7, [], []), (8, [], []), (9, [], []), (10, [], []), (11, [], []), (12, [], []), (13, [], []), (14, [], []), (15, [], []), (16, [], []), (17, [], []), (18, [], []), (19, [], []), (20, [], []), (21, [], []), (22, [], []), (23, [], []), (24, [], []), (25, [], []), (26, [], []), (27, [], []), (28, [], []), (30, [1], []), (29, [], [(30, [1])]), (31, [], []), (32, [], []), (33, [], []), (34, [], []), (35, [], []), (36, [], []), (37, [], [])] := by kernel_rfl
noncomputable def c5 : Code := (Try.f5.body).getD .skip
noncomputable def c6 : Code := (Try.f6.body).getD .skip
theorem slot6 : X.slot 6 = fun t => posT [2] t 0 := rfl
noncomputable def c7 : Code := (Try.f7.body).getD .skip
noncomputable def c8 : Code := (Try.f8.body).getD .skip
noncomputable def c9 : Code := (Try.f9.body).getD .skip
noncomputable def c13 : Code := (Try.f13.body).getD .skip
theorem body13 : X.body 13 = some (c13, 51, [.tmp 2]) := by kernel_rfl
theorem slot13 : X.slot 13 = fun t => posT [] t 0 := rfl
theorem nslot13 : X.nslots 13 = 0 := rfl
theorem pin13 : X.pin 13 = none := rfl
theorem plan13_7 : X.plan 13 7 = [(0, [], []), (1, [], []), (2, [], []), (3, [], []), (4, [], []), (5, [], []), (6, [], []), (7, [], []), (8, [], []), (11, [], []), (12, [], []), (9, [], [(12, [])]), (10, [], []), (13, [], []), (14, [], []), (15, [], []), (16, [], []), (17, [], []), (18, [], [])] := by kernel_rfl
noncomputable def c17 : Code := (Try.f17.body).getD .skip
theorem body17 : X.body 17 = some (c17, 28, [.tmp 2, .tmp 3]) := by kernel_rfl
theorem slot17 : X.slot 17 = fun t => posT [1] t 0 := rfl
theorem nslot17 : X.nslots 17 = 1 := rfl
theorem pin17 : X.pin 17 = none := rfl
theorem plan17_3 : X.plan 17 3 = [(0, [0], []), (1, [0], []), (2, [0], []), (3, [0], []), (4, [0], []), (5, [], []), (6, [], [(0, [0])]), (7, [], []), (8, [], []), (9, [], []), (10, [], [])] := by kernel_rfl
noncomputable def c20 : Code := (Try.f20.body).getD .skip
theorem body20 : X.body 20 = some (c20, 10, [.cell 2 26]) := by kernel_rfl
theorem slot20 : X.slot 20 = fun t => posT [2] t 0 := rfl
theorem nslot20 : X.nslots 20 = 1 := rfl
theorem pin20 : X.pin 20 = none := rfl
noncomputable def c22 : Code := (Try.f22.body).getD .skip
noncomputable def c23 : Code := (Try.f23.body).getD .skip
theorem body23 : X.body 23 = some (c23, 21, [.tmp 4, .tmp 5]) := by kernel_rfl
theorem slot23 : X.slot 23 = fun t => posT [] t 0 := rfl
theorem nslot23 : X.nslots 23 = 0 := rfl
theorem pin23 : X.pin 23 = none := rfl
noncomputable def c24 : Code := (Try.f24.body).getD .skip
theorem body24 : X.body 24 = some (c24, 33, [.tmp 6, .tmp 7]) := by kernel_rfl
theorem slot24 : X.slot 24 = fun t => posT [] t 0 := rfl
theorem nslot24 : X.nslots 24 = 0 := rfl
theorem pin24 : X.pin 24 = none := rfl
noncomputable def c28 : Code := (Try.f28.body).getD .skip
theorem body28 : X.body 28 = some (c28, 94, [.tmp 4]) := by kernel_rfl
theorem slot28 : X.slot 28 = fun t => posT [] t 0 := rfl
theorem nslot28 : X.nslots 28 = 0 := rfl
theorem pin28 : X.pin 28 = none := rfl
theorem plan28_1 : X.plan 28 1 = [(0, [], []), (1, [], []), (2, [], []), (3, [], []), (5, [], []), (6, [], []), (7, [], []), (8, [], []), (4, [], [(8, [])]), (9, [], []), (10, [], []), (11, [], []), (12, [], []), (14, [], []), (15, [], []), (16, [], []), (17, [], []), (13, [], [(17, [])]), (18, [], []), (19, [], [])] := by kernel_rfl
noncomputable def c30 : Code := (Try.f30.body).getD .skip
theorem body30 : X.body 30 = some (c30, 11, [.tmp 2]) := by kernel_rfl
theorem slot30 : X.slot 30 = fun t => posT [] t 0 := rfl
theorem nslot30 : X.nslots 30 = 0 := rfl
theorem pin30 : X.pin 30 = none := rfl
noncomputable def c35 : Code := (Try.f35.body).getD .skip
theorem body35 : X.body 35 = some (c35, 60, [.tmp 2]) := by kernel_rfl
theorem slot35 : X.slot 35 = fun t => posT [5] t 0 := rfl
theorem nslot35 : X.nslots 35 = 1 := rfl
theorem pin35 : X.pin 35 = none := rfl
noncomputable def c37 : Code := (Try.f37.body).getD .skip
theorem body37 : X.body 37 = some (c37, 8, [.tmp 2]) := by kernel_rfl
theorem slot37 : X.slot 37 = fun t => posT [] t 0 := rfl
theorem nslot37 : X.nslots 37 = 0 := rfl
theorem pin37 : X.pin 37 = none := rfl
noncomputable def c39 : Code := (Try.f39.body).getD .skip
theorem body39 : X.body 39 = some (c39, 7, [.tmp 2]) := by kernel_rfl
theorem slot39 : X.slot 39 = fun t => posT [] t 0 := rfl
theorem nslot39 : X.nslots 39 = 0 := rfl
theorem pin39 : X.pin 39 = none := rfl
noncomputable def c42 : Code := (Try.f42.body).getD .skip
theorem body42 : X.body 42 = some (c42, 15, [.tmp 2]) := by kernel_rfl
theorem slot42 : X.slot 42 = fun t => posT [] t 0 := rfl
theorem nslot42 : X.nslots 42 = 0 := rfl
theorem pin42 : X.pin 42 = none := rfl
theorem plan42_3 : X.plan 42 3 = [(0, [], []), (1, [], []), (2, [], []), (3, [], []), (4, [], []), (5, [], []), (6, [], []), (7, [], []), (8, [], []), (9, [], []), (10, [], [])] := by kernel_rfl
noncomputable def c43 : Code := (Try.f43.body).getD .skip
theorem body43 : X.body 43 = some (c43, 11, [.tmp 2]) := by kernel_rfl
theorem slot43 : X.slot 43 = fun t => posT [] t 0 := rfl
theorem nslot43 : X.nslots 43 = 0 := rfl
theorem pin43 : X.pin 43 = none := rfl
noncomputable def c44 : Code := (Try.f44.body).getD .skip
theorem body44 : X.body 44 = some (c44, 91, [.tmp 2, .tmp 3]) := by kernel_rfl
theorem slot44 : X.slot 44 = fun t => posT [] t 0 := rfl
theorem nslot44 : X.nslots 44 = 0 := rfl
theorem pin44 : X.pin 44 = none := rfl
noncomputable def c45 : Code := (Try.f45.body).getD .skip
theorem body45 : X.body 45 = some (c45, 135, [.tmp 2, .tmp 3]) := by kernel_rfl
theorem slot45 : X.slot 45 = fun t => posT [] t 0 := rfl
theorem nslot45 : X.nslots 45 = 0 := rfl
theorem pin45 : X.pin 45 = none := rfl
noncomputable def c51 : Code := (Try.f51.body).getD .skip
theorem body51 : X.body 51 = some (c51, 18, [.tmp 2]) := by kernel_rfl
theorem slot51 : X.slot 51 = fun t => posT [] t 0 := rfl
theorem nslot51 : X.nslots 51 = 0 := rfl
theorem pin51 : X.pin 51 = none := rfl
noncomputable def c52 : Code := (Try.f52.body).getD .skip
theorem body52 : X.body 52 = some (c52, 19, [.tmp 2]) := by kernel_rfl
theorem slot52 : X.slot 52 = fun t => posT [] t 0 := rfl
theorem nslot52 : X.nslots 52 = 0 := rfl
theorem pin52 : X.pin 52 = none := rfl
noncomputable def c55 : Code := (Try.f55.body).getD .skip
theorem body55 : X.body 55 = some (c55, 38, [.tmp 4, .tmp 5]) := by kernel_rfl
theorem slot55 : X.slot 55 = fun t => posT [] t 0 := rfl
theorem nslot55 : X.nslots 55 = 0 := rfl
theorem pin55 : X.pin 55 = none := rfl
theorem plan55_5 : X.plan 55 5 = [(0, [], []), (1, [], []), (2, [], []), (3, [], []), (4, [], []), (5, [], []), (6, [], []), (7, [], []), (8, [], []), (9, [], []), (10, [], []), (11, [], []), (12, [], []), (13, [], [])] := by kernel_rfl
noncomputable def c57 : Code := (Try.f57.body).getD .skip
theorem body57 : X.body 57 = some (c57, 36, [.tmp 2]) := by kernel_rfl
theorem slot57 : X.slot 57 = fun t => posT [1, 21, 31] t 0 := rfl
theorem nslot57 : X.nslots 57 = 3 := rfl
theorem pin57 : X.pin 57 = none := rfl
noncomputable def c60 : Code := (Try.f60.body).getD .skip
theorem body60 : X.body 60 = some (c60, 42, []) := by kernel_rfl
theorem slot60 : X.slot 60 = fun t => posT [26, 38] t 0 := rfl
theorem nslot60 : X.nslots 60 = 2 := rfl
theorem pin60 : X.pin 60 = none := rfl
theorem plan60_3 : X.plan 60 3 = [(0, [], []), (1, [], []), (2, [], []), (3, [], []), (4, [], []), (5, [], []), (6, [], []), (7, [], []), (8, [], []), (9, [], []), (10, [], []), (11, [], []), (12, [], []), (13, [0], []), (14, [], []), (15, [], []), (16, [], [])] := by kernel_rfl
noncomputable def c61 : Code := (Try.f61.body).getD .skip
theorem body61 : X.body 61 = some (c61, 9, []) := by kernel_rfl
theorem slot61 : X.slot 61 = fun t => posT [] t 0 := rfl
theorem nslot61 : X.nslots 61 = 0 := rfl
theorem pin61 : X.pin 61 = none := rfl
noncomputable def c62 : Code := (Try.f62.body).getD .skip
theorem body62 : X.body 62 = some (c62, 18, []) := by kernel_rfl
theorem slot62 : X.slot 62 = fun t => posT [] t 0 := rfl
theorem nslot62 : X.nslots 62 = 0 := rfl
theorem pin62 : X.pin 62 = none := rfl
noncomputable def c63 : Code := (Try.f63.body).getD .skip
theorem body63 : X.body 63 = some (c63, 14, []) := by kernel_rfl
theorem slot63 : X.slot 63 = fun t => posT [10] t 0 := rfl
theorem nslot63 : X.nslots 63 = 1 := rfl
theorem pin63 : X.pin 63 = none := rfl
noncomputable def c67 : Code := (Try.f67.body).getD .skip
theorem body67 : X.body 67 = some (c67, 20, [.tmp 2]) := by kernel_rfl
theorem slot67 : X.slot 67 = fun t => posT [] t 0 := rfl
theorem nslot67 : X.nslots 67 = 0 := rfl
theorem pin67 : X.pin 67 = none := rfl
noncomputable def c69 : Code := (Try.f69.body).getD .skip
theorem body69 : X.body 69 = some (c69, 26, [.tmp 2]) := by kernel_rfl
theorem slot69 : X.slot 69 = fun t => posT [] t 0 := rfl
theorem nslot69 : X.nslots 69 = 0 := rfl
theorem pin69 : X.pin 69 = none := rfl
theorem plan69_5 : X.plan 69 5 = [(0, [], []), (1, [], []), (2, [], []), (3, [], []), (4, [], []), (5, [], []), (6, [], []), (7, [], []), (8, [], []), (9, [], []), (10, [], []), (11, [], [])] := by kernel_rfl
noncomputable def c72 : Code := (Try.f72.body).getD .skip
theorem body72 : X.body 72 = some (c72, 45, [.tmp 2]) := by kernel_rfl
theorem slot72 : X.slot 72 = fun t => posT [] t 0 := rfl
theorem nslot72 : X.nslots 72 = 0 := rfl
theorem pin72 : X.pin 72 = none := rfl
theorem plan72_8 : X.plan 72 8 = [(0, [], []), (1, [], []), (2, [], []), (3, [], []), (4, [], []), (5, [], []), (6, [], []), (7, [], []), (8, [], []), (9, [], []), (10, [], []), (11, [], []), (12, [], []), (13, [], []), (14, [], []), (15, [], []), (16, [], []), (17, [], [])] := by kernel_rfl
noncomputable def c73 : Code := (Try.f73.body).getD .skip
theorem body73 : X.body 73 = some (c73, 33, [.tmp 2]) := by kernel_rfl
theorem slot73 : X.slot 73 = fun t => posT [] t 0 := rfl
theorem nslot73 : X.nslots 73 = 0 := rfl
theorem pin73 : X.pin 73 = none := rfl
noncomputable def c74 : Code := (Try.f74.body).getD .skip
theorem body74 : X.body 74 = some (c74, 12, [.tmp 2]) := by kernel_rfl
theorem slot74 : X.slot 74 = fun t => posT [] t 0 := rfl
theorem nslot74 : X.nslots 74 = 0 := rfl
theorem pin74 : X.pin 74 = none := rfl
noncomputable def c75 : Code := (Try.f75.body).getD .skip
theorem body75 : X.body 75 = some (c75, 11, [.tmp 2]) := by kernel_rfl
theorem slot75 : X.slot 75 = fun t => posT [] t 0 := rfl
theorem nslot75 : X.nslots 75 = 0 := rfl
theorem pin75 : X.pin 75 = none := rfl
noncomputable def c76 : Code := (Try.f76.body).getD .skip
theorem body76 : X.body 76 = some (c76, 44, [.tmp 2, .tmp 3]) := by kernel_rfl
theorem slot76 : X.slot 76 = fun t => posT [] t 0 := rfl
theorem nslot76 : X.nslots 76 = 0 := rfl
theorem pin76 : X.pin 76 = none := rfl
theorem plan76_9 : X.plan 76 9 = [(0, [], []), (3, [], []), (4, [], []), (5, [], []), (6, [], []), (7, [], []), (1, [], [(7, [])]), (2, [], []), (8, [], [])] := by kernel_rfl
noncomputable def c77 : Code := (Try.f77.body).getD .skip
theorem body77 : X.body 77 = some (c77, 38, [.tmp 2, .tmp 3]) := by kernel_rfl
theorem slot77 : X.slot 77 = fun t => posT [] t 0 := rfl
theorem nslot77 : X.nslots 77 = 0 := rfl
theorem pin77 : X.pin 77 = none := rfl
noncomputable def c83 : Code := (Try.f83.body).getD .skip
theorem body83 : X.body 83 = some (c83, 25, [.tmp 2]) := by kernel_rfl
theorem slot83 : X.slot 83 = fun t => posT [] t 0 := rfl
theorem nslot83 : X.nslots 83 = 0 := rfl
theorem pin83 : X.pin 83 = none := rfl
noncomputable def c84 : Code := (Try.f84.body).getD .skip
theorem body84 : X.body 84 = some (c84, 15, []) := by kernel_rfl
theorem slot84 : X.slot 84 = fun t => posT [] t 0 := rfl
theorem nslot84 : X.nslots 84 = 0 := rfl
theorem pin84 : X.pin 84 = none := rfl
end Go.Ev
namespace Go.Ev
theorem ty3 : X.ty 3 = ⟨(.int .i64), 1, 8, [(.int .i64 0)], true⟩ := by kernel_rfl
theorem ty4 : X.ty 4 = ⟨.bool, 1, 1, [(.bool false)], true⟩ := by kernel_rfl
theorem ty5 : X.ty 5 = ⟨(.int .u8), 1, 1, [(.int .u8 0)], true⟩ := by kernel_rfl
theorem ty9 : X.ty 9 = ⟨.str, 1, 16, [(.str ⟨#[]⟩)], true⟩ := by kernel_rfl
theorem ty22 : X.ty 22 = ⟨(.slice 9), 1, 24, [(.sl .nil 0 0 0)], true⟩ := by kernel_rfl
theorem ty23 : X.ty 23 = ⟨(.struct [(0, 3), (1, 3), (2, 3), (3, 3), (4, 3), (5, 22)]), 6, 64, [(.int .i64 0), (.int .i64 0), (.int .i64 0), (.int .i64 0), (.int .i64 0), (.sl .nil 0 0 0)], true⟩ := by kernel_rfl
theorem ty24 : X.ty 24 = ⟨(.struct [(0, 3), (1, 3), (2, 3), (3, 3), (4, 3), (5, 22)]), 6, 64, [(.int .i64 0), (.int .i64 0), (.int .i64 0), (.int .i64 0), (.int .i64 0), (.sl .nil 0 0 0)], true⟩ := by kernel_rfl
theorem ty25 : X.ty 25 = ⟨(.struct [(0, 3), (1, 3)]), 2, 16, [(.int .i64 0), (.int .i64 0)], true⟩ := by kernel_rfl
theorem ty26 : X.ty 26 = ⟨(.struct [(0, 3), (1, 3)]), 2, 16, [(.int .i64 0), (.int .i64 0)], true⟩ := by kernel_rfl
theorem ty29 : X.ty 29 = ⟨(.ptr 83), 1, 8, [.nilp], true⟩ := by kernel_rfl
theorem ty30 : X.ty 30 = ⟨(.int .i64), 1, 8, [(.int .i64 0)], true⟩ := by kernel_rfl
theorem ty48 : X.ty 48 = ⟨(.slice 24), 1, 24, [(.sl .nil 0 0 0)], true⟩ := by kernel_rfl
theorem ty49 : X.ty 49 = ⟨(.ptr 62), 1, 8, [.nilp], true⟩ := by kernel_rfl
theorem ty60 : X.ty 60 = ⟨(.slice 102), 1, 24, [(.sl .nil 0 0 0)], true⟩ := by kernel_rfl
theorem ty61 : X.ty 61 = ⟨(.struct [(0, 26), (2, 4), (3, 22), (4, 60)]), 5, 72, [(.int .i64 0), (.int .i64 0), (.bool false), (.sl .nil 0 0 0), (.sl .nil 0 0 0)], true⟩ := by kernel_rfl
theorem ty62 : X.ty 62 = ⟨(.struct [(0, 26), (2, 4), (3, 22), (4, 60)]), 5, 72, [(.int .i64 0), (.int .i64 0), (.bool false), (.sl .nil 0 0 0), (.sl .nil 0 0 0)], true⟩ := by kernel_rfl
theorem ty64 : X.ty 64 = ⟨(.slice 5), 1, 24, [(.sl .nil 0 0 0)], true⟩ := by kernel_rfl
theorem ty67 : X.ty 67 = ⟨(.struct [(0, 64)]), 1, 24, [(.sl .nil 0 0 0)], true⟩ := by kernel_rfl
theorem ty68 : X.ty 68 = ⟨(.struct [(0, 64)]), 1, 24, [(.sl .nil 0 0 0)], true⟩ := by kernel_rfl
theorem ty70 : X.ty 70 = ⟨(.ptr 68), 1, 8, [.nilp], true⟩ := by kernel_rfl
theorem ty72 : X.ty 72 = ⟨(.ptr 117), 1, 8, [.nilp], true⟩ := by kernel_rfl
theorem ty81 : X.ty 81 = ⟨(.slice 95), 1, 24, [(.sl .nil 0 0 0)], true⟩ := by kernel_rfl
theorem ty82 : X.ty 82 = ⟨(.struct [(0, 26), (2, 4), (3, 81)]), 4, 48, [(.int .i64 0), (.int .i64 0), (.bool false), (.sl .nil 0 0 0)], true⟩ := by kernel_rfl
theorem ty83 : X.ty 83 = ⟨(.struct [(0, 26), (2, 4), (3, 81)]), 4, 48, [(.int .i64 0), (.int .i64 0), (.bool false), (.sl .nil 0 0 0)], true⟩ := by kernel_rfl
theorem ty92 : X.ty 92 = ⟨(.arr 4 3), 4, 32, [(.int .i64 0), (.int .i64 0), (.int .i64 0), (.int .i64 0)], true⟩ := by kernel_rfl
theorem ty93 : X.ty 93 = ⟨(.arr 4 3), 4, 32, [(.int .i64 0), (.int .i64 0), (.int .i64 0), (.int .i64 0)], true⟩ := by kernel_rfl
theorem ty94 : X.ty 94 = ⟨(.struct [(0, 9), (1, 93)]), 5, 48, [(.str ⟨#[]⟩), (.int .i64 0), (.int .i64 0), (.int .i64 0), (.int .i64 0)], true⟩ := by kernel_rfl
theorem ty95 : X.ty 95 = ⟨(.struct [(0, 9), (1, 93)]), 5, 48, [(.str ⟨#[]⟩), (.int .i64 0), (.int .i64 0), (.int .i64 0), (.int .i64 0)], true⟩ := by kernel_rfl
theorem ty102 : X.ty 102 = ⟨(.slice 3), 1, 24, [(.sl .nil 0 0 0)], true⟩ := by kernel_rfl
theorem ty106 : X.ty 106 = ⟨(.int .u64), 1, 8, [(.int .u64 0)], true⟩ := by kernel_rfl
theorem ty116 : X.ty 116 = ⟨(.struct [(0, 64), (1, 3), (2, 4)]), 3, 40, [(.sl .nil 0 0 0), (.int .i64 0), (.bool false)], true⟩ := by kernel_rfl
theorem ty117 : X.ty 117 = ⟨(.struct [(0, 64), (1, 3), (2, 4)]), 3, 40, [(.sl .nil 0 0 0), (.int .i64 0), (.bool false)], true⟩ := by kernel_rfl
end Go.Ev
set_option maxRecDepth 100000
namespace Go.Ev
open Go.Proofs
def Strs (h : Heap) (v : V) (l : List ByteArray) : Prop :=
  (∀ s ∈ l, s.size <= 9223372036854775807) /\ l.length <= 9223372036854775807 /\ ((v = .sl .nil 0 0 0 /\ l = []) \/ (v = .sl .any 0 0 1 /\ l = []) \/ ∃ b cap full, v = .sl (.at b 0 0) l.length cap 0 /\ l.length <= cap /\ cap <= 9223372036854775807 /\ h[b]? = some (.cells 0 false full) /\ full.length = cap /\ ∀ (i : Nat) (s : ByteArray), l[i]? = some s -> full[i]? = some (V.str s))
theorem Strs.sl {h : Heap} {v : V} {l : List ByteArray} (hs : Strs h v l) : ∃ a len cap z, v = .sl a len cap z := by
  obtain ⟨_, _, ⟨rfl, _⟩ | ⟨rfl, _⟩ | ⟨b, cap, full, rfl, _⟩⟩ := hs
  · exact ⟨_, _, _, _, rfl⟩
  · exact ⟨_, _, _, _, rfl⟩
  · exact ⟨_, _, _, _, rfl⟩
end Go.Ev
namespace Go.Ev
theorem Za : (type_of% @wrap_i64) /\ (type_of% @grd_tr) /\ (type_of% @and_true) /\ (type_of% @true_and) /\ (type_of% @Int.le_refl) /\ (type_of% @evC_seq) /\ (type_of% @evC_region) /\ (type_of% @evC_plan) /\ (type_of% @evC_block) /\ (type_of% @evC_scope) /\ (type_of% @evC_cond) /\ (type_of% @evC_exit) /\ (type_of% @evC_ret) /\ (type_of% @evC_skip) /\ (type_of% @evC_label) /\ (type_of% @evC_loop) /\ (type_of% @loopK_eq) /\ (type_of% @exOps_nil) /\ (type_of% @exOps_cons) /\ (type_of% @Go.Ev.wantedT.eq_1) := ⟨@wrap_i64, @grd_tr, @and_true, @true_and, @Int.le_refl, @evC_seq, @evC_region, @evC_plan, @evC_block, @evC_scope, @evC_cond, @evC_exit, @evC_ret, @evC_skip, @evC_label, @evC_loop, @loopK_eq, @exOps_nil, @exOps_cons, @Go.Ev.wantedT.eq_1⟩
theorem Zb : (type_of% @Go.Ev.wantedT.eq_2) /\ (type_of% @bnd_s) /\ (type_of% @stepK_t) /\ (type_of% @stepK_f) /\ (type_of% @putK_eq) /\ (type_of% @seqK_n) /\ (type_of% @seqK_e) /\ (type_of% @seqK_r) /\ (type_of% @blockK_n) /\ (type_of% @blockK_e) /\ (type_of% @blockK_r) /\ (type_of% @brK_t) /\ (type_of% @brK_f) /\ (type_of% @bnd_bnd) /\ (type_of% @thenK_eq) /\ (type_of% @ok_some) /\ (type_of% @stopK_eq) /\ (type_of% @beq_f) /\ (type_of% @beq_t) /\ (type_of% @Bool.not_not) := ⟨@Go.Ev.wantedT.eq_2, @bnd_s, @stepK_t, @stepK_f, @putK_eq, @seqK_n, @seqK_e, @seqK_r, @blockK_n, @blockK_e, @blockK_r, @brK_t, @brK_f, @bnd_bnd, @thenK_eq, @ok_some, @stopK_eq, @beq_f, @beq_t, @Bool.not_not⟩
theorem Zc : (type_of% @cond_true.{1}) /\ (type_of% @cond_false.{1}) /\ (type_of% @resK_n) /\ (type_of% @resK_r) /\ (type_of% @exOp_move) /\ (type_of% @exOp_assign) /\ (type_of% @exOp_pick) /\ (type_of% @exOp_alloc) /\ (type_of% @exOp_box) /\ (type_of% @exOp_build) /\ (type_of% @exOp_buildSlice) /\ (type_of% @exOp_load) /\ (type_of% @exOp_store) /\ (type_of% @exOp_nilCheck) /\ (type_of% @exOp_binOp) /\ (type_of% @exOp_unOp) /\ (type_of% @exOp_convert) /\ (type_of% @exOp_makeFunc) /\ (type_of% @exOp_makeSlice) /\ (type_of% @exOp_slice) := ⟨@cond_true.{1}, @cond_false.{1}, @resK_n, @resK_r, @exOp_move, @exOp_assign, @exOp_pick, @exOp_alloc, @exOp_box, @exOp_build, @exOp_buildSlice, @exOp_load, @exOp_store, @exOp_nilCheck, @exOp_binOp, @exOp_unOp, @exOp_convert, @exOp_makeFunc, @exOp_makeSlice, @exOp_slice⟩
theorem Zd : (type_of% @exOp_fieldAddr) /\ (type_of% @exOp_field) /\ (type_of% @exOp_indexAddr) /\ (type_of% @exOp_index) /\ (type_of% @exOp_extract) /\ (type_of% @exOp_builtin) /\ (type_of% @exOp_call) /\ (type_of% @callK_eq) /\ (type_of% @Go.Ev.opd.eq_1) /\ (type_of% @Go.Ev.opd.eq_2) /\ (type_of% @Go.Ev.opd.eq_3) /\ (type_of% @Go.Ev.opd.eq_4) /\ (type_of% @Go.Ev.getT.eq_1) /\ (type_of% @Go.Ev.constT.eq_1) /\ (type_of% @Go.Ev.newVar.eq_1) /\ (type_of% @Go.Ev.newVar.eq_2) /\ (type_of% @Go.Ev.St.put.eq_1) /\ (type_of% @Go.Ev.setT.eq_1) /\ (type_of% @Go.Ev.setT.eq_2) /\ (type_of% @posT.eq_1) := ⟨@exOp_fieldAddr, @exOp_field, @exOp_indexAddr, @exOp_index, @exOp_extract, @exOp_builtin, @exOp_call, @callK_eq, @Go.Ev.opd.eq_1, @Go.Ev.opd.eq_2, @Go.Ev.opd.eq_3, @Go.Ev.opd.eq_4, @Go.Ev.getT.eq_1, @Go.Ev.constT.eq_1, @Go.Ev.newVar.eq_1, @Go.Ev.newVar.eq_2, @Go.Ev.St.put.eq_1, @Go.Ev.setT.eq_1, @Go.Ev.setT.eq_2, @posT.eq_1⟩
theorem Ze : (type_of% @posT.eq_2) /\ (type_of% @Option.bind_some.{0,0}) /\ (type_of% @List.getD_cons_zero.{0}) /\ (type_of% @List.getD_cons_succ.{0}) /\ (type_of% @List.set_cons_zero.{0}) /\ (type_of% @List.set_cons_succ.{0}) /\ (type_of% @List.getElem?_cons_zero.{0}) /\ (type_of% @List.getElem?_cons_succ.{0}) /\ (type_of% @List.getElem?_nil.{0}) /\ (type_of% @decide_true) /\ (type_of% @decide_false) /\ (type_of% @Go.Ev.fieldAddrV.eq_1) /\ (type_of% @Go.Ev.fieldOff.eq_1) /\ (type_of% @Go.Ev.lcells.eq_1) /\ (type_of% @Go.Ev.rd.eq_1) /\ (type_of% @Go.Ev.TI.kind.eq_1) /\ (type_of% @grd_t) /\ (type_of% @and_self) /\ (type_of% @cnd_t) /\ (type_of% @cnd_f) := ⟨@posT.eq_2, @Option.bind_some.{0,0}, @List.getD_cons_zero.{0}, @List.getD_cons_succ.{0}, @List.set_cons_zero.{0}, @List.set_cons_succ.{0}, @List.getElem?_cons_zero.{0}, @List.getElem?_cons_succ.{0}, @List.getElem?_nil.{0}, @decide_true, @decide_false, @Go.Ev.fieldAddrV.eq_1, @Go.Ev.fieldOff.eq_1, @Go.Ev.lcells.eq_1, @Go.Ev.rd.eq_1, @Go.Ev.TI.kind.eq_1, @grd_t, @and_self, @cnd_t, @cnd_f⟩
theorem Zf : (type_of% @Bool.not_true) /\ (type_of% @Bool.not_false) /\ (type_of% @Bool.true_beq) /\ (type_of% @Bool.false_beq) /\ (type_of% @beq_self_eq_true.{0}) /\ (type_of% @exPlan_nil) /\ (type_of% @exPlan_cons) /\ (type_of% @entryK_eq) /\ (type_of% @leadK_t) /\ (type_of% @leadK_f) /\ (type_of% @lookK_nil) /\ (type_of% @lookK_cons) /\ (type_of% @Go.Ev.leadsT.eq_1) /\ (type_of% @Go.Ev.leadsT.eq_2) /\ (type_of% @Go.Ev.again.eq_1) /\ (type_of% @Bool.and_true) /\ (type_of% @Bool.true_and) /\ (type_of% @Go.Op.operands.eq_1) /\ (type_of% @Go.Op.operands.eq_2) /\ (type_of% @Go.Op.operands.eq_3) := ⟨@Bool.not_true, @Bool.not_false, @Bool.true_beq, @Bool.false_beq, @beq_self_eq_true.{0}, @exPlan_nil, @exPlan_cons, @entryK_eq, @leadK_t, @leadK_f, @lookK_nil, @lookK_cons, @Go.Ev.leadsT.eq_1, @Go.Ev.leadsT.eq_2, @Go.Ev.again.eq_1, @Bool.and_true, @Bool.true_and, @Go.Op.operands.eq_1, @Go.Op.operands.eq_2, @Go.Op.operands.eq_3⟩
theorem Zg : (type_of% @Go.Op.operands.eq_4) /\ (type_of% @Go.Op.operands.eq_5) /\ (type_of% @Go.Op.operands.eq_6) /\ (type_of% @Go.Op.operands.eq_7) /\ (type_of% @Go.Op.operands.eq_8) /\ (type_of% @Go.Op.operands.eq_9) /\ (type_of% @Go.Op.operands.eq_10) /\ (type_of% @Go.Op.operands.eq_11) /\ (type_of% @Go.Op.operands.eq_12) /\ (type_of% @Go.Op.operands.eq_13) /\ (type_of% @Go.Op.operands.eq_14) /\ (type_of% @Go.Op.operands.eq_15) /\ (type_of% @Go.Op.operands.eq_16) /\ (type_of% @Go.Op.operands.eq_17) /\ (type_of% @Go.Op.operands.eq_18) /\ (type_of% @Go.Op.operands.eq_19) /\ (type_of% @Go.Op.operands.eq_20) /\ (type_of% @Go.Op.operands.eq_21) /\ (type_of% @Go.Op.operands.eq_22) /\ (type_of% @Go.Op.operands.eq_23) := ⟨@Go.Op.operands.eq_4, @Go.Op.operands.eq_5, @Go.Op.operands.eq_6, @Go.Op.operands.eq_7, @Go.Op.operands.eq_8, @Go.Op.operands.eq_9, @Go.Op.operands.eq_10, @Go.Op.operands.eq_11, @Go.Op.operands.eq_12, @Go.Op.operands.eq_13, @Go.Op.operands.eq_14, @Go.Op.operands.eq_15, @Go.Op.operands.eq_16, @Go.Op.operands.eq_17, @Go.Op.operands.eq_18, @Go.Op.operands.eq_19, @Go.Op.operands.eq_20, @Go.Op.operands.eq_21, @Go.Op.operands.eq_22, @Go.Op.operands.eq_23⟩
theorem Zh : (type_of% @Go.Op.operands.eq_24) /\ (type_of% @Go.Op.operands.eq_25) /\ (type_of% @Go.Op.operands.eq_26) /\ (type_of% @Go.Op.operands.eq_27) /\ (type_of% @Go.Op.operands.eq_28) /\ (type_of% @Go.Op.operands.eq_29) /\ (type_of% @Go.Op.operands.eq_30) /\ (type_of% @Go.Op.operands.eq_31) /\ (type_of% @Go.Op.operands.eq_32) /\ (type_of% @Go.Op.operands.eq_33) /\ (type_of% @Go.Op.operands.eq_34) /\ (type_of% @Go.Op.operands.eq_35) /\ (type_of% @Go.Op.operands.eq_36) /\ (type_of% @Go.Op.operands.eq_37) /\ (type_of% @Go.Op.operands.eq_38) /\ (type_of% @Go.Op.operands.eq_39) /\ (type_of% @Go.Op.operands.eq_40) /\ (type_of% @Go.Op.operands.eq_41) /\ (type_of% @Go.Op.operands.eq_42) /\ (type_of% @Go.Op.operands.eq_43) := ⟨@Go.Op.operands.eq_24, @Go.Op.operands.eq_25, @Go.Op.operands.eq_26, @Go.Op.operands.eq_27, @Go.Op.operands.eq_28, @Go.Op.operands.eq_29, @Go.Op.operands.eq_30, @Go.Op.operands.eq_31, @Go.Op.operands.eq_32, @Go.Op.operands.eq_33, @Go.Op.operands.eq_34, @Go.Op.operands.eq_35, @Go.Op.operands.eq_36, @Go.Op.operands.eq_37, @Go.Op.operands.eq_38, @Go.Op.operands.eq_39, @Go.Op.operands.eq_40, @Go.Op.operands.eq_41, @Go.Op.operands.eq_42, @Go.Op.operands.eq_43⟩
theorem Zi : (type_of% @callops_v) /\ (type_of% @callops_b) /\ (type_of% @List.elem_cons.{0}) /\ (type_of% @List.elem_nil.{0}) /\ (type_of% @List.toList_toArray.{0}) /\ (type_of% @Go.Ev.buildV.eq_1) /\ (type_of% @Go.Ev.fillV.eq_1) /\ (type_of% @Go.Ev.fillV.eq_2) /\ (type_of% @Go.Ev.splice.eq_1) /\ (type_of% @List.zip.eq_1.{0,0}) /\ (type_of% @List.map_cons.{0,0}) /\ (type_of% @List.map_nil.{0,0}) /\ (type_of% @List.all_cons.{0}) /\ (type_of% @List.all_nil.{0}) /\ (type_of% @List.length_cons.{0}) /\ (type_of% @List.length_nil.{0}) /\ (type_of% @List.take.eq_1.{0}) /\ (type_of% @List.take.eq_2.{0}) /\ (type_of% @List.take.eq_3.{0}) /\ (type_of% @List.drop.eq_1.{0}) := ⟨@callops_v, @callops_b, @List.elem_cons.{0}, @List.elem_nil.{0}, @List.toList_toArray.{0}, @Go.Ev.buildV.eq_1, @Go.Ev.fillV.eq_1, @Go.Ev.fillV.eq_2, @Go.Ev.splice.eq_1, @List.zip.eq_1.{0,0}, @List.map_cons.{0,0}, @List.map_nil.{0,0}, @List.all_cons.{0}, @List.all_nil.{0}, @List.length_cons.{0}, @List.length_nil.{0}, @List.take.eq_1.{0}, @List.take.eq_2.{0}, @List.take.eq_3.{0}, @List.drop.eq_1.{0}⟩
theorem Zj : (type_of% @List.drop.eq_2.{0}) /\ (type_of% @List.drop.eq_3.{0}) /\ (type_of% @List.cons_append.{0}) /\ (type_of% @List.nil_append.{0}) /\ (type_of% @Go.Ev.results.eq_1) /\ (type_of% @Go.Ev.results.eq_2) /\ (type_of% @Go.Ev.results.eq_3) /\ (type_of% @List.set.eq_1.{0}) /\ (type_of% @List.set.eq_2.{0}) /\ (type_of% @List.set.eq_3.{0}) /\ (type_of% @Nat.mul_one) /\ (type_of% @Nat.zero_add) /\ (type_of% @Nat.add_zero) /\ (type_of% @Nat.le_refl) /\ (type_of% @List.append_nil.{0}) /\ (type_of% @veq_eq) /\ (type_of% @veqM_int) /\ (type_of% @veqM_str) /\ (type_of% @veqM_bool) /\ (type_of% @veqM_p1) := ⟨@List.drop.eq_2.{0}, @List.drop.eq_3.{0}, @List.cons_append.{0}, @List.nil_append.{0}, @Go.Ev.results.eq_1, @Go.Ev.results.eq_2, @Go.Ev.results.eq_3, @List.set.eq_1.{0}, @List.set.eq_2.{0}, @List.set.eq_3.{0}, @Nat.mul_one, @Nat.zero_add, @Nat.add_zero, @Nat.le_refl, @List.append_nil.{0}, @veq_eq, @veqM_int, @veqM_str, @veqM_bool, @veqM_p1⟩
theorem Zk : (type_of% @veqM_p2) /\ (type_of% @veqM_p3) /\ (type_of% @veqM_s1) /\ (type_of% @veqM_s2) /\ (type_of% @veqM_s3) /\ (type_of% @veqM_s4) /\ (type_of% @veqM_s5) /\ (type_of% @veqM_m1) /\ (type_of% @veqM_m2) /\ (type_of% @veqM_m3) /\ (type_of% @veqM_f1) /\ (type_of% @veqM_f2) /\ (type_of% @veqM_f3) /\ (type_of% @veqM_struct) /\ (type_of% @veqM_arr) /\ (type_of% @veqF_nil) /\ (type_of% @veqF_cons) /\ (type_of% @veqA_nil) /\ (type_of% @veqA_cons) /\ (type_of% @partK_eq) := ⟨@veqM_p2, @veqM_p3, @veqM_s1, @veqM_s2, @veqM_s3, @veqM_s4, @veqM_s5, @veqM_m1, @veqM_m2, @veqM_m3, @veqM_f1, @veqM_f2, @veqM_f3, @veqM_struct, @veqM_arr, @veqF_nil, @veqF_cons, @veqA_nil, @veqA_cons, @partK_eq⟩
theorem Zl : (type_of% @cnd_and) /\ (type_of% @Go.Ev.bound.eq_1) /\ (type_of% @Go.Ev.bound.eq_2) /\ (type_of% @Go.Ev.idx.eq_1) /\ (type_of% @Go.Ev.idxLe.eq_1) /\ (type_of% @Go.Ev.putBlk.eq_1) /\ (type_of% @Go.Ev.newBlk.eq_1) /\ (type_of% @Go.Ev.buildSliceV.eq_1) /\ (type_of% @Int.toNat_natCast) /\ (type_of% @Option.isSome_none.{0}) /\ (type_of% @Option.isNone_none.{0}) /\ (type_of% @Option.isSome_some.{0}) /\ (type_of% @Option.isNone_some.{0}) /\ (type_of% @Bool.or_false) /\ (type_of% @Bool.or_true) /\ (type_of% @Bool.true_or) /\ (type_of% @Bool.false_or) /\ (type_of% @Bool.and_false) /\ (type_of% @Bool.false_and) /\ (type_of% @unrK_n) := ⟨@cnd_and, @Go.Ev.bound.eq_1, @Go.Ev.bound.eq_2, @Go.Ev.idx.eq_1, @Go.Ev.idxLe.eq_1, @Go.Ev.putBlk.eq_1, @Go.Ev.newBlk.eq_1, @Go.Ev.buildSliceV.eq_1, @Int.toNat_natCast, @Option.isSome_none.{0}, @Option.isNone_none.{0}, @Option.isSome_some.{0}, @Option.isNone_some.{0}, @Bool.or_false, @Bool.or_true, @Bool.true_or, @Bool.false_or, @Bool.and_false, @Bool.false_and, @unrK_n⟩
theorem Zm : (type_of% @unrK_e) /\ (type_of% @unrK_r) /\ (type_of% @hcells_app) /\ (type_of% @hcells_ge) /\ (type_of% @hcells_c0) /\ (type_of% @hcells_cs) /\ (type_of% @heap_set_ge) /\ (type_of% @heap_set_lt) /\ (type_of% @Nat.add_sub_cancel_left) /\ (type_of% @Nat.sub_self) /\ (type_of% @List.append_assoc.{0}) /\ (type_of% @hcells_set_ne) /\ (type_of% @hcells_set_eq) /\ (type_of% @evC_rf) /\ (type_of% @rfK_eq) /\ (type_of% @nat_cast_0) /\ (type_of% @nat_cast_1) /\ (type_of% @List.length_append.{0}) /\ (type_of% @List.length_set.{0}) /\ (type_of% @List.replicate_zero.{0}) := ⟨@unrK_e, @unrK_r, @hcells_app, @hcells_ge, @hcells_c0, @hcells_cs, @heap_set_ge, @heap_set_lt, @Nat.add_sub_cancel_left, @Nat.sub_self, @List.append_assoc.{0}, @hcells_set_ne, @hcells_set_eq, @evC_rf, @rfK_eq, @nat_cast_0, @nat_cast_1, @List.length_append.{0}, @List.length_set.{0}, @List.replicate_zero.{0}⟩
theorem Zn : (type_of% @List.flatten_nil.{0}) /\ (type_of% @itT) /\ (type_of% @itF) /\ (type_of% @reps_0) /\ (type_of% @reps_1) /\ (type_of% @arr_empty) /\ (type_of% @asgK_n) /\ (type_of% @asgM_s) /\ (type_of% @endRound_eq) /\ (type_of% @endM_n) /\ (type_of% @endM_r) /\ (type_of% @endM_e) /\ (type_of% @loopAt_set_ne) /\ (type_of% @loopAt_set_eq) /\ (type_of% @loopAt_app) /\ (type_of% @List.set_set.{0}) /\ (type_of% @or_true) /\ (type_of% @true_or) /\ (type_of% @or_false) /\ (type_of% @false_or) := ⟨@List.flatten_nil.{0}, @itT, @itF, @reps_0, @reps_1, @arr_empty, @asgK_n, @asgM_s, @endRound_eq, @endM_n, @endM_r, @endM_e, @loopAt_set_ne, @loopAt_set_eq, @loopAt_app, @List.set_set.{0}, @or_true, @true_or, @or_false, @false_or⟩
theorem Zo : (type_of% @loopAt_ge) /\ (type_of% @loopAt_c0) /\ (type_of% @loopAt_cs) /\ (type_of% @endRF_eq) /\ (type_of% @endFM_n) /\ (type_of% @endFM_r) /\ (type_of% @endFM_e) := ⟨@loopAt_ge, @loopAt_c0, @loopAt_cs, @endRF_eq, @endFM_n, @endFM_r, @endFM_e⟩
theorem ZGS : (type_of% @decide_eq_true_eq) /\ (type_of% @decide_eq_false_iff_not) /\ (type_of% @beq_f) /\ (type_of% @beq_t) /\ (type_of% @Bool.not_eq_true') /\ (type_of% @Bool.not_eq_false') /\ (type_of% @Bool.not_not) /\ (type_of% @Bool.false_eq_true) /\ (type_of% @Bool.true_eq_false) := ⟨@decide_eq_true_eq, @decide_eq_false_iff_not, @beq_f, @beq_t, @Bool.not_eq_true', @Bool.not_eq_false', @Bool.not_not, @Bool.false_eq_true, @Bool.true_eq_false⟩
theorem ZDI : (type_of% @List.length_append.{0}) /\ (type_of% @List.length_cons.{0}) /\ (type_of% @List.length_nil.{0}) /\ (type_of% @List.length_set.{0}) := ⟨@List.length_append.{0}, @List.length_cons.{0}, @List.length_nil.{0}, @List.length_set.{0}⟩
end Go.Ev
namespace Go.Ev
theorem G83 : (type_of% @ty3) /\ (type_of% @ty5) /\ (type_of% @ty9) /\ (type_of% @ty106) /\ (type_of% @slot83) := ⟨@ty3, @ty5, @ty9, @ty106, @slot83⟩
theorem G63 : (type_of% @ty5) /\ (type_of% @ty64) /\ (type_of% @ty67) /\ (type_of% @ty68) /\ (type_of% @slot63) := ⟨@ty5, @ty64, @ty67, @ty68, @slot63⟩
theorem G60 : (type_of% @ty3) /\ (type_of% @ty5) /\ (type_of% @ty64) /\ (type_of% @ty67) /\ (type_of% @ty68) /\ (type_of% @ty106) /\ (type_of% @slot60) /\ (type_of% @plan60_3) := ⟨@ty3, @ty5, @ty64, @ty67, @ty68, @ty106, @slot60, @plan60_3⟩
theorem G61 : (type_of% @ty5) /\ (type_of% @ty64) /\ (type_of% @ty67) /\ (type_of% @ty68) /\ (type_of% @ty70) /\ (type_of% @slot61) := ⟨@ty5, @ty64, @ty67, @ty68, @ty70, @slot61⟩
theorem G62 : (type_of% @ty3) /\ (type_of% @ty5) /\ (type_of% @ty9) /\ (type_of% @ty64) /\ (type_of% @ty67) /\ (type_of% @ty68) /\ (type_of% @ty70) /\ (type_of% @ty106) /\ (type_of% @slot62) := ⟨@ty3, @ty5, @ty9, @ty64, @ty67, @ty68, @ty70, @ty106, @slot62⟩
theorem G37 : (type_of% @ty5) /\ (type_of% @ty64) /\ (type_of% @ty67) /\ (type_of% @ty68) /\ (type_of% @slot37) := ⟨@ty5, @ty64, @ty67, @ty68, @slot37⟩
theorem G43 : (type_of% @ty3) /\ (type_of% @ty4) /\ (type_of% @ty5) /\ (type_of% @ty64) /\ (type_of% @ty72) /\ (type_of% @ty116) /\ (type_of% @ty117) /\ (type_of% @slot43) := ⟨@ty3, @ty4, @ty5, @ty64, @ty72, @ty116, @ty117, @slot43⟩
theorem G42 : (type_of% @ty3) /\ (type_of% @ty4) /\ (type_of% @ty5) /\ (type_of% @ty64) /\ (type_of% @ty72) /\ (type_of% @ty116) /\ (type_of% @ty117) /\ (type_of% @slot42) /\ (type_of% @plan42_3) := ⟨@ty3, @ty4, @ty5, @ty64, @ty72, @ty116, @ty117, @slot42, @plan42_3⟩
theorem G84 : (type_of% @ty3) /\ (type_of% @ty4) /\ (type_of% @ty5) /\ (type_of% @ty64) /\ (type_of% @ty72) /\ (type_of% @ty116) /\ (type_of% @ty117) /\ (type_of% @slot84) := ⟨@ty3, @ty4, @ty5, @ty64, @ty72, @ty116, @ty117, @slot84⟩
theorem G69 : (type_of% @ty3) /\ (type_of% @ty4) /\ (type_of% @ty5) /\ (type_of% @ty64) /\ (type_of% @ty72) /\ (type_of% @ty116) /\ (type_of% @ty117) /\ (type_of% @slot69) /\ (type_of% @plan69_5) := ⟨@ty3, @ty4, @ty5, @ty64, @ty72, @ty116, @ty117, @slot69, @plan69_5⟩
theorem G73 : (type_of% @ty3) /\ (type_of% @ty4) /\ (type_of% @ty5) /\ (type_of% @ty64) /\ (type_of% @ty72) /\ (type_of% @ty106) /\ (type_of% @ty116) /\ (type_of% @ty117) /\ (type_of% @slot73) := ⟨@ty3, @ty4, @ty5, @ty64, @ty72, @ty106, @ty116, @ty117, @slot73⟩
theorem G74 : (type_of% @ty3) /\ (type_of% @ty4) /\ (type_of% @ty5) /\ (type_of% @ty64) /\ (type_of% @ty72) /\ (type_of% @ty116) /\ (type_of% @ty117) /\ (type_of% @slot74) := ⟨@ty3, @ty4, @ty5, @ty64, @ty72, @ty116, @ty117, @slot74⟩
theorem G72 : (type_of% @ty3) /\ (type_of% @ty4) /\ (type_of% @ty5) /\ (type_of% @ty9) /\ (type_of% @ty64) /\ (type_of% @ty72) /\ (type_of% @ty106) /\ (type_of% @ty116) /\ (type_of% @ty117) /\ (type_of% @slot72) /\ (type_of% @plan72_8) := ⟨@ty3, @ty4, @ty5, @ty9, @ty64, @ty72, @ty106, @ty116, @ty117, @slot72, @plan72_8⟩
theorem G67 : (type_of% @ty5) /\ (type_of% @ty64) /\ (type_of% @ty106) /\ (type_of% @slot67) := ⟨@ty5, @ty64, @ty106, @slot67⟩
theorem G51 : (type_of% @ty3) /\ (type_of% @ty5) /\ (type_of% @ty9) /\ (type_of% @slot51) := ⟨@ty3, @ty5, @ty9, @slot51⟩
theorem G52 : (type_of% @ty3) /\ (type_of% @ty5) /\ (type_of% @ty9) /\ (type_of% @slot52) := ⟨@ty3, @ty5, @ty9, @slot52⟩
theorem G17 : (type_of% @ty3) /\ (type_of% @ty4) /\ (type_of% @ty9) /\ (type_of% @ty25) /\ (type_of% @ty26) /\ (type_of% @ty81) /\ (type_of% @ty82) /\ (type_of% @ty83) /\ (type_of% @ty92) /\ (type_of% @ty93) /\ (type_of% @ty94) /\ (type_of% @ty95) /\ (type_of% @slot17) /\ (type_of% @plan17_3) := ⟨@ty3, @ty4, @ty9, @ty25, @ty26, @ty81, @ty82, @ty83, @ty92, @ty93, @ty94, @ty95, @slot17, @plan17_3⟩
theorem G20 : (type_of% @ty3) /\ (type_of% @ty4) /\ (type_of% @ty9) /\ (type_of% @ty25) /\ (type_of% @ty26) /\ (type_of% @ty29) /\ (type_of% @ty81) /\ (type_of% @ty82) /\ (type_of% @ty83) /\ (type_of% @ty92) /\ (type_of% @ty93) /\ (type_of% @ty94) /\ (type_of% @ty95) /\ (type_of% @slot20) := ⟨@ty3, @ty4, @ty9, @ty25, @ty26, @ty29, @ty81, @ty82, @ty83, @ty92, @ty93, @ty94, @ty95, @slot20⟩
theorem G3 : (type_of% @ty3) /\ (type_of% @ty4) /\ (type_of% @ty9) /\ (type_of% @ty22) /\ (type_of% @ty23) /\ (type_of% @ty24) /\ (type_of% @ty25) /\ (type_of% @ty26) /\ (type_of% @ty29) /\ (type_of% @ty30) /\ (type_of% @ty81) /\ (type_of% @ty82) /\ (type_of% @ty83) /\ (type_of% @ty92) /\ (type_of% @ty93) /\ (type_of% @ty94) /\ (type_of% @ty95) /\ (type_of% @slot3) /\ (type_of% @plan3_5) := ⟨@ty3, @ty4, @ty9, @ty22, @ty23, @ty24, @ty25, @ty26, @ty29, @ty30, @ty81, @ty82, @ty83, @ty92, @ty93, @ty94, @ty95, @slot3, @plan3_5⟩
theorem G55 : (type_of% @ty3) /\ (type_of% @ty4) /\ (type_of% @ty9) /\ (type_of% @ty25) /\ (type_of% @ty26) /\ (type_of% @ty29) /\ (type_of% @ty81) /\ (type_of% @ty82) /\ (type_of% @ty83) /\ (type_of% @ty92) /\ (type_of% @ty93) /\ (type_of% @ty94) /\ (type_of% @ty95) /\ (type_of% @slot55) /\ (type_of% @plan55_5) := ⟨@ty3, @ty4, @ty9, @ty25, @ty26, @ty29, @ty81, @ty82, @ty83, @ty92, @ty93, @ty94, @ty95, @slot55, @plan55_5⟩
theorem G23 : (type_of% @ty3) /\ (type_of% @ty4) /\ (type_of% @ty9) /\ (type_of% @ty25) /\ (type_of% @ty26) /\ (type_of% @ty29) /\ (type_of% @ty30) /\ (type_of% @ty81) /\ (type_of% @ty82) /\ (type_of% @ty83) /\ (type_of% @ty92) /\ (type_of% @ty93) /\ (type_of% @ty94) /\ (type_of% @ty95) /\ (type_of% @slot23) := ⟨@ty3, @ty4, @ty9, @ty25, @ty26, @ty29, @ty30, @ty81, @ty82, @ty83, @ty92, @ty93, @ty94, @ty95, @slot23⟩
theorem G24 : (type_of% @ty3) /\ (type_of% @ty4) /\ (type_of% @ty9) /\ (type_of% @ty25) /\ (type_of% @ty26) /\ (type_of% @ty29) /\ (type_of% @ty30) /\ (type_of% @ty81) /\ (type_of% @ty82) /\ (type_of% @ty83) /\ (type_of% @ty92) /\ (type_of% @ty93) /\ (type_of% @ty94) /\ (type_of% @ty95) /\ (type_of% @slot24) := ⟨@ty3, @ty4, @ty9, @ty25, @ty26, @ty29, @ty30, @ty81, @ty82, @ty83, @ty92, @ty93, @ty94, @ty95, @slot24⟩
theorem G30 : (type_of% @ty3) /\ (type_of% @ty4) /\ (type_of% @ty9) /\ (type_of% @ty25) /\ (type_of% @ty26) /\ (type_of% @ty29) /\ (type_of% @ty81) /\ (type_of% @ty82) /\ (type_of% @ty83) /\ (type_of% @ty92) /\ (type_of% @ty93) /\ (type_of% @ty94) /\ (type_of% @ty95) /\ (type_of% @slot30) := ⟨@ty3, @ty4, @ty9, @ty25, @ty26, @ty29, @ty81, @ty82, @ty83, @ty92, @ty93, @ty94, @ty95, @slot30⟩
theorem G57 : (type_of% @ty3) /\ (type_of% @ty4) /\ (type_of% @ty9) /\ (type_of% @ty22) /\ (type_of% @ty25) /\ (type_of% @ty26) /\ (type_of% @ty60) /\ (type_of% @ty61) /\ (type_of% @ty62) /\ (type_of% @ty102) /\ (type_of% @slot57) := ⟨@ty3, @ty4, @ty9, @ty22, @ty25, @ty26, @ty60, @ty61, @ty62, @ty102, @slot57⟩
theorem G28 : (type_of% @ty3) /\ (type_of% @ty4) /\ (type_of% @ty9) /\ (type_of% @ty22) /\ (type_of% @ty25) /\ (type_of% @ty26) /\ (type_of% @ty29) /\ (type_of% @ty30) /\ (type_of% @ty60) /\ (type_of% @ty61) /\ (type_of% @ty62) /\ (type_of% @ty81) /\ (type_of% @ty82) /\ (type_of% @ty83) /\ (type_of% @ty92) /\ (type_of% @ty93) /\ (type_of% @ty94) /\ (type_of% @ty95) /\ (type_of% @ty102) /\ (type_of% @slot28) /\ (type_of% @plan28_1) := ⟨@ty3, @ty4, @ty9, @ty22, @ty25, @ty26, @ty29, @ty30, @ty60, @ty61, @ty62, @ty81, @ty82, @ty83, @ty92, @ty93, @ty94, @ty95, @ty102, @slot28, @plan28_1⟩
theorem G6 : (type_of% @ty3) /\ (type_of% @ty4) /\ (type_of% @ty9) /\ (type_of% @ty22) /\ (type_of% @ty23) /\ (type_of% @ty24) /\ (type_of% @ty25) /\ (type_of% @ty26) /\ (type_of% @ty29) /\ (type_of% @ty48) /\ (type_of% @ty49) /\ (type_of% @ty60) /\ (type_of% @ty61) /\ (type_of% @ty62) /\ (type_of% @ty81) /\ (type_of% @ty82) /\ (type_of% @ty83) /\ (type_of% @ty92) /\ (type_of% @ty93) /\ (type_of% @ty94) /\ (type_of% @ty95) /\ (type_of% @ty102) /\ (type_of% @slot6) := ⟨@ty3, @ty4, @ty9, @ty22, @ty23, @ty24, @ty25, @ty26, @ty29, @ty48, @ty49, @ty60, @ty61, @ty62, @ty81, @ty82, @ty83, @ty92, @ty93, @ty94, @ty95, @ty102, @slot6⟩
theorem G35 : (type_of% @ty3) /\ (type_of% @ty4) /\ (type_of% @ty5) /\ (type_of% @ty9) /\ (type_of% @ty25) /\ (type_of% @ty26) /\ (type_of% @ty29) /\ (type_of% @ty64) /\ (type_of% @ty67) /\ (type_of% @ty68) /\ (type_of% @ty70) /\ (type_of% @ty81) /\ (type_of% @ty82) /\ (type_of% @ty83) /\ (type_of% @ty92) /\ (type_of% @ty93) /\ (type_of% @ty94) /\ (type_of% @ty95) /\ (type_of% @ty106) /\ (type_of% @slot35) := ⟨@ty3, @ty4, @ty5, @ty9, @ty25, @ty26, @ty29, @ty64, @ty67, @ty68, @ty70, @ty81, @ty82, @ty83, @ty92, @ty93, @ty94, @ty95, @ty106, @slot35⟩
theorem G39 : (type_of% @ty3) /\ (type_of% @ty4) /\ (type_of% @ty5) /\ (type_of% @ty64) /\ (type_of% @ty116) /\ (type_of% @ty117) /\ (type_of% @slot39) := ⟨@ty3, @ty4, @ty5, @ty64, @ty116, @ty117, @slot39⟩
theorem G75 : (type_of% @ty3) /\ (type_of% @ty4) /\ (type_of% @ty5) /\ (type_of% @ty64) /\ (type_of% @ty72) /\ (type_of% @ty116) /\ (type_of% @ty117) /\ (type_of% @slot75) := ⟨@ty3, @ty4, @ty5, @ty64, @ty72, @ty116, @ty117, @slot75⟩
theorem G44 : (type_of% @ty3) /\ (type_of% @ty4) /\ (type_of% @ty5) /\ (type_of% @ty9) /\ (type_of% @ty25) /\ (type_of% @ty26) /\ (type_of% @ty64) /\ (type_of% @ty72) /\ (type_of% @ty81) /\ (type_of% @ty82) /\ (type_of% @ty83) /\ (type_of% @ty92) /\ (type_of% @ty93) /\ (type_of% @ty94) /\ (type_of% @ty95) /\ (type_of% @ty106) /\ (type_of% @ty116) /\ (type_of% @ty117) /\ (type_of% @slot44) := ⟨@ty3, @ty4, @ty5, @ty9, @ty25, @ty26, @ty64, @ty72, @ty81, @ty82, @ty83, @ty92, @ty93, @ty94, @ty95, @ty106, @ty116, @ty117, @slot44⟩
theorem G76 : (type_of% @ty3) /\ (type_of% @ty5) /\ (type_of% @ty9) /\ (type_of% @ty64) /\ (type_of% @ty106) /\ (type_of% @slot76) /\ (type_of% @plan76_9) := ⟨@ty3, @ty5, @ty9, @ty64, @ty106, @slot76, @plan76_9⟩
theorem G77 : (type_of% @ty3) /\ (type_of% @ty5) /\ (type_of% @ty9) /\ (type_of% @ty64) /\ (type_of% @ty106) /\ (type_of% @slot77) := ⟨@ty3, @ty5, @ty9, @ty64, @ty106, @slot77⟩
theorem G45 : (type_of% @ty3) /\ (type_of% @ty4) /\ (type_of% @ty5) /\ (type_of% @ty9) /\ (type_of% @ty22) /\ (type_of% @ty25) /\ (type_of% @ty26) /\ (type_of% @ty60) /\ (type_of% @ty61) /\ (type_of% @ty62) /\ (type_of% @ty64) /\ (type_of% @ty102) /\ (type_of% @ty106) /\ (type_of% @slot45) := ⟨@ty3, @ty4, @ty5, @ty9, @ty22, @ty25, @ty26, @ty60, @ty61, @ty62, @ty64, @ty102, @ty106, @slot45⟩
theorem G13 : (type_of% @ty3) /\ (type_of% @ty4) /\ (type_of% @ty5) /\ (type_of% @ty9) /\ (type_of% @ty22) /\ (type_of% @ty25) /\ (type_of% @ty26) /\ (type_of% @ty29) /\ (type_of% @ty30) /\ (type_of% @ty49) /\ (type_of% @ty60) /\ (type_of% @ty61) /\ (type_of% @ty62) /\ (type_of% @ty64) /\ (type_of% @ty81) /\ (type_of% @ty82) /\ (type_of% @ty83) /\ (type_of% @ty92) /\ (type_of% @ty93) /\ (type_of% @ty94) /\ (type_of% @ty95) /\ (type_of% @ty102) /\ (type_of% @slot13) /\ (type_of% @plan13_7) := ⟨@ty3, @ty4, @ty5, @ty9, @ty22, @ty25, @ty26, @ty29, @ty30, @ty49, @ty60, @ty61, @ty62, @ty64, @ty81, @ty82, @ty83, @ty92, @ty93, @ty94, @ty95, @ty102, @slot13, @plan13_7⟩
end Go.Ev
set_option maxRecDepth 100000
namespace Go.Ev
open Go.Sort
abbrev RP := Int × Int
def flL : List RP -> List V
  | [] => []
  | x :: l => .int .i64 x.1 :: .int .i64 x.2 :: flL l
def fl (d : Array RP) : List V := flL d.toList
def hs (H : Heap) (b g : Nat) (d : Array RP) : Heap := H.set b (.cells g true (fl d))
def RowAt (h : Heap) (v : V) (l : List RP) : Prop :=
  ∃ a cap z, v = .sl a l.length cap z /\ l.length <= cap /\ cap <= 9223372036854775807 /\ (l = [] \/ ∃ b g o rw full, a = .at b g o /\ hcells h b g = some (rw, full) /\ (∀ (i : Nat) (x : RP), l[i]? = some x -> (full.drop (o + i * 2)).take 2 = [.int .i64 x.1, .int .i64 x.2]) /\ o + l.length * 2 <= full.length)
def Ext (h g : Heap) : Prop := ∃ l, g = h ++ l
theorem Ext.refl (h : Heap) : Ext h h := ⟨[], (List.append_nil h).symm⟩
theorem Ext.trans {a b c : Heap} (h : Ext a b) (k : Ext b c) : Ext a c := by
  obtain ⟨l, rfl⟩ := h
  obtain ⟨m, rfl⟩ := k
  exact ⟨l ++ m, List.append_assoc _ _ _⟩
theorem Ext.app {h g : Heap} (k : Ext h g) (l : List Blk) : Ext h (g ++ l) := k.trans ⟨l, rfl⟩
theorem Ext.len {h g : Heap} (k : Ext h g) : h.length <= g.length := by obtain ⟨l, rfl⟩ := k; simp
theorem Ext.set {h g : Heap} (k : Ext h g) {b : Nat} (hb : h.length <= b) (x : Blk) : Ext h (g.set b x) := by
  obtain ⟨l, rfl⟩ := k
  exact ⟨l.set (b - h.length) x, heap_set_ge hb⟩
theorem Ext.cells {h g : Heap} (k : Ext h g) {b q : Nat} {p : Bool × List V} (e : hcells h b q = some p) : hcells g b q = some p := by
  obtain ⟨l, rfl⟩ := k
  rw [hcells_app (hcells_lt e)]; exact e
def ltR (x y : RP) : Bool := decide (x.1 < y.1) || (decide (x.1 = y.1) && decide (x.2 < y.2))
theorem ltR_tot {x y : RP} (h : ltR x y = false) (k : ltR y x = false) : x = y := by
  obtain ⟨x1, x2⟩ := x
  obtain ⟨y1, y2⟩ := y
  unfold ltR at h k
  simp at h k
  simp; omega
theorem flL_ext : ∀ (l : List RP) (c : List V), c.length = l.length * 2 -> (∀ (i : Nat) (x : RP), l[i]? = some x -> (c.drop (i * 2)).take 2 = [.int .i64 x.1, .int .i64 x.2]) -> c = flL l
  | [], c, h, _ => by simpa [flL] using h
  | y :: l, c, h, k => by
    have h0 := k 0 y rfl
    match c, h with
    | [], h => simp at h
    | [a], h => simp at h; omega
    | a :: b :: c, h =>
      simp at h0
      rw [h0.1, h0.2, flL]
      congr 2
      refine flL_ext l c (by simp at h; omega) fun i x hx => ?_
      have := k (i + 1) x hx
      rw [show (i + 1) * 2 = i * 2 + 1 + 1 by omega] at this
      simpa using this
theorem RowAt.full {h : Heap} {v : V} {l : List RP} (hr : RowAt h v l) (hl : ¬ l.length = 0) : ∃ b g o cap z rw full, v = .sl (.at b g o) l.length cap z /\ hcells h b g = some (rw, full) /\ (full.drop o).take (l.length * 2) = flL l /\ o + l.length * 2 <= full.length := by
  obtain ⟨a, cap, z, rfl, h1, h1', h2⟩ := hr
  rcases h2 with rfl | ⟨b, g, o, rw, full, rfl, hb, hfull, ho⟩
  · exact absurd rfl hl
  · refine ⟨b, g, o, cap, z, rw, full, rfl, hb, ?_, ho⟩
    refine flL_ext l _ (by rw [List.length_take, List.length_drop]; omega) fun i x hx => ?_
    have hi := (List.getElem?_eq_some_iff.1 hx).1
    rw [List.drop_take, List.take_take, List.drop_drop, Nat.min_eq_left (by omega)]
    exact hfull i x hx
theorem RowAt.none {h : Heap} {v : V} (hr : RowAt h v []) : ∃ a cap z, v = .sl a 0 cap z := by
  obtain ⟨a, cap, z, rfl, _⟩ := hr
  exact ⟨a, cap, z, rfl⟩
abbrev Strict (p : List RP) : Prop := p.Pairwise fun a b => ltR a b = true
structure Ded (d : Array RP) (p : List RP) (m : Nat) : Prop where
  st : Strict p
  mem : ∀ x, x ∈ p ↔ ∃ j, j < m /\ d[j]! = x
theorem sorted_lt {d : Array RP} {n m j : Nat} (hs : SortedIn ltR 0 n d) (hm : 0 < m) (hmn : m < n) (hj : j < m) (hne : ¬ d[m]! = d[m - 1]!) : ltR d[j]! d[m]! = true := by
  cases h : ltR d[j]! d[m]! with
  | true => rfl
  | false =>
    exfalso
    have e := ltR_tot h (hs j m (by omega) hj hmn)
    by_cases hjm : j = m - 1
    · subst hjm; exact hne e.symm
    · have h2 := hs j (m - 1) (by omega) (by omega) (by omega)
      rw [e] at h2
      exact hne (ltR_tot (hs (m - 1) m (by omega) (by omega) hmn) h2)
theorem Ded.next {d : Array RP} {n m : Nat} {p : List RP} (h : Ded d p m) (hs : SortedIn ltR 0 n d) (hm : 0 < m) (hmn : m < n) (hne : ¬ d[m]! = d[m - 1]!) : Ded d (p ++ [d[m]!]) (m + 1) := by
  refine ⟨List.pairwise_append.2 ⟨h.st, List.pairwise_singleton _ _, fun x hx y hy => ?_⟩, fun x => ?_⟩
  · obtain ⟨j, hj, rfl⟩ := (h.mem x).1 hx
    rw [List.mem_singleton.1 hy]
    exact sorted_lt hs hm hmn hj hne
  · rw [List.mem_append, h.mem, List.mem_singleton]
    constructor
    · rintro (⟨j, hj, e⟩ | rfl)
      · exact ⟨j, by omega, e⟩
      · exact ⟨m, by omega, rfl⟩
    · rintro ⟨j, hj, e⟩
      by_cases hjm : j = m
      · subst hjm; exact .inr e.symm
      · exact .inl ⟨j, by omega, e⟩
theorem Ded.skip {d : Array RP} {m : Nat} {p : List RP} (h : Ded d p m) (hm : 0 < m) (he : d[m]! = d[m - 1]!) : Ded d p (m + 1) := by
  refine ⟨h.st, fun x => ?_⟩
  rw [h.mem]
  constructor
  · rintro ⟨j, hj, e⟩; exact ⟨j, by omega, e⟩
  · rintro ⟨j, hj, e⟩
    by_cases hjm : j = m
    · subst hjm; exact ⟨j - 1, by omega, by rw [<- he]; exact e⟩
    · exact ⟨j, by omega, e⟩
theorem Ded.one {d : Array RP} (h : 0 < d.size) : Ded d (d.toList.take 1) 1 := by
  have e : d.toList.take 1 = [d[0]!] := by
    obtain ⟨l⟩ := d
    cases l with
    | nil => simp at h
    | cons x l => rfl
  rw [e]
  refine ⟨List.pairwise_singleton _ _, fun x => ?_⟩
  rw [List.mem_singleton]
  constructor
  · rintro rfl; exact ⟨0, by omega, rfl⟩
  · rintro ⟨j, hj, e⟩
    obtain rfl : j = 0 := by omega
    exact e.symm
end Go.Ev
set_option maxRecDepth 100000
namespace Go.Ev
open Go.Ev renaming exPure -> Ja, ofValue -> Jb, cellsV -> Jc, load -> Jd, store -> Je, binOp -> Jf, intOp -> Jg, rdV -> Jh, vsame -> Ji, vsames -> Jj, makeSliceV -> Jk, resV -> Jl, isCell -> Jm, nilCheckV -> Jn, allV -> Jo, builtinV -> Jp, lenV -> Jq, indexAddrV -> Jr, unOp -> Js, minmaxV -> Jt, minmax -> Ju, sliceV -> Jv, asInt -> Jw, appendV -> Jx, forkB -> Jy, roY -> Jz, rwB -> J0, copyV -> J1, clearV -> J2, convV -> J3, sliceCells -> J4, shift -> J5
open Bool renaming true -> BT, false -> BF
open Nat renaming reduceEqDiff -> J6, reduceLT -> J7, reduceAdd -> J8, reduceBEq -> J9, reduceSub -> JA, reduceMul -> JB, reduceLeDiff -> JJ
open Int renaming reduceLT -> JC, reduceLE -> JD, reduceAdd -> JE, reduceSub -> JF, reduceNeg -> JG, reduceToNat -> JH, reduceEq -> JI
open Go.Proofs
def blen (m : Nat) : Nat := if m = 0 then 0 else Nat.log2 m + 1
def lenTab (S : ByteArray) : Bool := decide (S.size = 256) && (List.range 256).all fun i => decide (S.data.toList[i]? = some (UInt8.ofNat (blen i)))
theorem blen_8 : ((List.range 256).all fun m => decide (m < 2 ^ blen m) && (decide (blen m = 0) || decide (2 ^ (blen m - 1) <= m)) && decide (blen m <= 8)) = true := by decide +kernel
theorem tab_ok {S : ByteArray} (hS : lenTab S = true) {m : Int} (h : 0 <= m /\ m < 256) {R : Type} {k : V -> Option R} {Q : R -> Prop}
    (hk : ∀ c : Int, 0 <= c -> c <= 8 -> m < 2 ^ c.toNat -> (c = 0 \/ 2 ^ (c.toNat - 1) <= m) -> Ev.Ok (k (.int .u8 c)) Q) : Ev.Ok (bnd (indexV X.ty 9 (.v (.str S)) (.v (.int .u8 m))) k) Q := by
  simp only [lenTab,Bool.and_eq_true,decide_eq_true_eq,List.all_eq_true,List.mem_range] at hS
  obtain ⟨h1, h2⟩ := hS
  have h3 := h2 m.toNat (by omega)
  have hb := List.all_eq_true.1 blen_8 m.toNat (List.mem_range.2 (by omega))
  simp only [Bool.and_eq_true,decide_eq_true_eq,Bool.or_eq_true] at hb
  obtain ⟨⟨b1, b2⟩, b3⟩ := hb
  have e : indexV X.ty 9 (.v (.str S)) (.v (.int .u8 m)) = some (.int .u8 (blen m.toNat)) := by
    unfold indexV
    rw [ty9]
    simp only [idx]
    rw [grd_t (by rw [h1]; omega)]
    simp only [bnd_s]
    rw [h3]
    simp only [bnd_s]
    congr 2
    rw [UInt8.toNat_ofNat']
    omega
  rw [e]
  refine hk _ (by omega) (by omega) ?_ ?_
  · rw [Int.toNat_natCast]
    have : (m.toNat : Int) < 2 ^ blen m.toNat := by exact_mod_cast b1
    omega
  · rw [Int.toNat_natCast]
    rcases b2 with b2 | b2
    · left; omega
    · right
      have : (2 : Int) ^ (blen m.toNat - 1) <= m.toNat := by exact_mod_cast b2
      omega
theorem fd32 (a : Int) : a.fdiv (2 ^ min 32 IntKind.u64.bits) = a / 4294967296 := Int.fdiv_eq_ediv_of_nonneg a (by decide)
theorem fd16 (a : Int) : a.fdiv (2 ^ min 16 IntKind.u64.bits) = a / 65536 := Int.fdiv_eq_ediv_of_nonneg a (by decide)
theorem fd8 (a : Int) : a.fdiv (2 ^ min 8 IntKind.u64.bits) = a / 256 := Int.fdiv_eq_ediv_of_nonneg a (by decide)
theorem u8_wrap (x : Int) : IntKind.u8.wrap x = x % 256 := by
  simp only [IntKind.wrap,IntKind.signed,IntKind.bits]
  simp
theorem u8_small {x : Int} (h : 0 <= x /\ x < 256) : IntKind.u8.wrap x = x := by rw [u8_wrap]; omega
def LenOk (n : Int) (L : Int) : Prop := 0 <= L /\ L <= 64 /\ n < 2 ^ L.toNat /\ (L = 0 \/ 2 ^ (L.toNat - 1) <= n)
theorem len_leaf {n : Int} (s : Nat) {q c : Int} (hs : s <= 56) (hq : q = n / 2 ^ s) (h0 : s = 0 \/ 0 < q) (c0 : 0 <= c) (c8 : c <= 8) (b1 : q < 2 ^ c.toNat) (b2 : c = 0 \/ 2 ^ (c.toNat - 1) <= q) : LenOk n ((s : Int) + c) := by
  have hp : (0 : Int) < 2 ^ s := Int.pow_pos (by omega)
  have hd := Int.mul_ediv_add_emod n (2 ^ s)
  have hr0 := Int.emod_nonneg n (by omega : (2 : Int) ^ s ≠ 0)
  have hr1 := Int.emod_lt_of_pos n hp
  rw [<- hq] at hd
  have e1 : ((s : Int) + c).toNat = s + c.toNat := by omega
  refine ⟨by omega, by omega, ?_, ?_⟩
  · rw [e1, Int.pow_add]
    have h1 : q + 1 <= 2 ^ c.toNat := by omega
    have := Int.mul_le_mul_of_nonneg_left h1 (Int.le_of_lt hp)
    rw [Int.mul_add] at this
    omega
  · by_cases hz : c = 0
    · rcases h0 with rfl | h0
      · left; omega
      · subst hz
        simp at b1
        omega
    · right
      have b2' : (2 : Int) ^ (c.toNat - 1) <= q := by rcases b2 with b2 | b2; exact absurd b2 hz; exact b2
      rw [e1, show s + c.toNat - 1 = s + (c.toNat - 1) by omega, Int.pow_add]
      have := Int.mul_le_mul_of_nonneg_left b2' (Int.le_of_lt hp)
      omega
theorem len64_at {n : Int} (h0 : 0 <= n) (h1 : n < 18446744073709551616) (h : Heap) : Ev.Ok (D X (.fn 83 []) [.int .u64 n] h) fun y => ∃ L : Int, y = (.int .i64 L, h) /\ LenOk n L := by
  refine Ok.aim fun Q hQ => ?_
  have hQ' := Hid.mk hQ
  clear hQ
  have hfin : ∀ (s : Nat) (D q c r : Int), D = 2 ^ s -> s <= 56 -> q = n / D -> (s = 0 \/ 0 < q) -> 0 <= c -> c <= 8 -> q < 2 ^ c.toNat -> (c = 0 \/ 2 ^ (c.toNat - 1) <= q) -> r = s + c -> Q (.int .i64 r, h) := by
    intro s D q c r e0 a1 a2 a3 a4 a5 a6 a7 a8
    subst e0 a8
    exact hQ'.out _ ⟨_, rfl, len_leaf s a1 a2 a3 a4 a5 a6 a7⟩
  have hfin' := Hid.mk hfin
  clear hfin
  (refine Ok.body body83 pin83 ?_; simp only [c83,Try.f83,Option.getD_some,nslot83,List.append_nil,List.map,List.replicate,List.length_cons,List.length_nil,Nat.reduceAdd,Nat.reduceSub,List.cons_append,List.nil_append])
  (repeat' (first | (simp -implicitDefEqProofs (maxSteps := 1000000) (disch := first | assumption | omega | (simp only [ZDI]; omega)) only [*,fd32,fd16,fd8,u8_small,G83,Za,Zb,Zc,Zd,Ze,Zf,Zg,Zh,Zi,Zj,Zk,Zl,Zm,Zn,Zo,Ja,Jb,Jc,J6,Jd,Je,J7,J8,Jf,Jg,Jh,Ji,Jj,Jk,J9,Jl,Jm,wr,Jn,JA,JB,Jo,Jp,Jq,Jr,Js,Jt,Ju,Jv,Jw,Jx,Jy,Jz,J0,J1,J2,J3,J4,J5,reduceCtorEq,JC,JD,JE,JF,JG,JH,JI,JJ]) | ((with_reducible (first | apply Ok.br | apply Ok.gd | apply Ok.ld)) <;> (intro g; (try simp only [ZGS] at g); try (exfalso; omega)))))
  all_goals (
    refine tab_ok (by decide +kernel) ⟨by omega, by omega⟩ fun c c0 c8 b1 b2 => ?_
    have hb1 := Hid.mk b1
    have hb2 := Hid.mk b2
    clear b1 b2
    (repeat' (first | (simp -implicitDefEqProofs (maxSteps := 1000000) (disch := first | assumption | omega | (simp only [ZDI]; omega)) only [*,fd32,fd16,fd8,u8_small,G83,Za,Zb,Zc,Zd,Ze,Zf,Zg,Zh,Zi,Zj,Zk,Zl,Zm,Zn,Zo,Ja,Jb,Jc,J6,Jd,Je,J7,J8,Jf,Jg,Jh,Ji,Jj,Jk,J9,Jl,Jm,wr,Jn,JA,JB,Jo,Jp,Jq,Jr,Js,Jt,Ju,Jv,Jw,Jx,Jy,Jz,J0,J1,J2,J3,J4,J5,reduceCtorEq,JC,JD,JE,JF,JG,JH,JI,JJ]) | ((with_reducible (first | apply Ok.br | apply Ok.gd | apply Ok.ld)) <;> (intro g; (try simp only [ZGS] at g); try (exfalso; omega)))))
    first
      | exact hfin'.out 0 1 _ c _ (by decide) (by decide) (by omega) (.inl rfl) c0 c8 hb1.out hb2.out (by omega)
      | exact hfin'.out 8 256 _ c _ (by decide) (by decide) (by omega) (.inr (by omega)) c0 c8 hb1.out hb2.out (by omega)
      | exact hfin'.out 16 65536 _ c _ (by decide) (by decide) (by omega) (.inr (by omega)) c0 c8 hb1.out hb2.out (by omega)
      | exact hfin'.out 24 16777216 _ c _ (by decide) (by decide) (by omega) (.inr (by omega)) c0 c8 hb1.out hb2.out (by omega)
      | exact hfin'.out 32 4294967296 _ c _ (by decide) (by decide) (by omega) (.inr (by omega)) c0 c8 hb1.out hb2.out (by omega)
      | exact hfin'.out 40 1099511627776 _ c _ (by decide) (by decide) (by omega) (.inr (by omega)) c0 c8 hb1.out hb2.out (by omega)
      | exact hfin'.out 48 281474976710656 _ c _ (by decide) (by decide) (by omega) (.inr (by omega)) c0 c8 hb1.out hb2.out (by omega)
      | exact hfin'.out 56 72057594037927936 _ c _ (by decide) (by decide) (by omega) (.inr (by omega)) c0 c8 hb1.out hb2.out (by omega))
end Go.Ev
set_option maxRecDepth 100000
namespace Go.Ev
open Go.Proofs
def bV (l : List UInt8) : List V := l.map fun b => .int .u8 (b.toNat : Nat)
theorem bV_len (l : List UInt8) : (bV l).length = l.length := by simp [bV]
theorem bV_app (l m : List UInt8) : bV (l ++ m) = bV l ++ bV m := by simp [bV]
theorem bV_take (l : List UInt8) : (bV l).take l.length = bV l := List.take_of_length_le (by rw [bV_len]; exact Nat.le_refl _)
theorem bytesV_eq (s : ByteArray) : bytesV s = bV s.data.toList := rfl
def hiE (n : Nat) : List UInt8 := if n = 0 then [] else hiE (n / 128) ++ [UInt8.ofNat (n % 128 + 128)]
termination_by n
decreasing_by omega
def numE (n : Nat) : List UInt8 := hiE (n / 128) ++ [UInt8.ofNat (n % 128)]
def textE (s : ByteArray) : List UInt8 := numE s.size ++ s.data.toList
def dgE : Nat -> Nat -> List UInt8
  | 0, _ => []
  | j + 1, n => UInt8.ofNat (n / 128 ^ (j + 1) % 128 + 128) :: dgE j n
theorem dgE_snoc : ∀ (j n : Nat), dgE (j + 1) n = dgE j (n / 128) ++ [UInt8.ofNat (n / 128 % 128 + 128)]
  | 0, n => by simp [dgE]
  | j + 1, n => by
    rw [dgE, dgE_snoc j n, dgE, List.cons_append]
    congr 3
    rw [Nat.div_div_eq_div_mul]
    congr 1
    rw [Nat.pow_succ 128 (j + 1), Nat.mul_comm]
theorem hiE_dg : ∀ (j n : Nat), n / 128 < 128 ^ j -> (j = 0 \/ 128 ^ (j - 1) <= n / 128) -> hiE (n / 128) = dgE j n
  | 0, n, h, _ => by
    have : n / 128 = 0 := by simpa using h
    rw [this, hiE, dgE]; rfl
  | j + 1, n, h, h' => by
    have h1 : 128 ^ j <= n / 128 := by simpa using h'
    have h0 : n / 128 ≠ 0 := by have := Nat.pow_pos (n := j) (show 0 < 128 by omega); omega
    rw [hiE, if_neg h0, dgE_snoc]
    congr 1
    refine hiE_dg j (n / 128) ?_ ?_
    · rw [Nat.div_lt_iff_lt_mul (by omega), <- Nat.pow_succ]; exact h
    · cases j with
      | zero => exact .inl rfl
      | succ j =>
        right
        rw [Nat.le_div_iff_mul_le (by omega), Nat.add_sub_cancel, <- Nat.pow_succ]
        exact h1
theorem places {n L : Int} (h0 : 0 <= n) (hL : LenOk n L) : ∃ j : Nat, (if L + 6 < 7 then 7 else L + 6).tdiv 7 = (j : Int) + 1 /\ j <= 9 /\ numE n.toNat = dgE j n.toNat ++ [UInt8.ofNat (n.toNat % 128)] := by
  obtain ⟨l0, l1, l2, l3⟩ := hL
  obtain ⟨m, rfl⟩ : ∃ m : Nat, n = m := ⟨n.toNat, by omega⟩
  obtain ⟨l, rfl⟩ : ∃ l : Nat, L = l := ⟨L.toNat, by omega⟩
  rw [Int.toNat_natCast] at l2 l3 ⊢
  have l2' : m < 2 ^ l := by exact_mod_cast l2
  have l3' : l = 0 \/ 2 ^ (l - 1) <= m := l3.imp (by omega) (fun h => by exact_mod_cast h)
  obtain ⟨j, hj⟩ : ∃ j : Nat, j = (max (l + 6) 7) / 7 - 1 := ⟨_, rfl⟩
  refine ⟨j, ?_, by omega, ?_⟩
  · have e : (if (l : Int) + 6 < 7 then 7 else (l : Int) + 6) = ((max (l + 6) 7 : Nat) : Int) := by split <;> omega
    rw [e, Int.tdiv_eq_ediv_of_nonneg (by omega)]
    omega
  · rw [numE]
    congr 1
    have e7 : ∀ i : Nat, (128 : Nat) ^ i = 2 ^ (7 * i) := fun i => by rw [Nat.pow_mul]
    refine hiE_dg j m ?_ ?_
    · rw [Nat.div_lt_iff_lt_mul (by omega), <- Nat.pow_succ, e7]
      exact Nat.lt_of_lt_of_le l2' (Nat.pow_le_pow_right (by omega) (by omega))
    · by_cases hz : j = 0
      · exact .inl hz
      · right
        rw [Nat.le_div_iff_mul_le (by omega), <- Nat.pow_succ, e7]
        rcases l3' with l3' | l3'
        · omega
        · exact Nat.le_trans (Nat.pow_le_pow_right (by omega) (by omega)) l3'
theorem or128 {a : Int} (h : 0 <= a /\ a < 256) : IntKind.u8.wrap ((BitVec.ofInt IntKind.u8.bits a ||| BitVec.ofInt IntKind.u8.bits 128).toNat : Nat) = a % 128 + 128 := by
  have : ∀ m, m < 256 -> IntKind.u8.wrap ((BitVec.ofInt IntKind.u8.bits (m : Nat) ||| BitVec.ofInt IntKind.u8.bits 128).toNat : Nat) = ((m % 128 + 128 : Nat) : Int) := by decide +kernel
  have := this a.toNat (by omega)
  rw [Int.toNat_of_nonneg h.1] at this
  rw [this]; omega
theorem and127 {a : Int} (h : 0 <= a /\ a < 256) : IntKind.u8.wrap ((BitVec.ofInt IntKind.u8.bits a &&& BitVec.ofInt IntKind.u8.bits 127).toNat : Nat) = a % 128 := by
  have : ∀ m, m < 256 -> IntKind.u8.wrap ((BitVec.ofInt IntKind.u8.bits (m : Nat) &&& BitVec.ofInt IntKind.u8.bits 127).toNat : Nat) = ((m % 128 : Nat) : Int) := by decide +kernel
  have := this a.toNat (by omega)
  rw [Int.toNat_of_nonneg h.1] at this
  rw [this]; omega
theorem byteV {x : Nat} (h : x < 256) : (V.int .u8 x) = V.int .u8 ((UInt8.ofNat x).toNat : Nat) := by
  rw [UInt8.toNat_ofNat']; congr 2; omega
def WrAt (H : Heap) (p : Nat) (ob : Option Nat) (bs : List UInt8) : Prop :=
  match ob with
  | none => hcells H p 0 = some (true, [.sl .nil 0 0 0]) /\ bs = []
  | some b => ∃ g, hcells H p 0 = some (true, [.sl (.at b g 0) bs.length bs.length 1]) /\ hcells H b g = some (true, bV bs) /\ b ≠ p
def WStep (p : Nat) (ob ob' : Option Nat) (H H' : Heap) : Prop := Keeps (p :: ob.toList) H H' /\ (∀ b, ob = some b -> ob' = some b) /\ (ob = none -> ∀ b, ob' = some b -> H.length <= b)
theorem WStep.refl (p : Nat) (ob : Option Nat) (H : Heap) (hn : ob = none -> ∀ b, ob = some b -> H.length <= b := by intro h b e; rw [h] at e; cases e) : WStep p ob ob H H := ⟨.refl _ _, fun _ h => h, hn⟩
theorem WStep.trans {p : Nat} {a b c : Option Nat} {H1 H2 H3 : Heap} (h : WStep p a b H1 H2) (k : WStep p b c H2 H3) : WStep p a c H1 H3 := by
  obtain ⟨h1, h2, h3⟩ := h
  obtain ⟨k1, k2, k3⟩ := k
  refine ⟨h1.wide k1 fun j hj hlt => ?_, fun x e => k2 x (h2 x e), fun e x ex => ?_⟩
  · rcases List.mem_cons.1 hj with rfl | hj
    · simp
    · have e : b = some j := by simpa using hj
      cases a with
      | none => have := h3 rfl j e; omega
      | some y => have := h2 y rfl; rw [e] at this; cases this; simp
  · cases b with
    | none => have := k3 rfl x ex; have := h1.1; omega
    | some y =>
      have := k2 y rfl
      rw [ex] at this; cases this
      exact h3 e x rfl
theorem WStep.keeps {p : Nat} {ob ob' : Option Nat} {H H' : Heap} (h : WStep p ob ob' H H') : Keeps (p :: ob.toList) H H' := h.1
theorem WStep.blk {p : Nat} {ob ob' : Option Nat} {H H' : Heap} (h : WStep p ob ob' H H') {b : Nat} (e : ob' = some b) : ob = some b \/ H.length <= b := by
  cases ob with
  | none => exact .inr (h.2.2 rfl b e)
  | some y => have := h.2.1 y rfl; rw [e] at this; cases this; exact .inl rfl
theorem wr_new {H : Heap} {p : Nat} (h1 : hcells H p 0 = some (true, [.sl .nil 0 0 0])) {cs : List V} {bs : List UInt8} (e : cs = bV bs) :
    WrAt (H.set p (.cells 0 true [.sl (.at H.length 0 0) bs.length bs.length 1]) ++ [.cells 0 true cs]) p (some H.length) bs /\ WStep p none (some H.length) H (H.set p (.cells 0 true [.sl (.at H.length 0 0) bs.length bs.length 1]) ++ [.cells 0 true cs]) := by
  subst e
  have hp := hcells_lt h1
  refine ⟨⟨0, ?_, ?_, by omega⟩, (Keeps.set (.refl _ _) (.inl (by simp)) _).snoc _, fun b h => (nomatch h), fun _ b h => by cases h; exact Nat.le_refl _⟩
  · rw [hcells_app (by simpa using hp), hcells_set_eq hp]
  · rw [hcells_ge (by simp)]
    simp only [List.length_set,Nat.sub_self]
    exact grd_t rfl _
theorem wr_more {H : Heap} {p b g : Nat} {x : V} {bs0 : List UInt8} (h1 : hcells H p 0 = some (true, [x])) (h2 : hcells H b g = some (true, bV bs0)) (hbp : b ≠ p) {cs : List V} {bs : List UInt8} (e : cs = bV bs) :
    WrAt ((H.set b (.cells (g + 1) true cs)).set p (.cells 0 true [.sl (.at b (g + 1) 0) bs.length bs.length 1])) p (some b) bs /\ WStep p (some b) (some b) H ((H.set b (.cells (g + 1) true cs)).set p (.cells 0 true [.sl (.at b (g + 1) 0) bs.length bs.length 1])) := by
  subst e
  have hp := hcells_lt h1
  have hb := hcells_lt h2
  refine ⟨⟨g + 1, ?_, ?_, hbp⟩, (Keeps.set (.refl _ _) (.inl (by simp)) _).set (.inl (by simp)) _, fun b h => h, fun h => (nomatch h)⟩
  · exact hcells_set_eq (by simpa using hp)
  · rw [hcells_set_ne hbp, hcells_set_eq hb]
end Go.Ev
set_option maxRecDepth 100000
namespace Go.Ev
open Go.Ev renaming exPure -> Ja, ofValue -> Jb, cellsV -> Jc, load -> Jd, store -> Je, binOp -> Jf, intOp -> Jg, rdV -> Jh, vsame -> Ji, vsames -> Jj, makeSliceV -> Jk, resV -> Jl, isCell -> Jm, nilCheckV -> Jn, allV -> Jo, builtinV -> Jp, lenV -> Jq, indexAddrV -> Jr, unOp -> Js, minmaxV -> Jt, minmax -> Ju, sliceV -> Jv, asInt -> Jw, appendV -> Jx, forkB -> Jy, roY -> Jz, rwB -> J0, copyV -> J1, clearV -> J2, convV -> J3, sliceCells -> J4, shift -> J5
open Bool renaming true -> BT, false -> BF
open Nat renaming reduceEqDiff -> J6, reduceLT -> J7, reduceAdd -> J8, reduceBEq -> J9, reduceSub -> JA, reduceMul -> JB, reduceLeDiff -> JJ
open Int renaming reduceLT -> JC, reduceLE -> JD, reduceAdd -> JE, reduceSub -> JF, reduceNeg -> JG, reduceToNat -> JH, reduceEq -> JI
open Go.Proofs
def Wrote (p : Nat) (ob : Option Nat) (bs : List UInt8) (H : Heap) (y : V × Heap) : Prop := ∃ H' ob', y = (.tup [], H') /\ WrAt H' p ob' bs /\ WStep p ob ob' H H'
theorem wByte_at {H : Heap} {p : Nat} {ob : Option Nat} {bs : List UInt8} (hw : WrAt H p ob bs) {c : Int} (hc : 0 <= c /\ c < 256) (hl : bs.length < 35184372088832) :
    Ev.Ok (D X (.fn 63 []) [.ptr p 0 0, .int .u8 c] H) (Wrote p ob (bs ++ [UInt8.ofNat c.toNat]) H) := by
  refine Ok.aim fun Q hQ => ?_
  have hQ' := Hid.mk hQ
  clear hQ
  obtain ⟨m, rfl⟩ : ∃ m : Nat, c = m := ⟨c.toNat, by omega⟩
  rw [Int.toNat_natCast] at hQ'
  have hbyte := byteV (show m < 256 by omega)
  have hbyte' := Hid.mk hbyte
  clear hbyte
  cases ob with
  | none =>
    obtain ⟨h1, rfl⟩ := hw
    have hp := hcells_lt h1
    have h1' := Hid.mk h1
    (refine Ok.body body63 pin63 ?_; simp only [c63,Try.f63,Option.getD_some,nslot63,List.append_nil,List.map,List.replicate,List.length_cons,List.length_nil,Nat.reduceAdd,Nat.reduceSub,List.cons_append,List.nil_append])
    (repeat' (first | (simp -implicitDefEqProofs (maxSteps := 1000000) (disch := first | assumption | omega | (simp only [ZDI]; omega)) only [*,G63,Za,Zb,Zc,Zd,Ze,Zf,Zg,Zh,Zi,Zj,Zk,Zl,Zm,Zn,Zo,Ja,Jb,Jc,J6,Jd,Je,J7,J8,Jf,Jg,Jh,Ji,Jj,Jk,J9,Jl,Jm,wr,Jn,JA,JB,Jo,Jp,Jq,Jr,Js,Jt,Ju,Jv,Jw,Jx,Jy,Jz,J0,J1,J2,J3,J4,J5,reduceCtorEq,JC,JD,JE,JF,JG,JH,JI,JJ]) | ((with_reducible (first | apply Ok.br | apply Ok.gd | apply Ok.ld)) <;> (intro g; (try simp only [ZGS] at g); try (exfalso; omega)))))
    obtain ⟨k1, k2⟩ := wr_new h1'.out (cs := [.int .u8 (m : Nat)]) (bs := [UInt8.ofNat m]) (by rw [hbyte'.out]; rfl)
    exact hQ'.out _ ⟨_, _, rfl, k1, k2⟩
  | some b =>
    obtain ⟨g, h1, h2, hbp⟩ := hw
    have hp := hcells_lt h1
    have hb := hcells_lt h2
    have h1' := Hid.mk h1
    have h2' := Hid.mk h2
    have hpb := Ne.symm hbp
    have ht := bV_take bs
    have hle : bs.length <= (bV bs).length := by rw [bV_len]; exact Nat.le_refl _
    have hn1 : ¬ (bs.length + 1 <= bs.length) := by omega
    have hL : (bs.length + 1) * 1 <= 35184372088832 /\ bs.length + 1 <= 35184372088832 := by omega
    (refine Ok.body body63 pin63 ?_; simp only [c63,Try.f63,Option.getD_some,nslot63,List.append_nil,List.map,List.replicate,List.length_cons,List.length_nil,Nat.reduceAdd,Nat.reduceSub,List.cons_append,List.nil_append])
    (repeat' (first | (simp -implicitDefEqProofs (maxSteps := 1000000) (disch := first | assumption | omega | (simp only [ZDI]; omega)) only [*,lenV,List.drop_zero,Nat.zero_add,Nat.mul_one,G63,Za,Zb,Zc,Zd,Ze,Zf,Zg,Zh,Zi,Zj,Zk,Zl,Zm,Zn,Zo,Ja,Jb,Jc,J6,Jd,Je,J7,J8,Jf,Jg,Jh,Ji,Jj,Jk,J9,Jl,Jm,wr,Jn,JA,JB,Jo,Jp,Jq,Jr,Js,Jt,Ju,Jv,Jw,Jx,Jy,Jz,J0,J1,J2,J3,J4,J5,reduceCtorEq,JC,JD,JE,JF,JG,JH,JI,JJ]) | ((with_reducible (first | apply Ok.br | apply Ok.gd | apply Ok.ld)) <;> (intro g; (try simp only [ZGS] at g); try (exfalso; omega)))))
    obtain ⟨k1, k2⟩ := wr_more h1'.out h2'.out hbp (cs := bV bs ++ [.int .u8 (m : Nat)]) (bs := bs ++ [UInt8.ofNat m]) (by rw [bV_app, hbyte'.out]; rfl)
    simp only [List.length_append,List.length_cons,List.length_nil,Nat.zero_add] at k1 k2
    exact hQ'.out _ ⟨_, _, rfl, k1, k2⟩
end Go.Ev
set_option maxRecDepth 100000
namespace Go.Ev
open Go.Ev renaming exPure -> Ja, ofValue -> Jb, cellsV -> Jc, load -> Jd, store -> Je, binOp -> Jf, intOp -> Jg, rdV -> Jh, vsame -> Ji, vsames -> Jj, makeSliceV -> Jk, resV -> Jl, isCell -> Jm, nilCheckV -> Jn, allV -> Jo, builtinV -> Jp, lenV -> Jq, indexAddrV -> Jr, unOp -> Js, minmaxV -> Jt, minmax -> Ju, sliceV -> Jv, asInt -> Jw, appendV -> Jx, forkB -> Jy, roY -> Jz, rwB -> J0, copyV -> J1, clearV -> J2, convV -> J3, sliceCells -> J4, shift -> J5
open Bool renaming true -> BT, false -> BF
open Nat renaming reduceEqDiff -> J6, reduceLT -> J7, reduceAdd -> J8, reduceBEq -> J9, reduceSub -> JA, reduceMul -> JB, reduceLeDiff -> JJ
open Int renaming reduceLT -> JC, reduceLE -> JD, reduceAdd -> JE, reduceSub -> JF, reduceNeg -> JG, reduceToNat -> JH, reduceEq -> JI
open Go.Proofs
theorem dgE_len : ∀ j n, (dgE j n).length = j
  | 0, _ => rfl
  | j + 1, n => by rw [dgE, List.length_cons, dgE_len j n]
theorem wrap8 (q : Nat) : IntKind.u8.wrap ((q : Nat) : Int) = ((q % 256 : Nat) : Int) := by
  unfold IntKind.wrap
  simp [IntKind.bits, IntKind.signed]
theorem dig_at {m i : Nat} (hi : i + 1 <= 9) : V.int .u8 (IntKind.u8.wrap (BitVec.ofInt IntKind.u8.bits (IntKind.u8.wrap ((m : Int).fdiv (2 ^ min (7 * (i + 1)) IntKind.u64.bits))) ||| BitVec.ofInt IntKind.u8.bits 128).toNat) = V.int .u8 ((UInt8.ofNat (m / 128 ^ (i + 1) % 128 + 128)).toNat : Nat) := by
  have h1 : min (7 * (i + 1)) IntKind.u64.bits = 7 * (i + 1) := Nat.min_eq_left (by show 7 * (i + 1) <= 64; omega)
  have h2 : (m : Int).fdiv (2 ^ (7 * (i + 1))) = ((m / 128 ^ (i + 1) : Nat) : Int) := by
    have : (2 : Int) ^ (7 * (i + 1)) = ((128 ^ (i + 1) : Nat) : Int) := by rw [show (128 : Nat) ^ (i + 1) = 2 ^ (7 * (i + 1)) by rw [Nat.pow_mul]]; exact (Int.natCast_pow 2 _).symm
    rw [this, Int.fdiv_eq_ediv_of_nonneg _ (Int.natCast_nonneg _)]
    exact (Int.natCast_ediv m _).symm
  rw [h1, h2, wrap8 (m / 128 ^ (i + 1)), or128 (by omega), <- byteV (by omega)]
  congr 1
  omega
theorem low_at {m : Nat} : V.int .u8 (IntKind.u8.wrap (BitVec.ofInt IntKind.u8.bits (IntKind.u8.wrap (m : Int)) &&& BitVec.ofInt IntKind.u8.bits 127).toNat) = V.int .u8 ((UInt8.ofNat (m % 128)).toNat : Nat) := by
  rw [wrap8 m, and127 (by omega), <- byteV (by omega)]
  congr 1
  omega
set_option maxHeartbeats 4000000 in
theorem wNum_at {H : Heap} {p : Nat} {ob : Option Nat} {bs : List UInt8} (hw : WrAt H p ob bs) {c : Int} (hc : 0 <= c /\ c < 18446744073709551616) (hl : bs.length + 20 < 35184372088832) :
    Ev.Ok (D X (.fn 60 []) [.ptr p 0 0, .int .u64 c] H) (Wrote p ob (bs ++ numE c.toNat) H) := by
  refine Ok.aim fun Q hQ => ?_
  have hQ' := Hid.mk hQ
  clear hQ
  obtain ⟨yy, hlen, L, rfl, hLo⟩ := len64_at hc.1 hc.2 H
  obtain ⟨j, hj, hj9, hnum⟩ := places hc.1 hLo
  obtain ⟨l0, l1, _⟩ := hLo
  (refine Ok.body body60 pin60 ?_; simp only [c60,Try.f60,Option.getD_some,nslot60,List.append_nil,List.map,List.replicate,List.length_cons,List.length_nil,Nat.reduceAdd,Nat.reduceSub,List.cons_append,List.nil_append])
  (repeat' (first | (simp -implicitDefEqProofs (maxSteps := 1000000) (disch := first | assumption | omega | (simp only [ZDI]; omega)) only [*,minmaxV,minmax,G60,Za,Zb,Zc,Zd,Ze,Zf,Zg,Zh,Zi,Zj,Zk,Zl,Zm,Zn,Zo,Ja,Jb,Jc,J6,Jd,Je,J7,J8,Jf,Jg,Jh,Ji,Jj,Jk,J9,Jl,Jm,wr,Jn,JA,JB,Jo,Jp,Jq,Jr,Js,Jt,Ju,Jv,Jw,Jx,Jy,Jz,J0,J1,J2,J3,J4,J5,reduceCtorEq,JC,JD,JE,JF,JG,JH,JI,JJ]) | ((with_reducible (first | apply Ok.br | apply Ok.gd | apply Ok.ld)) <;> (intro g; (try simp only [ZGS] at g); try (exfalso; omega)))))
  clear hlen hj
  refine Ok.loop [BF, BF, BF, BF, BT, BF, BF, BF, BF, BF, BT, BT, BT, BT, BT, BT, BT, BT, BT, BT, BT, BT, BT, BT, BT, BT, BT, BT, BT, BT, BF, BF, BF, BF, BF, BF, BF, BF, BF, BF, BF, BF] (fun n s2 => ∃ (k : Nat) (done : List UInt8) (ob' : Option Nat) (y1 y2 : Nat × List V), n = k /\ 1 <= k /\ k <= j + 1 /\ tv s2.e 4 = .v (.int .i64 k) /\ s2.l = [y1, y2] /\ WrAt s2.h p ob' (bs ++ done) /\ WStep p ob ob' H s2.h /\ done ++ dgE (k - 1) c.toNat = dgE j c.toNat)
    (fun y s2 => y = .exit 0 /\ ∃ (ob' : Option Nat) (y1 y2 : Nat × List V), s2.l = [y1, y2] /\ WrAt s2.h p ob' (bs ++ dgE j c.toNat) /\ WStep p ob ob' H s2.h) (j + 1) ⟨j + 1, [], ob, _, _, rfl, by omega, Nat.le_refl _, rfl, rfl, by simpa using hw, WStep.refl _ _ _, rfl⟩ ?_ ?_
  · intro n ⟨e', l', g⟩ hW ⟨k, done, ob', y1, y2, hm, hk1, hk2, h4, k2, hw2, hst, hdg⟩
    dsimp only at hW h4 k2 hw2 hst
    subst l'
    rw [hW.spread]
    simp only [spread_t,spread_f,spread_n,Nat.zero_add,Nat.reduceAdd,h4]
    clear hW hQ'
    by_cases hgt : 1 < k
    · have hgt' : (1 : Int) < (k : Int) := by omega
      obtain ⟨i, rfl⟩ : ∃ i, k = i + 2 := ⟨k - 2, by omega⟩
      have hi1 : ((i + 2 : Nat) : Int) - 1 = ((i + 1 : Nat) : Int) := by omega
      have hi2 : (7 : Int) * ((i + 1 : Nat) : Int) = ((7 * (i + 1) : Nat) : Int) := by omega
      have hB : Hid (V.int .u8 (IntKind.u8.wrap (BitVec.ofInt IntKind.u8.bits (IntKind.u8.wrap ((c : Int).fdiv (2 ^ min (7 * (i + 1)) IntKind.u64.bits))) ||| BitVec.ofInt IntKind.u8.bits 128).toNat) = V.int .u8 ((UInt8.ofNat (c.toNat / 128 ^ (i + 1) % 128 + 128)).toNat : Nat)) := ⟨by
        have := dig_at (m := c.toNat) (i := i) (by omega)
        rwa [Int.toNat_of_nonneg hc.1] at this⟩
      have hdg' : Hid (done ++ [UInt8.ofNat (c.toNat / 128 ^ (i + 1) % 128 + 128)] ++ dgE (i + 1 - 1) c.toNat = dgE j c.toNat) := ⟨by rw [<- hdg, List.append_assoc]; rfl⟩
      cases ob' with
      | none =>
        obtain ⟨h1, h2⟩ := hw2
        have hp := hcells_lt h1
        have hst' := Hid.mk hst
        clear hst
        (repeat' (first | (simp -implicitDefEqProofs (maxSteps := 1000000) (disch := first | assumption | omega | (simp only [ZDI]; omega)) only [*,minmaxV,minmax,G60,Za,Zb,Zc,Zd,Ze,Zf,Zg,Zh,Zi,Zj,Zk,Zl,Zm,Zn,Zo,Ja,Jb,Jc,J6,Jd,Je,J7,J8,Jf,Jg,Jh,Ji,Jj,Jk,J9,Jl,Jm,wr,Jn,JA,JB,Jo,Jp,Jq,Jr,Js,Jt,Ju,Jv,Jw,Jx,Jy,Jz,J0,J1,J2,J3,J4,J5,reduceCtorEq,JC,JD,JE,JF,JG,JH,JI,JJ]) | ((with_reducible (first | apply Ok.br | apply Ok.gd | apply Ok.ld)) <;> (intro g; (try simp only [ZGS] at g); try (exfalso; omega)))))
        obtain ⟨k1, k2⟩ := wr_new h1 (cs := [V.int .u8 (IntKind.u8.wrap (BitVec.ofInt IntKind.u8.bits (IntKind.u8.wrap ((c : Int).fdiv (2 ^ min (7 * (i + 1)) IntKind.u64.bits))) ||| BitVec.ofInt IntKind.u8.bits 128).toNat)]) (bs := [UInt8.ofNat (c.toNat / 128 ^ (i + 1) % 128 + 128)]) (hB.out ▸ rfl)
        exact Turn.next (i + 1) (by omega) ⟨rfl, i + 1, done ++ [UInt8.ofNat (c.toNat / 128 ^ (i + 1) % 128 + 128)], some g.length, _, _, rfl, by omega, by omega, rfl, rfl, by rw [<- List.append_assoc, h2]; exact k1, hst'.out.trans k2, hdg'.out⟩
      | some b =>
        obtain ⟨g', h1, h2, hbp⟩ := hw2
        have hp := hcells_lt h1
        have hb := hcells_lt h2
        have hst' := Hid.mk hst
        have hpb := Ne.symm hbp
        have h1' := Hid.mk h1
        have h2' := Hid.mk h2
        obtain ⟨bd, hbd⟩ : ∃ bd, bs ++ done = bd := ⟨_, rfl⟩
        have hbl : bd.length <= bs.length + 10 := by
          rw [<- hbd, List.length_append]
          have := congrArg List.length hdg
          rw [List.length_append, dgE_len, dgE_len] at this
          omega
        rw [hbd] at h1 h2 h1' h2'
        have ht := bV_take bd
        have hle : bd.length <= (bV bd).length := by rw [bV_len]; exact Nat.le_refl _
        have hn1 : ¬ (bd.length + 1 <= bd.length) := by omega
        have hL : (bd.length + 1) * 1 <= 35184372088832 /\ bd.length + 1 <= 35184372088832 := by omega
        clear hst hdg
        (repeat' (first | (simp -implicitDefEqProofs (maxSteps := 1000000) (disch := first | assumption | omega | (simp only [ZDI]; omega)) only [*,minmaxV,minmax,lenV,List.drop_zero,Nat.zero_add,Nat.mul_one,G60,Za,Zb,Zc,Zd,Ze,Zf,Zg,Zh,Zi,Zj,Zk,Zl,Zm,Zn,Zo,Ja,Jb,Jc,J6,Jd,Je,J7,J8,Jf,Jg,Jh,Ji,Jj,Jk,J9,Jl,Jm,wr,Jn,JA,JB,Jo,Jp,Jq,Jr,Js,Jt,Ju,Jv,Jw,Jx,Jy,Jz,J0,J1,J2,J3,J4,J5,reduceCtorEq,JC,JD,JE,JF,JG,JH,JI,JJ]) | ((with_reducible (first | apply Ok.br | apply Ok.gd | apply Ok.ld)) <;> (intro g; (try simp only [ZGS] at g); try (exfalso; omega)))))
        obtain ⟨k1, k2⟩ := wr_more h1'.out h2'.out hbp (cs := bV bd ++ [V.int .u8 (IntKind.u8.wrap (BitVec.ofInt IntKind.u8.bits (IntKind.u8.wrap ((c : Int).fdiv (2 ^ min (7 * (i + 1)) IntKind.u64.bits))) ||| BitVec.ofInt IntKind.u8.bits 128).toNat)]) (bs := bd ++ [UInt8.ofNat (c.toNat / 128 ^ (i + 1) % 128 + 128)]) (by rw [bV_app]; exact congrArg (fun z => bV bd ++ [z]) hB.out)
        simp only [List.length_append,List.length_cons,List.length_nil,Nat.zero_add] at k1 k2
        exact Turn.next (i + 1) (by omega) ⟨rfl, i + 1, done ++ [UInt8.ofNat (c.toNat / 128 ^ (i + 1) % 128 + 128)], some b, _, _, rfl, by omega, by omega, rfl, rfl, by rw [<- List.append_assoc, hbd]; exact k1, hst'.out.trans k2, hdg'.out⟩
    · have hgt' : ¬ (1 : Int) < (k : Int) := by omega
      obtain rfl : k = 1 := by omega
      have e : done = dgE j c.toNat := by rw [<- hdg]; simp [dgE]
      subst e
      have hst' := Hid.mk hst
      have hw2' := Hid.mk hw2
      clear hw hst hw2
      (repeat' (first | (simp -implicitDefEqProofs (maxSteps := 1000000) (disch := first | assumption | omega | (simp only [ZDI]; omega)) only [*,minmaxV,minmax,G60,Za,Zb,Zc,Zd,Ze,Zf,Zg,Zh,Zi,Zj,Zk,Zl,Zm,Zn,Zo,Ja,Jb,Jc,J6,Jd,Je,J7,J8,Jf,Jg,Jh,Ji,Jj,Jk,J9,Jl,Jm,wr,Jn,JA,JB,Jo,Jp,Jq,Jr,Js,Jt,Ju,Jv,Jw,Jx,Jy,Jz,J0,J1,J2,J3,J4,J5,reduceCtorEq,JC,JD,JE,JF,JG,JH,JI,JJ]) | ((with_reducible (first | apply Ok.br | apply Ok.gd | apply Ok.ld)) <;> (intro g; (try simp only [ZGS] at g); try (exfalso; omega)))))
      exact Turn.exit ⟨rfl, rfl, ob', _, _, rfl, hw2'.out, hst'.out⟩
  · intro y ⟨e', l', g⟩ hW ⟨hy, ob', y1, y2, k2, hw2, hst⟩
    dsimp only at hW k2 hw2 hst
    subst l' hy
    rw [hW.spread]
    clear hW
    simp only [spread_t,spread_f,spread_n,Nat.zero_add,Nat.reduceAdd]
    rw [hnum] at hQ'
    have hB : Hid (V.int .u8 (IntKind.u8.wrap (BitVec.ofInt IntKind.u8.bits (IntKind.u8.wrap c) &&& BitVec.ofInt IntKind.u8.bits 127).toNat) = V.int .u8 ((UInt8.ofNat (c.toNat % 128)).toNat : Nat)) := ⟨by
      have := low_at (m := c.toNat)
      rwa [Int.toNat_of_nonneg hc.1] at this⟩
    have hbl : (bs ++ dgE j c.toNat).length <= bs.length + 10 := by rw [List.length_append, dgE_len]; omega
    rw [<- List.append_assoc] at hQ'
    generalize bs ++ dgE j c.toNat = bd at hw2 hQ' hbl
    have hst' := Hid.mk hst
    clear hst hnum hw
    cases ob' with
    | none =>
      obtain ⟨h1, rfl⟩ := hw2
      have hp := hcells_lt h1
      have h1' := Hid.mk h1
      (repeat' (first | (simp -implicitDefEqProofs (maxSteps := 1000000) (disch := first | assumption | omega | (simp only [ZDI]; omega)) only [*,minmaxV,minmax,G60,Za,Zb,Zc,Zd,Ze,Zf,Zg,Zh,Zi,Zj,Zk,Zl,Zm,Zn,Zo,Ja,Jb,Jc,J6,Jd,Je,J7,J8,Jf,Jg,Jh,Ji,Jj,Jk,J9,Jl,Jm,wr,Jn,JA,JB,Jo,Jp,Jq,Jr,Js,Jt,Ju,Jv,Jw,Jx,Jy,Jz,J0,J1,J2,J3,J4,J5,reduceCtorEq,JC,JD,JE,JF,JG,JH,JI,JJ]) | ((with_reducible (first | apply Ok.br | apply Ok.gd | apply Ok.ld)) <;> (intro g; (try simp only [ZGS] at g); try (exfalso; omega)))))
      obtain ⟨k1, k2⟩ := wr_new h1'.out (cs := [V.int .u8 (IntKind.u8.wrap (BitVec.ofInt IntKind.u8.bits (IntKind.u8.wrap c) &&& BitVec.ofInt IntKind.u8.bits 127).toNat)]) (bs := [UInt8.ofNat (c.toNat % 128)]) (hB.out ▸ rfl)
      exact hQ'.out _ ⟨_, some g.length, rfl, k1, hst'.out.trans k2⟩
    | some b =>
      obtain ⟨g', h1, h2, hbp⟩ := hw2
      have hp := hcells_lt h1
      have hb := hcells_lt h2
      have hpb := Ne.symm hbp
      have h1' := Hid.mk h1
      have h2' := Hid.mk h2
      have ht := bV_take bd
      have hle : bd.length <= (bV bd).length := by rw [bV_len]; exact Nat.le_refl _
      have hn1 : ¬ (bd.length + 1 <= bd.length) := by omega
      have hL : (bd.length + 1) * 1 <= 35184372088832 /\ bd.length + 1 <= 35184372088832 := by omega
      (repeat' (first | (simp -implicitDefEqProofs (maxSteps := 1000000) (disch := first | assumption | omega | (simp only [ZDI]; omega)) only [*,minmaxV,minmax,lenV,List.drop_zero,Nat.zero_add,Nat.mul_one,G60,Za,Zb,Zc,Zd,Ze,Zf,Zg,Zh,Zi,Zj,Zk,Zl,Zm,Zn,Zo,Ja,Jb,Jc,J6,Jd,Je,J7,J8,Jf,Jg,Jh,Ji,Jj,Jk,J9,Jl,Jm,wr,Jn,JA,JB,Jo,Jp,Jq,Jr,Js,Jt,Ju,Jv,Jw,Jx,Jy,Jz,J0,J1,J2,J3,J4,J5,reduceCtorEq,JC,JD,JE,JF,JG,JH,JI,JJ]) | ((with_reducible (first | apply Ok.br | apply Ok.gd | apply Ok.ld)) <;> (intro g; (try simp only [ZGS] at g); try (exfalso; omega)))))
      obtain ⟨k1, k2⟩ := wr_more h1'.out h2'.out hbp (cs := bV bd ++ [V.int .u8 (IntKind.u8.wrap (BitVec.ofInt IntKind.u8.bits (IntKind.u8.wrap c) &&& BitVec.ofInt IntKind.u8.bits 127).toNat)]) (bs := bd ++ [UInt8.ofNat (c.toNat % 128)]) (by rw [bV_app]; exact congrArg (fun z => bV bd ++ [z]) hB.out)
      simp only [List.length_append,List.length_cons,List.length_nil,Nat.zero_add] at k1 k2
      exact hQ'.out _ ⟨_, some b, rfl, k1, hst'.out.trans k2⟩
end Go.Ev
set_option maxRecDepth 100000
namespace Go.Ev
open Go.Ev renaming exPure -> Ja, ofValue -> Jb, cellsV -> Jc, load -> Jd, store -> Je, binOp -> Jf, intOp -> Jg, rdV -> Jh, vsame -> Ji, vsames -> Jj, makeSliceV -> Jk, resV -> Jl, isCell -> Jm, nilCheckV -> Jn, allV -> Jo, builtinV -> Jp, lenV -> Jq, indexAddrV -> Jr, unOp -> Js, minmaxV -> Jt, minmax -> Ju, sliceV -> Jv, asInt -> Jw, appendV -> Jx, forkB -> Jy, roY -> Jz, rwB -> J0, copyV -> J1, clearV -> J2, convV -> J3, sliceCells -> J4, shift -> J5
open Bool renaming true -> BT, false -> BF
open Nat renaming reduceEqDiff -> J6, reduceLT -> J7, reduceAdd -> J8, reduceBEq -> J9, reduceSub -> JA, reduceMul -> JB, reduceLeDiff -> JJ
open Int renaming reduceLT -> JC, reduceLE -> JD, reduceAdd -> JE, reduceSub -> JF, reduceNeg -> JG, reduceToNat -> JH, reduceEq -> JI
open Go.Proofs
theorem hiE_len : ∀ (k n : Nat), n < 128 ^ k -> (hiE n).length <= k
  | 0, n, h => by
    have : n = 0 := by simpa using h
    subst this
    rw [hiE]; simp
  | k + 1, n, h => by
    rw [hiE]
    split
    · simp
    · rw [List.length_append]
      have := hiE_len k (n / 128) (by rw [Nat.div_lt_iff_lt_mul (by omega), <- Nat.pow_succ]; exact h)
      simp; omega
theorem numE_len {n : Nat} (h : n < 18446744073709551616) : (numE n).length <= 10 := by
  unfold numE
  rw [List.length_append]
  have := hiE_len 9 (n / 128) (by
    rw [Nat.div_lt_iff_lt_mul (by omega), <- Nat.pow_succ]
    exact Nat.lt_of_lt_of_le h (by decide))
  simp; omega
theorem wrapU {n : Int} (h : 0 <= n /\ n < 18446744073709551616) : IntKind.u64.wrap n = n := by
  unfold IntKind.wrap
  simp [IntKind.bits, IntKind.signed]
  omega
theorem wrapI {n : Int} (h : 0 <= n /\ n < 9223372036854775808) : IntKind.i64.wrap n = n := by
  unfold IntKind.wrap
  simp [IntKind.bits, IntKind.signed]
  omega
theorem wBool_at {H : Heap} {p : Nat} {ob : Option Nat} {bs : List UInt8} (hw : WrAt H p ob bs) (t : Bool) (hl : bs.length + 30 < 35184372088832) :
    Ev.Ok (D X (.fn 61 []) [.ptr p 0 0, .bool t] H) (Wrote p ob (bs ++ [if t then 1 else 0]) H) := by
  refine Ok.aim fun Q hQ => ?_
  have hQ' := Hid.mk hQ
  clear hQ
  cases t with
  | true =>
    obtain ⟨y1, e1, H1, ob1, rfl, w1, s1⟩ := wByte_at hw (c := 1) (by decide) (by omega)
    have hfin : Hid (Q (.tup [], H1)) := ⟨hQ'.out _ ⟨H1, ob1, rfl, w1, s1⟩⟩
    clear hw w1 s1 hQ'
    (refine Ok.body body61 pin61 ?_; simp only [c61,Try.f61,Option.getD_some,nslot61,List.append_nil,List.map,List.replicate,List.length_cons,List.length_nil,Nat.reduceAdd,Nat.reduceSub,List.cons_append,List.nil_append])
    (repeat' (first | (simp -implicitDefEqProofs (maxSteps := 1000000) (disch := first | assumption | omega | (simp only [ZDI]; omega)) only [*,G61,Za,Zb,Zc,Zd,Ze,Zf,Zg,Zh,Zi,Zj,Zk,Zl,Zm,Zn,Zo,Ja,Jb,Jc,J6,Jd,Je,J7,J8,Jf,Jg,Jh,Ji,Jj,Jk,J9,Jl,Jm,wr,Jn,JA,JB,Jo,Jp,Jq,Jr,Js,Jt,Ju,Jv,Jw,Jx,Jy,Jz,J0,J1,J2,J3,J4,J5,reduceCtorEq,JC,JD,JE,JF,JG,JH,JI,JJ]) | ((with_reducible (first | apply Ok.br | apply Ok.gd | apply Ok.ld)) <;> (intro g; (try simp only [ZGS] at g); try (exfalso; omega)))))
    exact hfin.out
  | false =>
    obtain ⟨y1, e1, H1, ob1, rfl, w1, s1⟩ := wByte_at hw (c := 0) (by decide) (by omega)
    have hfin : Hid (Q (.tup [], H1)) := ⟨hQ'.out _ ⟨H1, ob1, rfl, w1, s1⟩⟩
    clear hw w1 s1 hQ'
    (refine Ok.body body61 pin61 ?_; simp only [c61,Try.f61,Option.getD_some,nslot61,List.append_nil,List.map,List.replicate,List.length_cons,List.length_nil,Nat.reduceAdd,Nat.reduceSub,List.cons_append,List.nil_append])
    (repeat' (first | (simp -implicitDefEqProofs (maxSteps := 1000000) (disch := first | assumption | omega | (simp only [ZDI]; omega)) only [*,G61,Za,Zb,Zc,Zd,Ze,Zf,Zg,Zh,Zi,Zj,Zk,Zl,Zm,Zn,Zo,Ja,Jb,Jc,J6,Jd,Je,J7,J8,Jf,Jg,Jh,Ji,Jj,Jk,J9,Jl,Jm,wr,Jn,JA,JB,Jo,Jp,Jq,Jr,Js,Jt,Ju,Jv,Jw,Jx,Jy,Jz,J0,J1,J2,J3,J4,J5,reduceCtorEq,JC,JD,JE,JF,JG,JH,JI,JJ]) | ((with_reducible (first | apply Ok.br | apply Ok.gd | apply Ok.ld)) <;> (intro g; (try simp only [ZGS] at g); try (exfalso; omega)))))
    exact hfin.out
end Go.Ev
set_option maxRecDepth 100000
namespace Go.Ev
open Go.Ev renaming exPure -> Ja, ofValue -> Jb, cellsV -> Jc, load -> Jd, store -> Je, binOp -> Jf, intOp -> Jg, rdV -> Jh, vsame -> Ji, vsames -> Jj, makeSliceV -> Jk, resV -> Jl, isCell -> Jm, nilCheckV -> Jn, allV -> Jo, builtinV -> Jp, lenV -> Jq, indexAddrV -> Jr, unOp -> Js, minmaxV -> Jt, minmax -> Ju, sliceV -> Jv, asInt -> Jw, appendV -> Jx, forkB -> Jy, roY -> Jz, rwB -> J0, copyV -> J1, clearV -> J2, convV -> J3, sliceCells -> J4, shift -> J5
open Bool renaming true -> BT, false -> BF
open Nat renaming reduceEqDiff -> J6, reduceLT -> J7, reduceAdd -> J8, reduceBEq -> J9, reduceSub -> JA, reduceMul -> JB, reduceLeDiff -> JJ
open Int renaming reduceLT -> JC, reduceLE -> JD, reduceAdd -> JE, reduceSub -> JF, reduceNeg -> JG, reduceToNat -> JH, reduceEq -> JI
open Go.Proofs
set_option maxHeartbeats 4000000 in
theorem wText_at {H : Heap} {p : Nat} {ob : Option Nat} {bs : List UInt8} (hw : WrAt H p ob bs) (s : ByteArray) (hl : bs.length + s.size + 60 < 35184372088832) :
    Ev.Ok (D X (.fn 62 []) [.ptr p 0 0, .str s] H) (Wrote p ob (bs ++ textE s) H) := by
  refine Ok.aim fun Q hQ => ?_
  have hQ' := Hid.mk hQ
  clear hQ
  obtain ⟨y1, e1, H1, ob1, rfl, w1, s1⟩ := wNum_at hw (c := (s.size : Int)) (by omega) (by omega)
  rw [Int.toNat_natCast] at w1
  have hnl := numE_len (n := s.size) (by omega)
  have hbl : (bs ++ numE s.size).length <= bs.length + 10 := by rw [List.length_append]; omega
  have hne : bs ++ numE s.size ≠ [] := by unfold numE; simp
  have hfin : ∀ H2 ob2, WrAt H2 p ob2 (bs ++ numE s.size ++ s.data.toList) -> WStep p ob1 ob2 H1 H2 -> Q (.tup [], H2) := fun H2 ob2 a c => hQ'.out _ ⟨H2, ob2, rfl, by unfold textE; rw [<- List.append_assoc]; exact a, s1.trans c⟩
  have hfin' := Hid.mk hfin
  have hu := wrapU (n := (s.size : Int)) (by omega)
  generalize bs ++ numE s.size = bd at w1 hfin' hbl hne
  clear hfin hw s1 hQ' hnl
  cases ob1 with
  | none => exact absurd w1.2 hne
  | some b =>
    obtain ⟨g', h1, h2, hbp⟩ := w1
    have hp := hcells_lt h1
    have hb := hcells_lt h2
    have hpb := Ne.symm hbp
    have h1' := Hid.mk h1
    have h2' := Hid.mk h2
    have ht := bV_take bd
    have hle : bd.length <= (bV bd).length := by rw [bV_len]; exact Nat.le_refl _
    have hL : (bd.length + s.size) * 1 <= 35184372088832 /\ bd.length + s.size <= 35184372088832 := by omega
    clear hne
    have hsl : s.data.toList.length = s.size := by rw [Array.length_toList]; rfl
    by_cases hz : s.size = 0
    · have hz1 : bd.length + s.size <= bd.length := by omega
      have hnil : s.data.toList = [] := List.length_eq_zero_iff.1 (by omega)
      rw [hnil, List.append_nil] at hfin'
      have hk : WrAt (H1.set p (.cells 0 true [.sl (.at b g' 0) bd.length bd.length 1])) p (some b) bd /\ WStep p (some b) (some b) H1 (H1.set p (.cells 0 true [.sl (.at b g' 0) bd.length bd.length 1])) :=
        ⟨⟨g', hcells_set_eq hp, by rw [hcells_set_ne hbp]; exact h2, hbp⟩, Keeps.set (.refl _ _) (.inl (by simp)) _, fun b h => h, fun h => (nomatch h)⟩
      have hk' := Hid.mk hk
      have hz2 : decide (s.size = 0) = true := decide_eq_true hz
      clear hk hnil hsl hz
      (refine Ok.body body62 pin62 ?_; simp only [c62,Try.f62,Option.getD_some,nslot62,List.append_nil,List.map,List.replicate,List.length_cons,List.length_nil,Nat.reduceAdd,Nat.reduceSub,List.cons_append,List.nil_append])
      (repeat' (first | (simp -implicitDefEqProofs (maxSteps := 1000000) (disch := first | assumption | omega | (simp only [ZDI]; omega)) only [*,lenV,List.drop_zero,Nat.zero_add,Nat.mul_one,G62,Za,Zb,Zc,Zd,Ze,Zf,Zg,Zh,Zi,Zj,Zk,Zl,Zm,Zn,Zo,Ja,Jb,Jc,J6,Jd,Je,J7,J8,Jf,Jg,Jh,Ji,Jj,Jk,J9,Jl,Jm,wr,Jn,JA,JB,Jo,Jp,Jq,Jr,Js,Jt,Ju,Jv,Jw,Jx,Jy,Jz,J0,J1,J2,J3,J4,J5,reduceCtorEq,JC,JD,JE,JF,JG,JH,JI,JJ]) | ((with_reducible (first | apply Ok.br | apply Ok.gd | apply Ok.ld)) <;> (intro g; (try simp only [ZGS] at g); try (exfalso; omega)))))
      exact hfin'.out _ (some b) hk'.out.1 hk'.out.2
    · have hz1 : ¬ (bd.length + s.size <= bd.length) := by omega
      have hk := wr_more h1 h2 hbp (cs := bV bd ++ bytesV s) (bs := bd ++ s.data.toList) (by rw [bV_app, bytesV_eq])
      rw [List.length_append, hsl] at hk
      have hk' := Hid.mk hk
      clear hk hsl
      (refine Ok.body body62 pin62 ?_; simp only [c62,Try.f62,Option.getD_some,nslot62,List.append_nil,List.map,List.replicate,List.length_cons,List.length_nil,Nat.reduceAdd,Nat.reduceSub,List.cons_append,List.nil_append])
      (repeat' (first | (simp -implicitDefEqProofs (maxSteps := 1000000) (disch := first | assumption | omega | (simp only [ZDI]; omega)) only [*,lenV,List.drop_zero,Nat.zero_add,Nat.mul_one,G62,Za,Zb,Zc,Zd,Ze,Zf,Zg,Zh,Zi,Zj,Zk,Zl,Zm,Zn,Zo,Ja,Jb,Jc,J6,Jd,Je,J7,J8,Jf,Jg,Jh,Ji,Jj,Jk,J9,Jl,Jm,wr,Jn,JA,JB,Jo,Jp,Jq,Jr,Js,Jt,Ju,Jv,Jw,Jx,Jy,Jz,J0,J1,J2,J3,J4,J5,reduceCtorEq,JC,JD,JE,JF,JG,JH,JI,JJ]) | ((with_reducible (first | apply Ok.br | apply Ok.gd | apply Ok.ld)) <;> (intro g; (try simp only [ZGS] at g); try (exfalso; omega)))))
      exact hfin'.out _ (some b) hk'.out.1 hk'.out.2
end Go.Ev
set_option maxRecDepth 100000
namespace Go.Ev
open Go.Proofs
def StrsAt (h : Heap) (v : V) (l : List ByteArray) : Prop :=
  ∃ a cap z, v = .sl a l.length cap z /\ l.length <= 9223372036854775807 /\ True /\ (l = [] \/ ∃ b g o rw full, a = .at b g o /\ hcells h b g = some (rw, full) /\ ∀ (i : Nat) (s : ByteArray), l[i]? = some s -> full[o + i]? = some (.str s))
theorem Strs.at {h : Heap} {v : V} {l : List ByteArray} (hs : Strs h v l) : StrsAt h v l := by
  obtain ⟨h1, h2, ⟨rfl, rfl⟩ | ⟨rfl, rfl⟩ | ⟨b, cap, full, rfl, h3, h4, h5, h6, h7⟩⟩ := hs
  · exact ⟨_, _, _, rfl, h2, trivial, .inl rfl⟩
  · exact ⟨_, _, _, rfl, h2, trivial, .inl rfl⟩
  · refine ⟨_, _, _, rfl, h2, trivial, .inr ⟨b, 0, 0, false, full, rfl, by unfold hcells; rw [h5]; exact grd_t rfl _, fun i s hi => by rw [Nat.zero_add]; exact h7 i s hi⟩⟩
end Go.Ev
set_option maxRecDepth 100000
namespace Go.Ev
open Go.Proofs
def KeepC (h h' : Heap) : Prop := h.length <= h'.length /\ ∀ b g p, hcells h b g = some p -> hcells h' b g = some p
theorem KeepC.refl (h : Heap) : KeepC h h := ⟨Nat.le_refl _, fun _ _ _ e => e⟩
theorem KeepC.trans {a b c : Heap} (h : KeepC a b) (k : KeepC b c) : KeepC a c := ⟨Nat.le_trans h.1 k.1, fun i g p e => k.2 i g p (h.2 i g p e)⟩
theorem KeepC.app (h l : Heap) : KeepC h (h ++ l) := ⟨by simp, fun b g p e => by rw [hcells_app (hcells_lt e)]; exact e⟩
theorem StrsAt.keep {h h' : Heap} {v : V} {l : List ByteArray} (hs : StrsAt h v l) (k : KeepC h h') : StrsAt h' v l := by
  obtain ⟨a, cap, z, h1, h2, h3, h4⟩ := hs
  refine ⟨a, cap, z, h1, h2, h3, h4.imp id ?_⟩
  rintro ⟨b, g, o, rw, full, e1, e2, e3⟩
  exact ⟨b, g, o, rw, full, e1, k.2 _ _ _ e2, e3⟩
theorem RowAt.keep {h h' : Heap} {v : V} {l : List RP} (hs : RowAt h v l) (k : KeepC h h') : RowAt h' v l := by
  obtain ⟨a, cap, z, h1, h2, h3, h4⟩ := hs
  refine ⟨a, cap, z, h1, h2, h3, h4.imp id ?_⟩
  rintro ⟨b, g, o, rw, full, e1, e2, e3⟩
  exact ⟨b, g, o, rw, full, e1, k.2 _ _ _ e2, e3⟩
end Go.Ev
set_option maxRecDepth 100000
namespace Go.Ev
open Go.Proofs
theorem WStep.keepC {H0 H H' : Heap} {p : Nat} {ob ob' : Option Nat} (h : WStep p ob ob' H H') (hk : KeepC H0 H) (hp : H0.length <= p) (hb : ∀ b, ob = some b -> H0.length <= b) : KeepC H0 H' /\ ∀ b, ob' = some b -> H0.length <= b := by
  refine ⟨⟨Nat.le_trans hk.1 h.1.1, fun i g q hc => ?_⟩, fun b e => ?_⟩
  · have hi := hcells_lt hc
    refine h.1.cells (hk.2 _ _ _ hc) fun hm => ?_
    rcases List.mem_cons.1 hm with rfl | hm
    · omega
    · have := hb i (by simpa using hm)
      omega
  · rcases h.blk e with e1 | e1
    · exact hb b e1
    · have := hk.1; omega
end Go.Ev
set_option maxRecDepth 100000
namespace Go.Ev
open Go.Ev renaming exPure -> Ja, ofValue -> Jb, cellsV -> Jc, load -> Jd, store -> Je, binOp -> Jf, intOp -> Jg, rdV -> Jh, vsame -> Ji, vsames -> Jj, makeSliceV -> Jk, resV -> Jl, isCell -> Jm, nilCheckV -> Jn, allV -> Jo, builtinV -> Jp, lenV -> Jq, indexAddrV -> Jr, unOp -> Js, minmaxV -> Jt, minmax -> Ju, sliceV -> Jv, asInt -> Jw, appendV -> Jx, forkB -> Jy, roY -> Jz, rwB -> J0, copyV -> J1, clearV -> J2, convV -> J3, sliceCells -> J4, shift -> J5
open Bool renaming true -> BT, false -> BF
open Nat renaming reduceEqDiff -> J6, reduceLT -> J7, reduceAdd -> J8, reduceBEq -> J9, reduceSub -> JA, reduceMul -> JB, reduceLeDiff -> JJ
open Int renaming reduceLT -> JC, reduceLE -> JD, reduceAdd -> JE, reduceSub -> JF, reduceNeg -> JG, reduceToNat -> JH, reduceEq -> JI
open Go.Proofs
theorem hiE_le (n : Nat) : (hiE n).length <= n := by
  rw [hiE]
  split
  · simp
  · rw [List.length_append]
    have := hiE_le (n / 128)
    simp; omega
termination_by n
decreasing_by omega
theorem textE_len (s : ByteArray) : (textE s).length <= 2 * s.size + 1 := by
  unfold textE numE
  have h1 := hiE_le (s.size / 128)
  have h2 : s.data.toList.length = s.size := by rw [Array.length_toList]; rfl
  rw [List.length_append, List.length_append, h2]
  simp; omega
end Go.Ev
set_option maxRecDepth 100000
namespace Go.Ev
open Go.Ev renaming exPure -> Ja, ofValue -> Jb, cellsV -> Jc, load -> Jd, store -> Je, binOp -> Jf, intOp -> Jg, rdV -> Jh, vsame -> Ji, vsames -> Jj, makeSliceV -> Jk, resV -> Jl, isCell -> Jm, nilCheckV -> Jn, allV -> Jo, builtinV -> Jp, lenV -> Jq, indexAddrV -> Jr, unOp -> Js, minmaxV -> Jt, minmax -> Ju, sliceV -> Jv, asInt -> Jw, appendV -> Jx, forkB -> Jy, roY -> Jz, rwB -> J0, copyV -> J1, clearV -> J2, convV -> J3, sliceCells -> J4, shift -> J5
open Bool renaming true -> BT, false -> BF
open Nat renaming reduceEqDiff -> J6, reduceLT -> J7, reduceAdd -> J8, reduceBEq -> J9, reduceSub -> JA, reduceMul -> JB, reduceLeDiff -> JJ
open Int renaming reduceLT -> JC, reduceLE -> JD, reduceAdd -> JE, reduceSub -> JF, reduceNeg -> JG, reduceToNat -> JH, reduceEq -> JI
open Go.Proofs
end Go.Ev
set_option maxRecDepth 100000
namespace Go.Ev
open Go.Proofs
end Go.Ev
set_option maxRecDepth 100000
namespace Go.Ev
open Go.Ev renaming exPure -> Ja, ofValue -> Jb, cellsV -> Jc, load -> Jd, store -> Je, binOp -> Jf, intOp -> Jg, rdV -> Jh, vsame -> Ji, vsames -> Jj, makeSliceV -> Jk, resV -> Jl, isCell -> Jm, nilCheckV -> Jn, allV -> Jo, builtinV -> Jp, lenV -> Jq, indexAddrV -> Jr, unOp -> Js, minmaxV -> Jt, minmax -> Ju, sliceV -> Jv, asInt -> Jw, appendV -> Jx, forkB -> Jy, roY -> Jz, rwB -> J0, copyV -> J1, clearV -> J2, convV -> J3, sliceCells -> J4, shift -> J5
open Bool renaming true -> BT, false -> BF
open Nat renaming reduceEqDiff -> J6, reduceLT -> J7, reduceAdd -> J8, reduceBEq -> J9, reduceSub -> JA, reduceMul -> JB, reduceLeDiff -> JJ
open Int renaming reduceLT -> JC, reduceLE -> JD, reduceAdd -> JE, reduceSub -> JF, reduceNeg -> JG, reduceToNat -> JH, reduceEq -> JI
open Go.Proofs
set_option maxHeartbeats 4000000 in
theorem wBytes_at {H : Heap} {p : Nat} {ob : Option Nat} {bs : List UInt8} (hw : WrAt H p ob bs) (hne : bs ≠ []) (hl : bs.length < 35184372088832) :
    D X (.fn 37 []) [.ptr p 0 0] H = some (.sl (.at H.length 0 0) bs.length bs.length 1, H ++ [.cells 0 true (bV bs)]) := by
  cases ob with
  | none => exact absurd hw.2 hne
  | some b =>
    obtain ⟨g, h1, h2, hbp⟩ := hw
    have hb := hcells_lt h2
    have ht := bV_take bs
    have hle : bs.length <= (bV bs).length := by rw [bV_len]; exact Nat.le_refl _
    have hn0 : ¬ bs.length <= 0 := by
      have : bs.length ≠ 0 := fun h => hne (List.length_eq_zero_iff.1 h)
      omega
    have hn1 : ¬ bs.length = 0 := by omega
    have hL : bs.length * 1 <= 35184372088832 /\ bs.length <= 35184372088832 := by omega
    clear hne
    refine Ok.eq ?_
    (refine Ok.body body37 pin37 ?_; simp only [c37,Try.f37,Option.getD_some,nslot37,List.append_nil,List.map,List.replicate,List.length_cons,List.length_nil,Nat.reduceAdd,Nat.reduceSub,List.cons_append,List.nil_append])
    (repeat' (first | (simp -implicitDefEqProofs (maxSteps := 1000000) (disch := first | assumption | omega | (simp only [ZDI]; omega)) only [*,lenV,List.drop_zero,Nat.zero_add,Nat.mul_one,List.nil_append,G37,Za,Zb,Zc,Zd,Ze,Zf,Zg,Zh,Zi,Zj,Zk,Zl,Zm,Zn,Zo,Ja,Jb,Jc,J6,Jd,Je,J7,J8,Jf,Jg,Jh,Ji,Jj,Jk,J9,Jl,Jm,wr,Jn,JA,JB,Jo,Jp,Jq,Jr,Js,Jt,Ju,Jv,Jw,Jx,Jy,Jz,J0,J1,J2,J3,J4,J5,reduceCtorEq,JC,JD,JE,JF,JG,JH,JI,JJ]) | ((with_reducible (first | apply Ok.br | apply Ok.gd | apply Ok.ld)) <;> (intro g; (try simp only [ZGS] at g); try (exfalso; omega)))))
end Go.Ev
set_option maxRecDepth 100000
namespace Go.Ev
open Go.Ev renaming exPure -> Ja, ofValue -> Jb, cellsV -> Jc, load -> Jd, store -> Je, binOp -> Jf, intOp -> Jg, rdV -> Jh, vsame -> Ji, vsames -> Jj, makeSliceV -> Jk, resV -> Jl, isCell -> Jm, nilCheckV -> Jn, allV -> Jo, builtinV -> Jp, lenV -> Jq, indexAddrV -> Jr, unOp -> Js, minmaxV -> Jt, minmax -> Ju, sliceV -> Jv, asInt -> Jw, appendV -> Jx, forkB -> Jy, roY -> Jz, rwB -> J0, copyV -> J1, clearV -> J2, convV -> J3, sliceCells -> J4, shift -> J5
open Bool renaming true -> BT, false -> BF
open Nat renaming reduceEqDiff -> J6, reduceLT -> J7, reduceAdd -> J8, reduceBEq -> J9, reduceSub -> JA, reduceMul -> JB, reduceLeDiff -> JJ
open Int renaming reduceLT -> JC, reduceLE -> JD, reduceAdd -> JE, reduceSub -> JF, reduceNeg -> JG, reduceToNat -> JH, reduceEq -> JI
open Go.Proofs
def KeptAt (H : Heap) (p : Nat) (v : V) (bs : List UInt8) : Prop := (bs = [] /\ v = .sl .nil 0 0 0) \/ ∃ b, b ≠ p /\ v = .sl (.at b 0 0) bs.length bs.length 1 /\ hcells H b 0 = some (true, bV bs)
structure RdAt (H : Heap) (p : Nat) (v : V) (bs : List UInt8) (st : Option (List UInt8)) : Prop where
  kept : KeptAt H p v bs
  cells : ∃ k : Nat, k <= bs.length /\ (∀ r, st = some r -> r = bs.drop k) /\ hcells H p 0 = some (true, [v, .int .i64 k, .bool st.isNone])
  room : bs.length < 35184372088832
theorem KeptAt.form {H : Heap} {p : Nat} {v : V} {bs : List UInt8} (h : KeptAt H p v bs) : ∃ a c z, v = .sl a bs.length c z := by
  rcases h with ⟨rfl, rfl⟩ | ⟨b, _, rfl, _⟩
  · exact ⟨_, _, _, rfl⟩
  · exact ⟨_, _, _, rfl⟩
theorem KeptAt.keep {H H' : Heap} {p : Nat} {v : V} {bs : List UInt8} (h : KeptAt H p v bs) (hk : Keeps [p] H H') : KeptAt H' p v bs := by
  rcases h with h | ⟨b, h1, h2, h3⟩
  · exact .inl h
  · exact .inr ⟨b, h1, h2, hk.cells h3 (by simpa using h1)⟩
theorem RdAt.keep {H H' : Heap} {p : Nat} {v : V} {bs : List UInt8} {st : Option (List UInt8)} (h : RdAt H p v bs st) (hk : Keeps [] H H') : RdAt H' p v bs st := by
  obtain ⟨k, h1, h2, h3⟩ := h.cells
  exact ⟨h.kept.keep (hk.mono fun _ _ h => by simp at h), ⟨k, h1, h2, hk.cells h3 (by simp)⟩, h.room⟩
def leftN : Option (List UInt8) -> Nat
  | none => 0
  | some r => r.length
theorem rdBad_at {H : Heap} {p : Nat} {v : V} {bs : List UInt8} {st : Option (List UInt8)} (h : RdAt H p v bs st) : D X (.fn 43 []) [.ptr p 0 0] H = some (.bool st.isNone, H) := by
  obtain ⟨k, _, _, h1⟩ := h.cells
  clear h
  generalize st.isNone = q at h1 ⊢
  refine Ok.eq ?_
  (refine Ok.body body43 pin43 ?_; simp only [c43,Try.f43,Option.getD_some,nslot43,List.append_nil,List.map,List.replicate,List.length_cons,List.length_nil,Nat.reduceAdd,Nat.reduceSub,List.cons_append,List.nil_append])
  (repeat' (first | (simp -implicitDefEqProofs (maxSteps := 1000000) (disch := first | assumption | omega | (simp only [ZDI]; omega)) only [*,G43,Za,Zb,Zc,Zd,Ze,Zf,Zg,Zh,Zi,Zj,Zk,Zl,Zm,Zn,Zo,Ja,Jb,Jc,J6,Jd,Je,J7,J8,Jf,Jg,Jh,Ji,Jj,Jk,J9,Jl,Jm,wr,Jn,JA,JB,Jo,Jp,Jq,Jr,Js,Jt,Ju,Jv,Jw,Jx,Jy,Jz,J0,J1,J2,J3,J4,J5,reduceCtorEq,JC,JD,JE,JF,JG,JH,JI,JJ]) | ((with_reducible (first | apply Ok.br | apply Ok.gd | apply Ok.ld)) <;> (intro g; (try simp only [ZGS] at g); try (exfalso; omega)))))
theorem rdLeft_at {H : Heap} {p : Nat} {v : V} {bs : List UInt8} {st : Option (List UInt8)} (h : RdAt H p v bs st) : D X (.fn 42 []) [.ptr p 0 0] H = some (.int .i64 (leftN st : Nat), H) := by
  have hb := rdBad_at h
  obtain ⟨k, hk, hr, h1⟩ := h.cells
  obtain ⟨a, c, z, rfl⟩ := h.kept.form
  have hroom := h.room
  clear h
  refine Ok.eq ?_
  cases st with
  | none =>
    simp only [Option.isNone_none] at hb h1
    clear hr
    show Ev.Ok (D X (.fn 42 []) [.ptr p 0 0] H) fun x => x = (.int .i64 0, H)
    (refine Ok.body body42 pin42 ?_; simp only [c42,Try.f42,Option.getD_some,nslot42,List.append_nil,List.map,List.replicate,List.length_cons,List.length_nil,Nat.reduceAdd,Nat.reduceSub,List.cons_append,List.nil_append])
    (repeat' (first | (simp -implicitDefEqProofs (maxSteps := 1000000) (disch := first | assumption | omega | (simp only [ZDI]; omega)) only [*,G42,Za,Zb,Zc,Zd,Ze,Zf,Zg,Zh,Zi,Zj,Zk,Zl,Zm,Zn,Zo,Ja,Jb,Jc,J6,Jd,Je,J7,J8,Jf,Jg,Jh,Ji,Jj,Jk,J9,Jl,Jm,wr,Jn,JA,JB,Jo,Jp,Jq,Jr,Js,Jt,Ju,Jv,Jw,Jx,Jy,Jz,J0,J1,J2,J3,J4,J5,reduceCtorEq,JC,JD,JE,JF,JG,JH,JI,JJ]) | ((with_reducible (first | apply Ok.br | apply Ok.gd | apply Ok.ld)) <;> (intro g; (try simp only [ZGS] at g); try (exfalso; omega)))))
  | some r =>
    simp only [Option.isNone_some] at hb h1
    have e := hr r rfl
    subst e
    have hl : (bs.length : Int) - (k : Int) = ((leftN (some (bs.drop k)) : Nat) : Int) := by
      show _ = (((bs.drop k).length : Nat) : Int)
      rw [List.length_drop]; omega
    generalize leftN (some (bs.drop k)) = m at hl ⊢
    clear hr
    (refine Ok.body body42 pin42 ?_; simp only [c42,Try.f42,Option.getD_some,nslot42,List.append_nil,List.map,List.replicate,List.length_cons,List.length_nil,Nat.reduceAdd,Nat.reduceSub,List.cons_append,List.nil_append])
    (repeat' (first | (simp -implicitDefEqProofs (maxSteps := 1000000) (disch := first | assumption | omega | (simp only [ZDI]; omega)) only [*,lenV,G42,Za,Zb,Zc,Zd,Ze,Zf,Zg,Zh,Zi,Zj,Zk,Zl,Zm,Zn,Zo,Ja,Jb,Jc,J6,Jd,Je,J7,J8,Jf,Jg,Jh,Ji,Jj,Jk,J9,Jl,Jm,wr,Jn,JA,JB,Jo,Jp,Jq,Jr,Js,Jt,Ju,Jv,Jw,Jx,Jy,Jz,J0,J1,J2,J3,J4,J5,reduceCtorEq,JC,JD,JE,JF,JG,JH,JI,JJ]) | ((with_reducible (first | apply Ok.br | apply Ok.gd | apply Ok.ld)) <;> (intro g; (try simp only [ZGS] at g); try (exfalso; omega)))))
theorem rdFail_at {H : Heap} {p : Nat} {v : V} {bs : List UInt8} {st : Option (List UInt8)} (h : RdAt H p v bs st) : D X (.fn 84 []) [.ptr p 0 0] H = some (.tup [], H.set p (.cells 0 true [v, .int .i64 bs.length, .bool true])) := by
  obtain ⟨k, hk, hr, h1⟩ := h.cells
  obtain ⟨a, c, z, rfl⟩ := h.kept.form
  have hp := hcells_lt h1
  clear h hr
  generalize st.isNone = q at h1
  refine Ok.eq ?_
  (refine Ok.body body84 pin84 ?_; simp only [c84,Try.f84,Option.getD_some,nslot84,List.append_nil,List.map,List.replicate,List.length_cons,List.length_nil,Nat.reduceAdd,Nat.reduceSub,List.cons_append,List.nil_append])
  (repeat' (first | (simp -implicitDefEqProofs (maxSteps := 1000000) (disch := first | assumption | omega | (simp only [ZDI]; omega)) only [*,lenV,G84,Za,Zb,Zc,Zd,Ze,Zf,Zg,Zh,Zi,Zj,Zk,Zl,Zm,Zn,Zo,Ja,Jb,Jc,J6,Jd,Je,J7,J8,Jf,Jg,Jh,Ji,Jj,Jk,J9,Jl,Jm,wr,Jn,JA,JB,Jo,Jp,Jq,Jr,Js,Jt,Ju,Jv,Jw,Jx,Jy,Jz,J0,J1,J2,J3,J4,J5,reduceCtorEq,JC,JD,JE,JF,JG,JH,JI,JJ]) | ((with_reducible (first | apply Ok.br | apply Ok.gd | apply Ok.ld)) <;> (intro g; (try simp only [ZGS] at g); try (exfalso; omega)))))
theorem RdAt.fail {H : Heap} {p : Nat} {v : V} {bs : List UInt8} {st : Option (List UInt8)} (h : RdAt H p v bs st) : RdAt (H.set p (.cells 0 true [v, .int .i64 bs.length, .bool true])) p v bs none /\ Keeps [p] H (H.set p (.cells 0 true [v, .int .i64 bs.length, .bool true])) := by
  obtain ⟨k, hk, hr, h1⟩ := h.cells
  have hK : Keeps [p] H (H.set p (.cells 0 true [v, .int .i64 bs.length, .bool true])) := (Keeps.refl _ _).set (.inl (by simp)) _
  exact ⟨⟨h.kept.keep hK, ⟨bs.length, Nat.le_refl _, (fun r h => by cases h), hcells_set_eq (hcells_lt h1)⟩, h.room⟩, hK⟩
abbrev Dec (α : Type) := List UInt8 -> Option (α × List UInt8)
def Took {α : Type} (dec : Dec α) (d : α) (f : α -> V) (p : Nat) (v : V) (bs : List UInt8) (st : Option (List UInt8)) (H : Heap) (y : V × Heap) : Prop :=
  y.1 = f (((st.bind dec).map (·.1)).getD d) /\ RdAt y.2 p v bs ((st.bind dec).map (·.2)) /\ Keeps [p] H y.2
def byteD : Dec UInt8
  | [] => none
  | c :: r => some (c, r)
set_option maxHeartbeats 4000000 in
theorem rdByte_at {H : Heap} {p : Nat} {v : V} {bs : List UInt8} {st : Option (List UInt8)} (h : RdAt H p v bs st) : Ev.Ok (D X (.fn 69 []) [.ptr p 0 0] H) (Took byteD 0 (fun c => .int .u8 (c.toNat : Nat)) p v bs st H) := by
  refine Ok.aim fun Q hQ => ?_
  have hQ' := Hid.mk hQ
  clear hQ
  have hl := rdLeft_at h
  have hf := rdFail_at h
  obtain ⟨f1, f2⟩ := h.fail
  by_cases hz : leftN st = 0
  · have hst : st.bind byteD = none := by
      cases st with
      | none => rfl
      | some r =>
        have : r = [] := List.length_eq_zero_iff.1 hz
        subst this; rfl
    have hfin : Hid (Q (.int .u8 0, H.set p (.cells 0 true [v, .int .i64 bs.length, .bool true]))) := ⟨hQ'.out _ ⟨by rw [hst]; rfl, by rw [hst]; exact f1, f2⟩⟩
    rw [hz] at hl
    clear hQ' h f1 f2 hst hz
    (refine Ok.body body69 pin69 ?_; simp only [c69,Try.f69,Option.getD_some,nslot69,List.append_nil,List.map,List.replicate,List.length_cons,List.length_nil,Nat.reduceAdd,Nat.reduceSub,List.cons_append,List.nil_append])
    (repeat' (first | (simp -implicitDefEqProofs (maxSteps := 1000000) (disch := first | assumption | omega | (simp only [ZDI]; omega)) only [*,G69,Za,Zb,Zc,Zd,Ze,Zf,Zg,Zh,Zi,Zj,Zk,Zl,Zm,Zn,Zo,Ja,Jb,Jc,J6,Jd,Je,J7,J8,Jf,Jg,Jh,Ji,Jj,Jk,J9,Jl,Jm,wr,Jn,JA,JB,Jo,Jp,Jq,Jr,Js,Jt,Ju,Jv,Jw,Jx,Jy,Jz,J0,J1,J2,J3,J4,J5,reduceCtorEq,JC,JD,JE,JF,JG,JH,JI,JJ]) | ((with_reducible (first | apply Ok.br | apply Ok.gd | apply Ok.ld)) <;> (intro g; (try simp only [ZGS] at g); try (exfalso; omega)))))
    exact hfin.out
  · cases st with
    | none => exact absurd rfl hz
    | some r =>
      cases r with
      | nil => exact absurd rfl hz
      | cons c r =>
        obtain ⟨k, hk, hr, h1⟩ := h.cells
        have hroom := h.room
        have hr := hr _ rfl
        have hget : bs[k]? = some c := by
          have := congrArg (fun l => l[0]?) hr
          simp only [List.getElem?_cons_zero,List.getElem?_drop,Nat.add_zero] at this
          exact this.symm
        have hrest : r = bs.drop (k + 1) := by
          have := congrArg (fun l => l.drop 1) hr
          simpa [List.drop_drop] using this
        have hklt : k < bs.length := (List.getElem?_eq_some_iff.1 hget).1
        rcases h.kept with ⟨e, _⟩ | ⟨b, hbp, hv, hbc⟩
        · subst e; simp at hget
        · have hkept := h.kept
          subst hv
          have hp := hcells_lt h1
          have hb := hcells_lt hbc
          have hcell : (bV bs)[k]? = some (.int .u8 (c.toNat : Nat)) := by unfold bV; rw [List.getElem?_map, hget]; rfl
          have hK : Keeps [p] H (H.set p (.cells 0 true [.sl (.at b 0 0) bs.length bs.length 1, .int .i64 ((k + 1 : Nat) : Int), .bool false])) := (Keeps.refl _ _).set (.inl (by simp)) _
          have hfin : Hid (Q (.int .u8 (c.toNat : Nat), H.set p (.cells 0 true [.sl (.at b 0 0) bs.length bs.length 1, .int .i64 ((k + 1 : Nat) : Int), .bool false]))) :=
            ⟨hQ'.out _ ⟨rfl, ⟨hkept.keep hK, ⟨k + 1, by omega, (fun r' e => by cases e; exact hrest), hcells_set_eq hp⟩, hroom⟩, hK⟩⟩
          have hL : ¬ ((leftN (some (c :: r)) : Nat) : Int) = 0 := by omega
          generalize leftN (some (c :: r)) = m at hl hL
          simp only [Option.isNone_some] at h1
          have hk1 : (k : Int) + 1 = ((k + 1 : Nat) : Int) := by omega
          have hk2 : ((k + 1 : Nat) : Int) - 1 = (k : Int) := by omega
          have hle : bs.length <= (bV bs).length := by rw [bV_len]; exact Nat.le_refl _
          have g1 : 0 <= (k : Int) /\ (k : Int) < (bs.length : Int) := by omega
          have hblen : (bV bs).length = bs.length := bV_len bs
          clear hQ' h f1 f2 hr hget hrest hkept hK hz hf
          (refine Ok.body body69 pin69 ?_; simp only [c69,Try.f69,Option.getD_some,nslot69,List.append_nil,List.map,List.replicate,List.length_cons,List.length_nil,Nat.reduceAdd,Nat.reduceSub,List.cons_append,List.nil_append])
          (repeat' (first | (simp -implicitDefEqProofs (maxSteps := 1000000) (disch := first | assumption | omega | (simp only [ZDI]; omega)) only [*,lenV,Nat.zero_add,Nat.mul_one,G69,Za,Zb,Zc,Zd,Ze,Zf,Zg,Zh,Zi,Zj,Zk,Zl,Zm,Zn,Zo,Ja,Jb,Jc,J6,Jd,Je,J7,J8,Jf,Jg,Jh,Ji,Jj,Jk,J9,Jl,Jm,wr,Jn,JA,JB,Jo,Jp,Jq,Jr,Js,Jt,Ju,Jv,Jw,Jx,Jy,Jz,J0,J1,J2,J3,J4,J5,reduceCtorEq,JC,JD,JE,JF,JG,JH,JI,JJ]) | ((with_reducible (first | apply Ok.br | apply Ok.gd | apply Ok.ld)) <;> (intro g; (try simp only [ZGS] at g); try (exfalso; omega)))))
          exact hfin.out
end Go.Ev
set_option maxRecDepth 100000
namespace Go.Ev
open Go.Ev renaming exPure -> Ja, ofValue -> Jb, cellsV -> Jc, load -> Jd, store -> Je, binOp -> Jf, intOp -> Jg, rdV -> Jh, vsame -> Ji, vsames -> Jj, makeSliceV -> Jk, resV -> Jl, isCell -> Jm, nilCheckV -> Jn, allV -> Jo, builtinV -> Jp, lenV -> Jq, indexAddrV -> Jr, unOp -> Js, minmaxV -> Jt, minmax -> Ju, sliceV -> Jv, asInt -> Jw, appendV -> Jx, forkB -> Jy, roY -> Jz, rwB -> J0, copyV -> J1, clearV -> J2, convV -> J3, sliceCells -> J4, shift -> J5
open Bool renaming true -> BT, false -> BF
open Nat renaming reduceEqDiff -> J6, reduceLT -> J7, reduceAdd -> J8, reduceBEq -> J9, reduceSub -> JA, reduceMul -> JB, reduceLeDiff -> JJ
open Int renaming reduceLT -> JC, reduceLE -> JD, reduceAdd -> JE, reduceSub -> JF, reduceNeg -> JG, reduceToNat -> JH, reduceEq -> JI
open Go.Proofs
def numF : Bool -> Nat -> List UInt8 -> Option (Nat × List UInt8)
  | _, _, [] => none
  | f, n, c :: r => if (f = true /\ c.toNat = 128) \/ 144115188075855872 <= n then none else if c.toNat < 128 then some (n * 128 + c.toNat % 128, r) else numF false (n * 128 + c.toNat % 128) r
def numD : Dec Nat := numF true 0
theorem shl7 {n : Nat} (h : n < 144115188075855872) : IntKind.u64.wrap ((n : Int) * 2 ^ min 7 IntKind.u64.bits) = ((n * 128 : Nat) : Int) := by
  have : (n : Int) * 2 ^ min 7 IntKind.u64.bits = ((n * 128 : Nat) : Int) := by
    show (n : Int) * 2 ^ 7 = _
    omega
  rw [this, wrapU (by omega)]
theorem shr57 (n : Nat) : (n : Int).fdiv (2 ^ min 57 IntKind.u64.bits) = ((n / 144115188075855872 : Nat) : Int) := by
  show (n : Int).fdiv (2 ^ 57) = _
  rw [Int.fdiv_eq_ediv_of_nonneg _ (by decide)]
  omega
theorem or7 {n c : Nat} (h : n < 144115188075855872) (hc : c < 128) : IntKind.u64.wrap ((BitVec.ofInt IntKind.u64.bits ((n * 128 : Nat) : Int) ||| BitVec.ofInt IntKind.u64.bits (c : Int)).toNat : Nat) = ((n * 128 + c : Nat) : Int) := by
  have e : (BitVec.ofInt IntKind.u64.bits ((n * 128 : Nat) : Int) ||| BitVec.ofInt IntKind.u64.bits (c : Int)).toNat = n * 128 + c := by
    show (BitVec.ofInt 64 ((n * 128 : Nat) : Int) ||| BitVec.ofInt 64 (c : Int)).toNat = _
    rw [BitVec.toNat_or, BitVec.ofInt_natCast, BitVec.ofInt_natCast, BitVec.toNat_ofNat, BitVec.toNat_ofNat, Nat.mod_eq_of_lt (by omega), Nat.mod_eq_of_lt (by omega), Nat.mul_comm n 128]
    exact (Nat.two_pow_add_eq_or_of_lt (i := 7) hc n).symm
  rw [e, wrapU (by omega)]
set_option maxHeartbeats 8000000 in
theorem rdNum_at {H : Heap} {p : Nat} {v : V} {bs : List UInt8} {st : Option (List UInt8)} (h : RdAt H p v bs st) : Ev.Ok (D X (.fn 73 []) [.ptr p 0 0] H) (Took numD 0 (fun n => .int .u64 (n : Nat)) p v bs st H) := by
  refine Ok.aim fun Q hQ => ?_
  have hQ' := Hid.mk hQ
  clear hQ
  (refine Ok.body body73 pin73 ?_; simp only [c73,Try.f73,Option.getD_some,nslot73,List.append_nil,List.map,List.replicate,List.length_cons,List.length_nil,Nat.reduceAdd,Nat.reduceSub,List.cons_append,List.nil_append])
  (repeat' (first | (simp -implicitDefEqProofs (maxSteps := 1000000) (disch := first | assumption | omega | (simp only [ZDI]; omega)) only [*,G73,Za,Zb,Zc,Zd,Ze,Zf,Zg,Zh,Zi,Zj,Zk,Zl,Zm,Zn,Zo,Ja,Jb,Jc,J6,Jd,Je,J7,J8,Jf,Jg,Jh,Ji,Jj,Jk,J9,Jl,Jm,wr,Jn,JA,JB,Jo,Jp,Jq,Jr,Js,Jt,Ju,Jv,Jw,Jx,Jy,Jz,J0,J1,J2,J3,J4,J5,reduceCtorEq,JC,JD,JE,JF,JG,JH,JI,JJ]) | ((with_reducible (first | apply Ok.br | apply Ok.gd | apply Ok.ld)) <;> (intro g; (try simp only [ZGS] at g); try (exfalso; omega)))))
  refine Ok.loop [BF, BF, BT, BT, BT, BT, BT, BT, BT, BT, BT, BT, BT, BT, BT, BT, BT, BT, BT, BT, BT, BT, BT, BT, BT, BT, BT, BT, BT, BT, BT, BT, BT] (fun k s2 => ∃ (st' : Option (List UInt8)) (n : Nat) (f : Bool), k = leftN st' /\ tv s2.e 3 = .v (.int .u64 (n : Nat)) /\ tv s2.e 4 = .v (.bool f) /\ s2.l = [] /\ RdAt s2.h p v bs st' /\ Keeps [p] H s2.h /\ st'.bind (numF f n) = st.bind numD)
    (fun y s2 => y = .ret /\ s2.l = [] /\ tv s2.e 2 = .v (.int .u64 ((((st.bind numD).map (·.1)).getD 0 : Nat) : Int)) /\ RdAt s2.h p v bs ((st.bind numD).map (·.2)) /\ Keeps [p] H s2.h)
    (leftN st) ⟨st, 0, true, rfl, rfl, rfl, rfl, h, .refl _ _, rfl⟩ ?_ ?_
  · intro k ⟨e', l', g⟩ hW ⟨st', n, f, hm, h3, h4, k2, hrd, hk, hnum⟩
    dsimp only at hW h3 h4 k2 hrd hk
    subst l'
    rw [hW.spread]
    simp only [spread_t,spread_f,spread_n,Nat.zero_add,Nat.reduceAdd,h3,h4]
    clear hW hQ' h
    obtain ⟨⟨vb, g1⟩, eB, hv, hrd1, hk1⟩ := rdByte_at hrd
    dsimp only at hv hrd1 hk1
    have eBad := rdBad_at hrd1
    have eFail := rdFail_at hrd1
    obtain ⟨f1, f2⟩ := hrd1.fail
    have hkf := Hid.mk (hk.trans (hk1.trans f2))
    have hkk := Hid.mk (hk.trans hk1)
    have hf1 := Hid.mk f1
    clear f1 f2 hk hk1 hrd
    cases st' with
    | none =>
      simp only [Option.bind_none,Option.map_none,Option.getD_none,Option.isNone_none] at hv hrd1 eBad eFail hnum
      subst hv
      have hn0 : Hid (st.bind numD = none) := ⟨hnum.symm⟩
      clear hrd1 hnum
      (repeat' (first | (simp -implicitDefEqProofs (maxSteps := 1000000) (disch := first | assumption | omega | (simp only [ZDI]; omega)) only [*,shr57,G73,Za,Zb,Zc,Zd,Ze,Zf,Zg,Zh,Zi,Zj,Zk,Zl,Zm,Zn,Zo,Ja,Jb,Jc,J6,Jd,Je,J7,J8,Jf,Jg,Jh,Ji,Jj,Jk,J9,Jl,Jm,wr,Jn,JA,JB,Jo,Jp,Jq,Jr,Js,Jt,Ju,Jv,Jw,Jx,Jy,Jz,J0,J1,J2,J3,J4,J5,reduceCtorEq,JC,JD,JE,JF,JG,JH,JI,JJ]) | ((with_reducible (first | apply Ok.br | apply Ok.gd | apply Ok.ld)) <;> (intro g; (try simp only [ZGS] at g); try (exfalso; omega)))))
      exact Turn.ret ⟨rfl, rfl, rfl, by rw [hn0.out]; rfl, by rw [hn0.out]; exact hf1.out, hkf.out⟩
    | some l =>
      cases l with
      | nil =>
        simp only [Option.bind_some,byteD,numF,Option.map_none,Option.getD_none,Option.isNone_none] at hv hrd1 eBad eFail hnum
        subst hv
        have hn0 : Hid (st.bind numD = none) := ⟨hnum.symm⟩
        clear hrd1 hnum
        (repeat' (first | (simp -implicitDefEqProofs (maxSteps := 1000000) (disch := first | assumption | omega | (simp only [ZDI]; omega)) only [*,shr57,G73,Za,Zb,Zc,Zd,Ze,Zf,Zg,Zh,Zi,Zj,Zk,Zl,Zm,Zn,Zo,Ja,Jb,Jc,J6,Jd,Je,J7,J8,Jf,Jg,Jh,Ji,Jj,Jk,J9,Jl,Jm,wr,Jn,JA,JB,Jo,Jp,Jq,Jr,Js,Jt,Ju,Jv,Jw,Jx,Jy,Jz,J0,J1,J2,J3,J4,J5,reduceCtorEq,JC,JD,JE,JF,JG,JH,JI,JJ]) | ((with_reducible (first | apply Ok.br | apply Ok.gd | apply Ok.ld)) <;> (intro g; (try simp only [ZGS] at g); try (exfalso; omega)))))
        exact Turn.ret ⟨rfl, rfl, rfl, by rw [hn0.out]; rfl, by rw [hn0.out]; exact hf1.out, hkf.out⟩
      | cons c r =>
        simp only [Option.bind_some,byteD,Option.map_some,Option.getD_some,Option.isNone_some] at hv hrd1 eBad eFail hnum
        subst hv
        have hrd1' := Hid.mk hrd1
        have hc256 : c.toNat < 256 := UInt8.toNat_lt c
        have h127 : IntKind.u8.wrap ((BitVec.ofInt IntKind.u8.bits ((c.toNat : Nat) : Int) &&& BitVec.ofInt IntKind.u8.bits 127).toNat : Nat) = ((c.toNat % 128 : Nat) : Int) := by rw [and127 (by omega)]; omega
        have hcv : IntKind.u64.wrap ((c.toNat % 128 : Nat) : Int) = ((c.toNat % 128 : Nat) : Int) := wrapU (by omega)
        rw [numF] at hnum
        clear hrd1
        have hleft : leftN (some (c :: r)) = leftN (some r) + 1 := rfl
        by_cases hb : (f = true /\ c.toNat = 128)
        · rw [if_pos (.inl hb)] at hnum
          have hn0 : Hid (st.bind numD = none) := ⟨hnum.symm⟩
          obtain ⟨rfl, hc⟩ := hb
          have hc' : ((c.toNat : Nat) : Int) = 128 := by omega
          clear hnum hc hcv h127
          (repeat' (first | (simp -implicitDefEqProofs (maxSteps := 1000000) (disch := first | assumption | omega | (simp only [ZDI]; omega)) only [*,shr57,G73,Za,Zb,Zc,Zd,Ze,Zf,Zg,Zh,Zi,Zj,Zk,Zl,Zm,Zn,Zo,Ja,Jb,Jc,J6,Jd,Je,J7,J8,Jf,Jg,Jh,Ji,Jj,Jk,J9,Jl,Jm,wr,Jn,JA,JB,Jo,Jp,Jq,Jr,Js,Jt,Ju,Jv,Jw,Jx,Jy,Jz,J0,J1,J2,J3,J4,J5,reduceCtorEq,JC,JD,JE,JF,JG,JH,JI,JJ]) | ((with_reducible (first | apply Ok.br | apply Ok.gd | apply Ok.ld)) <;> (intro g; (try simp only [ZGS] at g); try (exfalso; omega)))))
          exact Turn.ret ⟨rfl, rfl, rfl, by rw [hn0.out]; rfl, by rw [hn0.out]; exact hf1.out, hkf.out⟩
        · have hbc : f = false \/ (f = true /\ ¬ ((c.toNat : Nat) : Int) = 128) := by
            cases f with
            | false => exact .inl rfl
            | true => exact .inr ⟨rfl, fun e => hb ⟨rfl, by omega⟩⟩
          by_cases hn : 144115188075855872 <= n
          · rw [if_pos (.inr hn)] at hnum
            have hn0 : Hid (st.bind numD = none) := ⟨hnum.symm⟩
            have hn1 : (0 : Int) < ((n / 144115188075855872 : Nat) : Int) := by omega
            clear hnum hcv h127 hb
            rcases hbc with rfl | ⟨rfl, hc'⟩
            · (repeat' (first | (simp -implicitDefEqProofs (maxSteps := 1000000) (disch := first | assumption | omega | (simp only [ZDI]; omega)) only [*,shr57,G73,Za,Zb,Zc,Zd,Ze,Zf,Zg,Zh,Zi,Zj,Zk,Zl,Zm,Zn,Zo,Ja,Jb,Jc,J6,Jd,Je,J7,J8,Jf,Jg,Jh,Ji,Jj,Jk,J9,Jl,Jm,wr,Jn,JA,JB,Jo,Jp,Jq,Jr,Js,Jt,Ju,Jv,Jw,Jx,Jy,Jz,J0,J1,J2,J3,J4,J5,reduceCtorEq,JC,JD,JE,JF,JG,JH,JI,JJ]) | ((with_reducible (first | apply Ok.br | apply Ok.gd | apply Ok.ld)) <;> (intro g; (try simp only [ZGS] at g); try (exfalso; omega)))))
              exact Turn.ret ⟨rfl, rfl, rfl, by rw [hn0.out]; rfl, by rw [hn0.out]; exact hf1.out, hkf.out⟩
            · (repeat' (first | (simp -implicitDefEqProofs (maxSteps := 1000000) (disch := first | assumption | omega | (simp only [ZDI]; omega)) only [*,shr57,G73,Za,Zb,Zc,Zd,Ze,Zf,Zg,Zh,Zi,Zj,Zk,Zl,Zm,Zn,Zo,Ja,Jb,Jc,J6,Jd,Je,J7,J8,Jf,Jg,Jh,Ji,Jj,Jk,J9,Jl,Jm,wr,Jn,JA,JB,Jo,Jp,Jq,Jr,Js,Jt,Ju,Jv,Jw,Jx,Jy,Jz,J0,J1,J2,J3,J4,J5,reduceCtorEq,JC,JD,JE,JF,JG,JH,JI,JJ]) | ((with_reducible (first | apply Ok.br | apply Ok.gd | apply Ok.ld)) <;> (intro g; (try simp only [ZGS] at g); try (exfalso; omega)))))
              exact Turn.ret ⟨rfl, rfl, rfl, by rw [hn0.out]; rfl, by rw [hn0.out]; exact hf1.out, hkf.out⟩
          · rw [if_neg (by rintro (h | h); exact hb h; exact hn h)] at hnum
            have hn1 : ¬ (0 : Int) < ((n / 144115188075855872 : Nat) : Int) := by omega
            have h7 := shl7 (n := n) (by omega)
            have hor := or7 (n := n) (c := c.toNat % 128) (by omega) (by omega)
            by_cases hlt : c.toNat < 128
            · rw [if_pos hlt] at hnum
              have hn0 : Hid (st.bind numD = some (n * 128 + c.toNat % 128, r)) := ⟨hnum.symm⟩
              have hlt' : ((c.toNat : Nat) : Int) < 128 := by omega
              clear hnum hb hlt
              rcases hbc with rfl | ⟨rfl, hc'⟩
              · (repeat' (first | (simp -implicitDefEqProofs (maxSteps := 1000000) (disch := first | assumption | omega | (simp only [ZDI]; omega)) only [*,shr57,G73,Za,Zb,Zc,Zd,Ze,Zf,Zg,Zh,Zi,Zj,Zk,Zl,Zm,Zn,Zo,Ja,Jb,Jc,J6,Jd,Je,J7,J8,Jf,Jg,Jh,Ji,Jj,Jk,J9,Jl,Jm,wr,Jn,JA,JB,Jo,Jp,Jq,Jr,Js,Jt,Ju,Jv,Jw,Jx,Jy,Jz,J0,J1,J2,J3,J4,J5,reduceCtorEq,JC,JD,JE,JF,JG,JH,JI,JJ]) | ((with_reducible (first | apply Ok.br | apply Ok.gd | apply Ok.ld)) <;> (intro g; (try simp only [ZGS] at g); try (exfalso; omega)))))
                exact Turn.ret ⟨rfl, rfl, rfl, by rw [hn0.out]; rfl, by rw [hn0.out]; exact hrd1'.out, hkk.out⟩
              · (repeat' (first | (simp -implicitDefEqProofs (maxSteps := 1000000) (disch := first | assumption | omega | (simp only [ZDI]; omega)) only [*,shr57,G73,Za,Zb,Zc,Zd,Ze,Zf,Zg,Zh,Zi,Zj,Zk,Zl,Zm,Zn,Zo,Ja,Jb,Jc,J6,Jd,Je,J7,J8,Jf,Jg,Jh,Ji,Jj,Jk,J9,Jl,Jm,wr,Jn,JA,JB,Jo,Jp,Jq,Jr,Js,Jt,Ju,Jv,Jw,Jx,Jy,Jz,J0,J1,J2,J3,J4,J5,reduceCtorEq,JC,JD,JE,JF,JG,JH,JI,JJ]) | ((with_reducible (first | apply Ok.br | apply Ok.gd | apply Ok.ld)) <;> (intro g; (try simp only [ZGS] at g); try (exfalso; omega)))))
                exact Turn.ret ⟨rfl, rfl, rfl, by rw [hn0.out]; rfl, by rw [hn0.out]; exact hrd1'.out, hkk.out⟩
            · rw [if_neg hlt] at hnum
              have hn0 := Hid.mk hnum
              have hlt' : ¬ ((c.toNat : Nat) : Int) < 128 := by omega
              clear hnum hb hlt
              rcases hbc with rfl | ⟨rfl, hc'⟩
              · (repeat' (first | (simp -implicitDefEqProofs (maxSteps := 1000000) (disch := first | assumption | omega | (simp only [ZDI]; omega)) only [*,shr57,G73,Za,Zb,Zc,Zd,Ze,Zf,Zg,Zh,Zi,Zj,Zk,Zl,Zm,Zn,Zo,Ja,Jb,Jc,J6,Jd,Je,J7,J8,Jf,Jg,Jh,Ji,Jj,Jk,J9,Jl,Jm,wr,Jn,JA,JB,Jo,Jp,Jq,Jr,Js,Jt,Ju,Jv,Jw,Jx,Jy,Jz,J0,J1,J2,J3,J4,J5,reduceCtorEq,JC,JD,JE,JF,JG,JH,JI,JJ]) | ((with_reducible (first | apply Ok.br | apply Ok.gd | apply Ok.ld)) <;> (intro g; (try simp only [ZGS] at g); try (exfalso; omega)))))
                exact Turn.next (leftN (some r)) (by omega) ⟨rfl, some r, n * 128 + c.toNat % 128, false, rfl, rfl, rfl, rfl, hrd1'.out, hkk.out, hn0.out⟩
              · (repeat' (first | (simp -implicitDefEqProofs (maxSteps := 1000000) (disch := first | assumption | omega | (simp only [ZDI]; omega)) only [*,shr57,G73,Za,Zb,Zc,Zd,Ze,Zf,Zg,Zh,Zi,Zj,Zk,Zl,Zm,Zn,Zo,Ja,Jb,Jc,J6,Jd,Je,J7,J8,Jf,Jg,Jh,Ji,Jj,Jk,J9,Jl,Jm,wr,Jn,JA,JB,Jo,Jp,Jq,Jr,Js,Jt,Ju,Jv,Jw,Jx,Jy,Jz,J0,J1,J2,J3,J4,J5,reduceCtorEq,JC,JD,JE,JF,JG,JH,JI,JJ]) | ((with_reducible (first | apply Ok.br | apply Ok.gd | apply Ok.ld)) <;> (intro g; (try simp only [ZGS] at g); try (exfalso; omega)))))
                exact Turn.next (leftN (some r)) (by omega) ⟨rfl, some r, n * 128 + c.toNat % 128, false, rfl, rfl, rfl, rfl, hrd1'.out, hkk.out, hn0.out⟩
  · intro y ⟨e', l', g⟩ hW ⟨hy, k2, h2, hrd, hk⟩
    dsimp only at hW h2 k2 hrd hk
    subst l' hy
    rw [hW.spread]
    clear hW
    simp only [spread_t,spread_f,spread_n,Nat.zero_add,Nat.reduceAdd,h2]
    have hq := Hid.mk (hQ'.out (.int .u64 ((((st.bind numD).map (·.1)).getD 0 : Nat) : Int), g) ⟨rfl, hrd, hk⟩)
    clear hQ' hrd hk h
    generalize ((st.bind numD).map (·.1)).getD 0 = m at hq
    (repeat' (first | (simp -implicitDefEqProofs (maxSteps := 1000000) (disch := first | assumption | omega | (simp only [ZDI]; omega)) only [*,G73,Za,Zb,Zc,Zd,Ze,Zf,Zg,Zh,Zi,Zj,Zk,Zl,Zm,Zn,Zo,Ja,Jb,Jc,J6,Jd,Je,J7,J8,Jf,Jg,Jh,Ji,Jj,Jk,J9,Jl,Jm,wr,Jn,JA,JB,Jo,Jp,Jq,Jr,Js,Jt,Ju,Jv,Jw,Jx,Jy,Jz,J0,J1,J2,J3,J4,J5,reduceCtorEq,JC,JD,JE,JF,JG,JH,JI,JJ]) | ((with_reducible (first | apply Ok.br | apply Ok.gd | apply Ok.ld)) <;> (intro g; (try simp only [ZGS] at g); try (exfalso; omega)))))
    exact hq.out
end Go.Ev
