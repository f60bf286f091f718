/-
The interpreter without fuel: what it gives with enough of it.
-/
import Derived.Test.YtgkmfoljhapmiaaMach
set_option linter.unusedSimpArgs false
set_option linter.unusedVariables false
namespace Go.Ev

/-- With enough fuel. -/
def Even {α : Type} (x : Nat → Option α) (r : α) : Prop := ∃ n, ∀ m, n ≤ m → x m = some r

theorem Even.const {α : Type} {x : Option α} {r : α} (h : x = some r) : Even (fun _ => x) r := ⟨0, fun _ _ => h⟩

theorem Even.bnd {α β : Type} {x : Nat → Option α} {a : α} {k : Nat → α → Option β} {r : β} (h : Even x a) (hk : Even (fun m => k m a) r) : Even (fun m => Ev.bnd (x m) (k m)) r := by
  obtain ⟨n1, h1⟩ := h
  obtain ⟨n2, h2⟩ := hk
  refine ⟨max n1 n2, fun m hm => ?_⟩
  show Ev.bnd (x m) (k m) = some r
  rw [h1 m (by omega)]
  exact h2 m (by omega)

theorem Even.unique {α : Type} {x : Nat → Option α} {r r' : α} (h : Even x r) (h' : Even x r') : r = r' := by
  obtain ⟨n1, h1⟩ := h
  obtain ⟨n2, h2⟩ := h'
  have e1 := h1 (max n1 n2) (by omega)
  have e2 := h2 (max n1 n2) (by omega)
  rw [e1] at e2; injection e2

theorem Even.of_eq {α : Type} {x y : Nat → Option α} {r : α} (h : Even x r) (e : ∀ m, y m = x m) : Even y r := by
  obtain ⟨n, hn⟩ := h
  exact ⟨n, fun m hm => (e m).trans (hn m hm)⟩

theorem bnd_get {α β : Type} {x : Option α} {k : α → Option β} {r : β} (h : bnd x k = some r) : ∃ a, x = some a ∧ k a = some r := by
  cases x with
  | none => cases h
  | some a => exact ⟨a, rfl, h⟩

def LimC (Cm : Nat → CallSem) (C : CallSem) : Prop := ∀ fv a h r, C fv a h = some r → Even (fun m => Cm m fv a h) r
def LimL (Lm : Nat → LoopSem) (L : LoopSem) : Prop := ∀ c s r, L c s = some r → Even (fun m => Lm m c s) r

section
variable {X : Env} {Cm : Nat → CallSem} {C : CallSem} {Lm : Nat → LoopSem} {L : LoopSem} {f : FuncId}

theorem exOp_lim (hC : LimC Cm C) {o : Oper} {s s' : St} (h : exOp X C f o s = some s') : Even (fun m => exOp X (Cm m) f o s) s' := by
  unfold exOp at h ⊢
  split at h
  · rename_i g args ats ho
    split at h
    · rename_i fv hg
      obtain ⟨vs, hvs, h1⟩ := bnd_get h
      obtain ⟨p, hp, h2⟩ := bnd_get h1
      exact Even.bnd (.const hvs) (Even.bnd (hC _ _ _ _ hp) (.const h2))
    · cases h
  · rename_i hno
    exact .const h

theorem step_lim (hC : LimC Cm C) {o : Oper} {s s' : St} {b : Bool} {ls : Bool → Bool} {y : Option St} (h : cnd b (cnd (ls b) (exOp X C f o s) none) y = some s') :
    Even (fun m => cnd b (cnd (ls b) (exOp X (Cm m) f o s) none) y) s' := by
  cases b with
  | false => exact .const h
  | true =>
    revert h
    cases ls true with
    | false => exact fun h => .const h
    | true => exact fun h => exOp_lim hC h

theorem exOps_lim (hC : LimC Cm C) {ops : List Oper} : ∀ {l : List Oper} {s s' : St}, exOps X C f ops l s = some s' → Even (fun m => exOps X (Cm m) f ops l s) s'
  | [], s, s', h => .const h
  | o :: r, s, s', h => by
    simp only [exOps] at h ⊢
    obtain ⟨b, hb, h1⟩ := bnd_get h
    obtain ⟨s1, hs1, h2⟩ := bnd_get h1
    refine Even.bnd (.const hb) (Even.bnd ?_ (exOps_lim hC h2))
    cases b with
    | false => exact .const hs1
    | true => exact exOp_lim hC hs1

theorem exPlan_lim (hC : LimC Cm C) {ops : List Oper} : ∀ {l : List PE} {s s' : St}, exPlan X C f ops l s = some s' → Even (fun m => exPlan X (Cm m) f ops l s) s'
  | [], s, s', h => .const h
  | p :: r, s, s', h => by
    simp only [exPlan] at h ⊢
    split at h
    · rename_i o ho
      obtain ⟨b, hb, h1⟩ := bnd_get h
      obtain ⟨s1, hs1, h2⟩ := bnd_get h1
      refine Even.bnd (.const hb) (Even.bnd (a := s1) ?_ ?_)
      · exact step_lim (ls := fun _ => leadsT s.e p.2.1 o.op.operands.toList) hC hs1
      · revert h2
        cases p.2.2.all (again X ops s1) with
        | false => intro h2; cases h2
        | true => exact fun h2 => exPlan_lim hC h2
    · cases h

theorem evC_lim (hC : LimC Cm C) (hL : LimL Lm L) : ∀ (c : Code) {R : Type} (s : St) (k : Ex → St → Option R) (km : Nat → Ex → St → Option R) (r : R), evC X C L f c s k = some r →
    (∀ x s', k x s' = some r → Even (fun m => km m x s') r) → Even (fun m => evC X (Cm m) (Lm m) f c s (km m)) r := by
  intro c
  induction c with
  | skip => intro R s k km r h hk; exact hk _ _ h
  | label l => intro R s k km r h hk; exact hk _ _ h
  | exit id => intro R s k km r h hk; exact hk _ _ h
  | ret => intro R s k km r h hk; exact hk _ _ h
  | goto l => intro R s k km r h hk; cases h
  | refuse w => intro R s k km r h hk; cases h
  | scope c ih =>
    intro R s k km r h hk
    simp only [evC] at h ⊢
    exact ih s k km r h hk
  | region id ops draw =>
    intro R s k km r h hk
    simp only [evC] at h ⊢
    cases draw with
    | true =>
      obtain ⟨s1, h1, h2⟩ := bnd_get (x := exPlan X C f ops.toList (X.plan f id) s) h
      exact Even.bnd (exPlan_lim hC h1) (hk _ _ h2)
    | false =>
      obtain ⟨s1, h1, h2⟩ := bnd_get (x := exOps X C f ops.toList ops.toList s) h
      exact Even.bnd (exOps_lim hC h1) (hk _ _ h2)
  | seq a b iha ihb =>
    intro R s k km r h hk
    simp only [evC] at h ⊢
    refine iha s _ _ r h fun x s' hx => ?_
    cases x with
    | normal => exact ihb s' k km r hx hk
    | exit id => exact hk _ _ hx
    | ret => exact hk _ _ hx
  | cond o a b iha ihb =>
    intro R s k km r h hk
    simp only [evC] at h ⊢
    split at h
    · rename_i t ho
      cases t with
      | true => exact iha s k km r h hk
      | false => exact ihb s k km r h hk
    · cases h
  | block id c ih =>
    intro R s k km r h hk
    simp only [evC] at h ⊢
    refine ih s _ _ r h fun x s' hx => ?_
    cases x with
    | normal => exact hk _ _ hx
    | exit id' =>
      have hx' : cnd (decide (id' = id)) (k .normal s') (k (.exit id') s') = some r := hx
      show Even (fun m => cnd (decide (id' = id)) (km m .normal s') (km m (.exit id') s')) r
      revert hx'
      cases decide (id' = id) with
      | true => exact fun hx => hk _ _ hx
      | false => exact fun hx => hk _ _ hx
    | ret => exact hk _ _ hx
  | loop c _ =>
    intro R s k km r h hk
    simp only [evC] at h ⊢
    obtain ⟨p, hp, h2⟩ := bnd_get h
    exact Even.bnd (hL _ _ _ hp) (hk _ _ h2)
  | rangeFunc g ps a b _ _ =>
    intro R s k km r h hk
    simp only [evC] at h ⊢
    split at h
    · rename_i gf cap hg
      obtain ⟨p, hp, h2⟩ := bnd_get h
      refine Even.bnd (hC _ _ _ _ hp) ?_
      unfold endRF at h2 ⊢
      split at h2
      · rename_i lr hlr
        unfold grd at h2 ⊢
        split at h2
        · rename_i hg
          simp only [if_pos hg]
          split at h2
          · exact hk _ _ h2
          · exact hk _ _ h2
          · exact hk _ _ h2
          · cases h2
        · cases h2
      · cases h2
    · cases h

theorem evBody_lim {Lf : Nat → FuncId → LoopSem} {L : FuncId → LoopSem} (hC : LimC Cm C) (hL : ∀ f, LimL (fun m => Lf m f) (L f)) {args : List V} {h : Heap} {r : V × Heap}
    (hh : evBody X C L f args h = some r) : Even (fun m => evBody X (Cm m) (Lf m) f args h) r := by
  unfold evBody at hh ⊢
  split at hh
  · refine evC_lim hC (hL f) _ _ _ _ r hh fun x s' hx => ?_
    exact .const hx
  · cases hh

theorem evRound_lim {Lf : Nat → FuncId → LoopSem} {L : FuncId → LoopSem} (hC : LimC Cm C) (hL : ∀ f, LimL (fun m => Lf m f) (L f)) {l : Nat} {args : List V} {h : Heap} {r : V × Heap}
    (hh : evRound X C L l args h = some r) : Even (fun m => evRound X (Cm m) (Lf m) l args h) r := by
  unfold evRound at hh ⊢
  split at hh
  · rename_i lr hlr
    unfold grd at hh ⊢
    split at hh
    · rename_i hg
      simp only [if_pos hg]
      refine evC_lim hC (hL lr.fn) _ _ _ _ r hh fun x s' hx => ?_
      cases x with
      | normal =>
        obtain ⟨s2, h2, h3⟩ := bnd_get hx
        refine Even.bnd (.const h2) ?_
        exact evC_lim hC (hL lr.fn) _ _ _ _ r h3 fun x s' hx => .const hx
      | exit id => cases hx
      | ret => cases hx
    · cases hh
  · cases hh

theorem loopBody_lim {Am : Nat → LoopSem} {A : LoopSem} (hC : LimC Cm C) (hL : LimL Lm L) (hA : LimL Am A) {c : Code} {s : St} {r : Ex × St} (hh : loopBody X C L A f c s = some r) :
    Even (fun m => loopBody X (Cm m) (Lm m) (Am m) f c s) r := by
  unfold loopBody at hh ⊢
  refine evC_lim hC hL c s _ _ r hh fun x s' hx => ?_
  cases x with
  | normal => exact hA _ _ _ hx
  | exit id => exact .const hx
  | ret => exact .const hx
end

open Classical in
/-- A sequence's last word. -/
noncomputable def last {α : Type} (x : Nat → Option α) : Option α := if h : ∃ r, Even x r then some h.choose else none

theorem last_some {α : Type} {x : Nat → Option α} {r : α} : last x = some r ↔ Even x r := by
  unfold last
  split
  · rename_i h
    constructor
    · intro e; injection e with e; exact e ▸ h.choose_spec
    · intro e; rw [h.choose_spec.unique e]
  · rename_i h
    constructor
    · intro e; cases e
    · intro e; exact absurd ⟨r, e⟩ h

/-- Calls, with enough fuel. -/
noncomputable def D (X : Env) : CallSem := fun fv a h => last fun m => callN X m fv a h
/-- Loops. -/
noncomputable def Lo (X : Env) (f : FuncId) : LoopSem := fun c s => last fun m => loopN X (D X) f m c s

theorem limD (X : Env) : LimC (callN X) (D X) := fun _ _ _ _ h => last_some.1 h
theorem loopN_lim {X : Env} {f : FuncId} : ∀ (n : Nat) (c : Code) (s : St) (r : Ex × St), loopN X (D X) f n c s = some r → ∀ g : Nat → Nat, (∀ b, ∃ N, ∀ m, N ≤ m → b ≤ g m) →
    Even (fun m => loopN X (callN X m) f (g m) c s) r
  | 0, c, s, r, h, g, hg => by cases h
  | n + 1, c, s, r, h, g, hg => by
    have hg' : ∀ b, ∃ N, ∀ m, N ≤ m → b ≤ g m - 1 := fun b => let ⟨N, hN⟩ := hg (b + 1); ⟨N, fun m hm => by have := hN m hm; omega⟩
    have ih : LimL (fun m => loopN X (callN X m) f (g m - 1)) (loopN X (D X) f n) := fun c s r h => loopN_lim n c s r h (fun m => g m - 1) hg'
    obtain ⟨N, hN⟩ := loopBody_lim (limD X) ih ih h
    obtain ⟨N', hN'⟩ := hg 1
    refine ⟨max N N', fun m hm => ?_⟩
    have h1 := hN m (by omega)
    have h2 := hN' m (by omega)
    obtain ⟨q, hq⟩ : ∃ q, g m = q + 1 := ⟨g m - 1, by omega⟩
    simp only [hq, Nat.add_sub_cancel] at h1 ⊢
    exact h1

theorem limL (X : Env) (f : FuncId) : LimL (fun m => loopN X (callN X m) f m) (Lo X f) := fun c s r h => by
  obtain ⟨n, hn⟩ := last_some.1 h
  exact loopN_lim n c s r (hn n (Nat.le_refl n)) (fun m => m) fun b => ⟨b, fun m hm => hm⟩

theorem Even.succ {α : Type} {x : Nat → Option α} {r : α} (h : Even (fun m => x (m + 1)) r) : Even x r := by
  obtain ⟨n, hn⟩ := h
  refine ⟨n + 1, fun m hm => ?_⟩
  obtain ⟨k, rfl⟩ : ∃ k, m = k + 1 := ⟨m - 1, by omega⟩
  exact hn k (by omega)

theorem D_fn {X : Env} {f : FuncId} (hp : X.pin f = none) {cap args : List V} {h : Heap} {r : V × Heap} (hh : evBody X (D X) (Lo X) f (args ++ cap) h = some r) : D X (.fn f cap) args h = some r := by
  refine last_some.2 (Even.succ (Even.of_eq (evBody_lim (Lf := fun m f => loopN X (callN X m) f m) (limD X) (limL X) hh) fun m => ?_))
  simp only [callN, callBody, hp]

theorem D_pin {X : Env} {f : FuncId} {b : Bool} (hp : X.pin f = some b) (h : Heap) : D X (.fn f []) [] h = some (.bool b, h) := by
  refine last_some.2 (Even.succ (Even.of_eq (.const rfl) fun m => ?_))
  simp only [callN, callBody, hp]

theorem D_yld {X : Env} {l : Nat} {args : List V} {h : Heap} {r : V × Heap} (hh : evRound X (D X) (Lo X) l args h = some r) : D X (.yld l) args h = some r :=
  last_some.2 (Even.succ (evRound_lim (Lf := fun m f => loopN X (callN X m) f m) (limD X) (limL X) hh))

theorem Lo_of {X : Env} {f : FuncId} {c : Code} {s : St} {r : Ex × St} (hh : loopBody X (D X) (Lo X f) (Lo X f) f c s = some r) : Lo X f c s = some r :=
  last_some.2 (Even.succ (loopBody_lim (Cm := fun _ => D X) (Lm := fun m => loopN X (D X) f m) (Am := fun m => loopN X (D X) f m) (fun _ _ _ _ h => .const h) (fun _ _ _ h => last_some.1 h) (fun _ _ _ h => last_some.1 h) hh))

end Go.Ev
