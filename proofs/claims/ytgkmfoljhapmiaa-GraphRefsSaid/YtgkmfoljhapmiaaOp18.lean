/-
Two operations of a region whose order is open: either order leads to one state.
-/
import Derived.Test.YtgkmfoljhapmiaaOp17
import Derived.OrdersIn
set_option linter.unusedSimpArgs false
set_option linter.unusedVariables false
namespace Go.Ev

/-- What an operation's value rests on and whom it touches: its operands alone; a load; a variable made in the frame's slot; a call; anything else. -/
inductive Cls where
  | N | L | S (k : Nat) | C | H
  deriving DecidableEq

def quiet (T : TypeId → TI) : Op → Bool
  | .move _ | .assign _ | .pick .. | .build .. | .nilCheck _ | .binOp .. | .unOp .. | .makeFunc .. | .slice .. | .fieldAddr .. | .field .. | .indexAddr .. | .index .. | .extract .. => true
  | .convert src dst _ => match (T src).desc, (T dst).desc with | .int _, .int _ => true | .str, .str => true | _, _ => false
  | .call c => match c.callee with
    | .builtin .max => true
    | .builtin .min => true
    | .builtin .len => match c.argTypes.toList with
      | [t] => match (T t).desc with | .slice _ => true | .str => true | _ => false
      | _ => false
    | _ => false
  | _ => false

def cls (X : Env) (f : FuncId) (o : Oper) : Cls :=
  match o.op with
  | .load .. => .L
  | .convert src dst a => match (X.ty src).desc, (X.ty dst).desc with | .slice _, .str => .L | _, _ => cond (quiet X.ty (.convert src dst a)) .N .H
  | .call c => match c.callee with | .value _ => .C | _ => cond (quiet X.ty o.op) .N .H
  | .alloc _ | .box .. | .buildSlice .. => match o.dst.bind (X.slot f) with | some k => .S k | none => .H
  | op => cond (quiet X.ty op) .N .H

theorem opd_setT {e : List TV} {d : Option Tmp} {v : TV} {x : Operand} (h : ∀ t, d = some t → x ≠ .tmp t) : opd (setT e d v) x = opd e x := by
  cases d with
  | none => rfl
  | some t =>
    cases x with
    | tmp u0 =>
      have hne : t ≠ u0 := fun e => h t rfl (by rw [e])
      simp only [opd, setT, getT, List.getD_eq_getElem?_getD, List.getElem?_set_ne hne]
    | _ => rfl

theorem getT_setT {e : List TV} {d : Option Tmp} {v : TV} {u0 : Nat} (h : ∀ t, d = some t → t ≠ u0) : getT (setT e d v) u0 = getT e u0 := by
  cases d with
  | none => rfl
  | some t => simp only [setT, getT, List.getD_eq_getElem?_getD, List.getElem?_set_ne (h t rfl)]

theorem setT_comm {e : List TV} {d d' : Option Tmp} {v u0 : TV} (h : ∀ t, d = some t → d' ≠ some t) : setT (setT e d v) d' u0 = setT (setT e d' u0) d v := by
  cases d with
  | none => rfl
  | some t =>
    cases d' with
    | none => rfl
    | some t' =>
      have hne : t ≠ t' := fun e => h t rfl (by rw [e])
      exact List.set_comm _ _ hne

variable {X : Env} {C : CallSem} {f : FuncId} {ops : Array Oper}

/-- Two lists of temporaries are alike in what an operation looks at. -/
def Agree (ops : Array Oper) (o : Oper) (e e' : List TV) : Prop :=
  (∀ x ∈ o.op.operands.toList, opd e' x = opd e x) ∧ wantedT ops.toList e' o.guard = wantedT ops.toList e o.guard

theorem agree_set {o : Oper} {e : List TV} {d : Option Tmp} {v : TV} (h : ∀ t, d = some t → t ∉ o.looksAt ops) : Agree ops o e (setT e d v) := by
  refine ⟨fun x hx => opd_setT fun t ht hxt => h t ht ?_, ?_⟩
  · subst hxt
    exact List.mem_append_left _ (List.mem_filterMap.2 ⟨.tmp t, hx, rfl⟩)
  · unfold wantedT
    cases hg : o.guard with
    | none => rfl
    | some jw =>
      obtain ⟨j, want⟩ := jw
      simp only
      cases hd : (ops.toList[j]?).bind (·.dst) with
      | none => rfl
      | some u0 =>
        simp only
        rw [getT_setT fun t ht htu => h t ht ?_]
        subst htu
        have hd' : (ops[j]?).bind (·.dst) = some t := by simpa using hd
        simp [Oper.looksAt, hg, hd']

theorem Agree.symm {o : Oper} {e e' : List TV} (h : Agree ops o e e') : Agree ops o e' e := ⟨fun x hx => (h.1 x hx).symm, h.2.symm⟩
theorem Agree.trans {o : Oper} {e e' e'' : List TV} (h : Agree ops o e e') (h' : Agree ops o e' e'') : Agree ops o e e'' := ⟨fun x hx => (h'.1 x hx).trans (h.1 x hx), h'.2.trans h.2⟩

theorem leadsT_e {e e' : List TV} {sl : List Nat} : ∀ {l : List Operand}, (∀ x ∈ l, opd e' x = opd e x) → leadsT e' sl l = leadsT e sl l
  | [], _ => rfl
  | x :: r, h => by
    simp only [leadsT]
    rw [h x (by simp), leadsT_e fun y hy => h y (by simp [hy])]

/-- One operation of a region. -/
def Eff (X : Env) (C : CallSem) (f : FuncId) (ops : Array Oper) (o : Oper) (sl : List Nat) (s s' : St) : Prop :=
  (wantedT ops.toList s.e o.guard = some false ∧ s' = s.put o.dst .u) ∨
  (wantedT ops.toList s.e o.guard = some true ∧ leadsT s.e sl o.op.operands.toList = true ∧ exOp X C f o s = some s')

theorem we_put (s : St) (e' : List TV) (d : Option Tmp) (v : TV) : (s.we e').put d v = s.we (setT e' d v) := rfl
theorem put_eq (s : St) (d : Option Tmp) (v : TV) : s.put d v = s.we (setT s.e d v) := rfl

/-- The temporaries, once more: an operation looks at some of them, and turns one. -/
theorem exOp_e {o : Oper} {s s' : St} (h : exOp X C f o s = some s') : ∃ (v : TV) (m : St), s' = m.put o.dst v ∧ m.e = s.e ∧
    ∀ e', (∀ x ∈ o.op.operands.toList, opd e' x = opd s.e x) → exOp X C f o (s.we e') = some ((m.we e').put o.dst v) := by
  unfold exOp at h
  split at h
  · rename_i g args ats ho
    split at h
    · rename_i fv hg
      obtain ⟨vs, hvs, h'⟩ : ∃ vs, allV (args.toList.map (opd s.e)) = some vs ∧ _ := by
        cases hv : allV (args.toList.map (opd s.e)) with
        | none => rw [hv] at h; cases h
        | some vs => rw [hv] at h; exact ⟨vs, rfl, h⟩
      obtain ⟨p, hp, h''⟩ : ∃ p, C fv vs s.h = some p ∧ _ := by
        cases hc : C fv vs s.h with
        | none => rw [show bnd (some vs) _ = bnd (C fv vs s.h) _ from rfl, hc] at h'; cases h'
        | some p => rw [show bnd (some vs) _ = bnd (C fv vs s.h) _ from rfl, hc] at h'; exact ⟨p, rfl, h'⟩
      refine ⟨.v p.1, { s with h := p.2 }, ?_, rfl, fun e' he => ?_⟩
      · injection h'' with h''; exact h''.symm
      · unfold exOp
        rw [ho]
        simp only
        have he' := he
        simp only [ho, Op.operands, Call.operands] at he'
        have hg' : opd (s.we e').e g = .v fv := by
          show opd e' g = _
          rw [he' g (by simp), hg]
        rw [hg']
        simp only
        have hm : args.toList.map (opd (s.we e').e) = args.toList.map (opd s.e) := by
          show args.toList.map (opd e') = _
          exact mapOpd_e fun x hx => he' x (by simp at hx ⊢; exact .inr hx)
        rw [hm, hvs]
        show bnd (C fv vs s.h) _ = _
        rw [hp]; rfl
    · cases h
  · rename_i hno
    cases hr : exPure X.ty (o.dst.bind (X.slot f)) o.op s with
    | none => rw [hr] at h; cases h
    | some r =>
      rw [hr] at h
      injection h with h
      refine ⟨r.1, r.2, h.symm, exPure_env hr, fun e' he => ?_⟩
      have h1 := exPure_e (sl := o.dst.bind (X.slot f)) (T := X.ty) he
      rw [hr] at h1
      unfold exOp
      split
      · rename_i g args ats ho
        exact absurd ho (hno g args ats)
      · rw [h1]; rfl

theorem eff_e {o : Oper} {sl : List Nat} {s s' : St} (h : Eff X C f ops o sl s s') : ∃ (v : TV) (m : St), s' = m.put o.dst v ∧ m.e = s.e ∧
    ∀ e', Agree ops o s.e e' → Eff X C f ops o sl (s.we e') ((m.we e').put o.dst v) := by
  rcases h with ⟨h1, rfl⟩ | ⟨h1, h2, h3⟩
  · exact ⟨.u, s, rfl, rfl, fun e' he => .inl ⟨he.2.trans h1, rfl⟩⟩
  · obtain ⟨v, m, h4, h5, h6⟩ := exOp_e h3
    exact ⟨v, m, h4, h5, fun e' he => .inr ⟨he.2.trans h1, (leadsT_e he.1).trans h2, h6 e' he.1⟩⟩

/-- A quiet operation: its operands alone. -/
theorem quiet_ok {T : TypeId → TI} {sl : Option Nat} {op : Op} {s : St} {r : TV × St} (hq : quiet T op = true) (h : exPure T sl op s = some r) :
    r.2 = s ∧ ∀ t : St, (∀ x ∈ op.operands.toList, opd t.e x = opd s.e x) → exPure T sl op t = some (r.1, t) := by
  have key : ∀ {α : Type} {x : Option α} {k : α → TV} {t : St}, (∃ y : α, x = some y ∧ r = (k y, s)) → r.2 = s ∧ (bnd x fun y => some (k y, t)) = some (r.1, t) := by
    rintro α x k t ⟨y, rfl, rfl⟩
    exact ⟨rfl, rfl⟩
  have take : ∀ {α : Type} {x : Option α} {k : α → TV}, (bnd x fun y => some (k y, s)) = some r → ∃ y : α, x = some y ∧ r = (k y, s) := by
    intro α x k h
    cases x with
    | none => cases h
    | some y => injection h with h; exact ⟨y, rfl, h.symm⟩
  -- the value is the same wherever the operands are
  have main : r.2 = s ∧ ∀ t : St, t.e = s.e → exPure T sl op t = some (r.1, t) := by
    cases op <;> simp only [quiet, Bool.false_eq_true] at hq <;> simp only [exPure] at h
    case move x => cases h; exact ⟨rfl, fun t ht => by simp only [exPure, ht]⟩
    case assign x => cases h; exact ⟨rfl, fun t ht => by simp only [exPure, ht]⟩
    case pick c a b =>
      split at h
      · rename_i b' hb; cases h; exact ⟨rfl, fun t ht => by simp only [exPure, ht, hb]⟩
      · cases h
    case build t ps => exact ⟨(key (t := s) (take h)).1, fun t ht => by simp only [exPure, ht]; exact (key (take h)).2⟩
    case nilCheck x =>
      obtain ⟨y, h1, rfl⟩ := take (k := id) h
      exact ⟨rfl, fun t ht => by simp only [exPure, ht, h1]; rfl⟩
    case binOp op t x y yt =>
      split at h
      · rename_i h1 h2
        exact ⟨(key (t := s) (take h)).1, fun t ht => by simp only [exPure, ht, h1, h2]; exact (key (take h)).2⟩
      · cases h
    case unOp op t x =>
      split at h
      · rename_i h1
        exact ⟨(key (t := s) (take h)).1, fun t ht => by simp only [exPure, ht, h1]; exact (key (take h)).2⟩
      · cases h
    case convert src dst x =>
      unfold convV at h
      split at h <;> simp_all
      · cases h; exact ⟨rfl, fun t ht => by simp only [exPure, ht, convV]; simp_all⟩
      · cases h; exact ⟨rfl, fun t ht => by simp only [exPure, ht, convV]; simp_all⟩
    case makeFunc fn first cap =>
      cases fn with
      | func f' =>
        simp only at h
        cases hf : first.isEmpty with
        | false => rw [hf] at h; cases h
        | true =>
          rw [hf] at h
          exact ⟨(key (t := s) (take h)).1, fun t ht => by simp only [exPure, ht, hf]; exact (key (take h)).2⟩
      | _ => cases h
    case slice t x lo hi mx =>
      obtain ⟨y, h1, rfl⟩ := take (k := id) h
      exact ⟨rfl, fun t ht => by simp only [exPure, ht, h1]; rfl⟩
    case fieldAddr t x f' =>
      obtain ⟨y, h1, rfl⟩ := take (k := id) h
      exact ⟨rfl, fun t ht => by simp only [exPure, ht, h1]; rfl⟩
    case field t x f' =>
      split at h
      · rename_i cs h1
        cases hf : fieldOff T t f' with
        | none => rw [hf] at h; cases h
        | some p =>
          rw [hf] at h
          exact ⟨(key (t := s) (take h)).1, fun t ht => by simp only [exPure, ht, h1, hf]; exact (key (take h)).2⟩
      · cases h
    case indexAddr t x i => exact ⟨(key (t := s) (take (k := id) h)).1, fun t ht => by simp only [exPure, ht]; exact (key (k := id) (take (k := id) h)).2⟩
    case index t x i => exact ⟨(key (t := s) (take h)).1, fun t ht => by simp only [exPure, ht]; exact (key (take h)).2⟩
    case extract x i =>
      split at h
      · rename_i h1
        exact ⟨(key (t := s) (take h)).1, fun t ht => by simp only [exPure, ht, h1]; exact (key (take h)).2⟩
      · cases h
    case call c =>
      obtain ⟨callee, args, ats⟩ := c
      cases callee with
      | builtin b =>
        simp only [builtinV] at h
        split at h
        · rename_i t0 x0 hts hxs
          simp only [hts] at hq
          have hl : ∀ t : St, lenV T t0 t x0 = lenV T t0 s x0 := by
            intro t
            unfold lenV
            split <;> first | rfl | (simp_all; done)
          exact ⟨(key (t := s) (take h)).1, fun t ht => by simp only [exPure, ht, builtinV, hts, hxs, hl]; exact (key (take h)).2⟩
        · simp at hq
        · simp at hq
        · simp at hq
        · simp at hq
        · simp at hq
        · exact ⟨(key (t := s) (take h)).1, fun t ht => by simp only [exPure, ht, builtinV]; exact (key (take h)).2⟩
        · exact ⟨(key (t := s) (take h)).1, fun t ht => by simp only [exPure, ht, builtinV]; exact (key (take h)).2⟩
        · cases h
      | _ => simp at hq
  refine ⟨main.1, fun t ht => ?_⟩
  have h1 := main.2 (t.we s.e) rfl
  have h2 := exPure_e (T := T) (sl := sl) (op := op) (s := t.we s.e) (e' := t.e) ht
  rw [h1] at h2
  exact h2

end Go.Ev
