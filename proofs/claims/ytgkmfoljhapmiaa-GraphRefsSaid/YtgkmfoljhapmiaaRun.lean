/-
Equations to run the interpreter by, on values that are not all known: what is left to do stands behind names, so that a rewriter does not go into it early.
-/
import Derived.Test.YtgkmfoljhapmiaaOp23
set_option linter.unusedSimpArgs false
set_option linter.unusedVariables false
namespace Go.Ev

theorem bnd_s {α β : Type} (a : α) (k : α → Option β) : bnd (some a) k = k a := rfl
theorem bnd_n {α β : Type} (k : α → Option β) : bnd none k = none := rfl
theorem cnd_t {α : Type} (x y : Option α) : cnd true x y = x := rfl
theorem cnd_f {α : Type} (x y : Option α) : cnd false x y = y := rfl
theorem grd_t {α : Type} {c : Prop} [Decidable c] (h : c) (x : Option α) : grd c x = x := if_pos h

theorem grd_tr {α : Type} [Decidable True] (x : Option α) : grd True x = x := if_pos trivial
theorem grd_and {α : Type} {a b : Prop} [Decidable (a ∧ b)] [Decidable a] [Decidable b] (x : Option α) : grd (a ∧ b) x = grd a (grd b x) := by
  unfold grd
  by_cases ha : a <;> by_cases hb : b <;> simp [ha, hb]

section
variable {X : Env} {C : CallSem} {L : LoopSem} {f : FuncId} {R : Type}

/-- What an operation leaves of a state. -/
def putK (o : Option Tmp) (p : TV × St) : Option St := some (p.2.put o p.1)
theorem putK_eq (o : Option Tmp) (v : TV) (s : St) : putK o (v, s) = some (s.put o v) := rfl

/-- One operation that is wanted. -/
def stepK (X : Env) (C : CallSem) (f : FuncId) (o : Oper) (s : St) : Bool → Option St
  | true => exOp X C f o s
  | false => some (s.put o.dst .u)
theorem stepK_t (o : Oper) (s : St) : stepK X C f o s true = exOp X C f o s := rfl
theorem stepK_f (o : Oper) (s : St) : stepK X C f o s false = some (s.put o.dst .u) := rfl

theorem exOps_nil (ops : List Oper) (s : St) : exOps X C f ops [] s = some s := rfl
theorem exOps_cons (ops : List Oper) (o : Oper) (r : List Oper) (s : St) :
    exOps X C f ops (o :: r) s = bnd (bnd (wantedT ops s.e o.guard) (stepK X C f o s)) (exOps X C f ops r) := by
  simp only [exOps]
  cases wantedT ops s.e o.guard with
  | none => rfl
  | some b => cases b <;> rfl

theorem exOp_pureK (dst : Option Tmp) (op : Op) (t : TypeId) (pos : String) (after : Array Edge) (g : Option (Nat × Bool)) (s : St) (h : ∀ c, op ≠ .call c) :
    exOp X C f ⟨dst, op, t, pos, after, g⟩ s = bnd (exPure X.ty (dst.bind (X.slot f)) op s) (putK dst) := by
  unfold exOp
  split
  · rename_i ho; exact absurd ho (h _)
  · rfl

theorem exOp_move {x'} (d : Option Tmp) (ty : TypeId) (pos : String) (af : Array Edge) (g : Option (Nat × Bool)) (s : St) : exOp X C f ⟨d, .move x', ty, pos, af, g⟩ s = bnd (exPure X.ty (d.bind (X.slot f)) (.move x') s) (putK d) := rfl
theorem exOp_assign {x'} (d : Option Tmp) (ty : TypeId) (pos : String) (af : Array Edge) (g : Option (Nat × Bool)) (s : St) : exOp X C f ⟨d, .assign x', ty, pos, af, g⟩ s = bnd (exPure X.ty (d.bind (X.slot f)) (.assign x') s) (putK d) := rfl
theorem exOp_pick {a' b' c'} (d : Option Tmp) (ty : TypeId) (pos : String) (af : Array Edge) (g : Option (Nat × Bool)) (s : St) : exOp X C f ⟨d, .pick a' b' c', ty, pos, af, g⟩ s = bnd (exPure X.ty (d.bind (X.slot f)) (.pick a' b' c') s) (putK d) := rfl
theorem exOp_alloc {t'} (d : Option Tmp) (ty : TypeId) (pos : String) (af : Array Edge) (g : Option (Nat × Bool)) (s : St) : exOp X C f ⟨d, .alloc t', ty, pos, af, g⟩ s = bnd (exPure X.ty (d.bind (X.slot f)) (.alloc t') s) (putK d) := rfl
theorem exOp_box {t' x'} (d : Option Tmp) (ty : TypeId) (pos : String) (af : Array Edge) (g : Option (Nat × Bool)) (s : St) : exOp X C f ⟨d, .box t' x', ty, pos, af, g⟩ s = bnd (exPure X.ty (d.bind (X.slot f)) (.box t' x') s) (putK d) := rfl
theorem exOp_build {t' ps'} (d : Option Tmp) (ty : TypeId) (pos : String) (af : Array Edge) (g : Option (Nat × Bool)) (s : St) : exOp X C f ⟨d, .build t' ps', ty, pos, af, g⟩ s = bnd (exPure X.ty (d.bind (X.slot f)) (.build t' ps') s) (putK d) := rfl
theorem exOp_buildSlice {t' n' ps'} (d : Option Tmp) (ty : TypeId) (pos : String) (af : Array Edge) (g : Option (Nat × Bool)) (s : St) : exOp X C f ⟨d, .buildSlice t' n' ps', ty, pos, af, g⟩ s = bnd (exPure X.ty (d.bind (X.slot f)) (.buildSlice t' n' ps') s) (putK d) := rfl
theorem exOp_load {t' a'} (d : Option Tmp) (ty : TypeId) (pos : String) (af : Array Edge) (g : Option (Nat × Bool)) (s : St) : exOp X C f ⟨d, .load t' a', ty, pos, af, g⟩ s = bnd (exPure X.ty (d.bind (X.slot f)) (.load t' a') s) (putK d) := rfl
theorem exOp_store {t' a' x'} (d : Option Tmp) (ty : TypeId) (pos : String) (af : Array Edge) (g : Option (Nat × Bool)) (s : St) : exOp X C f ⟨d, .store t' a' x', ty, pos, af, g⟩ s = bnd (exPure X.ty (d.bind (X.slot f)) (.store t' a' x') s) (putK d) := rfl
theorem exOp_nilCheck {x'} (d : Option Tmp) (ty : TypeId) (pos : String) (af : Array Edge) (g : Option (Nat × Bool)) (s : St) : exOp X C f ⟨d, .nilCheck x', ty, pos, af, g⟩ s = bnd (exPure X.ty (d.bind (X.slot f)) (.nilCheck x') s) (putK d) := rfl
theorem exOp_binOp {op' t' x' y' u'} (d : Option Tmp) (ty : TypeId) (pos : String) (af : Array Edge) (g : Option (Nat × Bool)) (s : St) : exOp X C f ⟨d, .binOp op' t' x' y' u', ty, pos, af, g⟩ s = bnd (exPure X.ty (d.bind (X.slot f)) (.binOp op' t' x' y' u') s) (putK d) := rfl
theorem exOp_unOp {op' t' x'} (d : Option Tmp) (ty : TypeId) (pos : String) (af : Array Edge) (g : Option (Nat × Bool)) (s : St) : exOp X C f ⟨d, .unOp op' t' x', ty, pos, af, g⟩ s = bnd (exPure X.ty (d.bind (X.slot f)) (.unOp op' t' x') s) (putK d) := rfl
theorem exOp_convert {t' u' x'} (d : Option Tmp) (ty : TypeId) (pos : String) (af : Array Edge) (g : Option (Nat × Bool)) (s : St) : exOp X C f ⟨d, .convert t' u' x', ty, pos, af, g⟩ s = bnd (exPure X.ty (d.bind (X.slot f)) (.convert t' u' x') s) (putK d) := rfl
theorem exOp_makeFunc {g' xs' ys'} (d : Option Tmp) (ty : TypeId) (pos : String) (af : Array Edge) (g : Option (Nat × Bool)) (s : St) : exOp X C f ⟨d, .makeFunc g' xs' ys', ty, pos, af, g⟩ s = bnd (exPure X.ty (d.bind (X.slot f)) (.makeFunc g' xs' ys') s) (putK d) := rfl
theorem exOp_makeSlice {t' l' c'} (d : Option Tmp) (ty : TypeId) (pos : String) (af : Array Edge) (g : Option (Nat × Bool)) (s : St) : exOp X C f ⟨d, .makeSlice t' l' c', ty, pos, af, g⟩ s = bnd (exPure X.ty (d.bind (X.slot f)) (.makeSlice t' l' c') s) (putK d) := rfl
theorem exOp_makeMap {t'} (d : Option Tmp) (ty : TypeId) (pos : String) (af : Array Edge) (g : Option (Nat × Bool)) (s : St) : exOp X C f ⟨d, .makeMap t' none, ty, pos, af, g⟩ s = bnd (exPure X.ty (d.bind (X.slot f)) (.makeMap t' none) s) (putK d) := rfl
theorem exOp_lookup {t' m' k' o'} (d : Option Tmp) (ty : TypeId) (pos : String) (af : Array Edge) (g : Option (Nat × Bool)) (s : St) : exOp X C f ⟨d, .lookup t' m' k' o', ty, pos, af, g⟩ s = bnd (exPure X.ty (d.bind (X.slot f)) (.lookup t' m' k' o') s) (putK d) := rfl
theorem exOp_mapUpdate {t' m' k' x'} (d : Option Tmp) (ty : TypeId) (pos : String) (af : Array Edge) (g : Option (Nat × Bool)) (s : St) : exOp X C f ⟨d, .mapUpdate t' m' k' x', ty, pos, af, g⟩ s = bnd (exPure X.ty (d.bind (X.slot f)) (.mapUpdate t' m' k' x') s) (putK d) := rfl
theorem exOp_insert {t' m' k' x'} (d : Option Tmp) (ty : TypeId) (pos : String) (af : Array Edge) (g : Option (Nat × Bool)) (s : St) : exOp X C f ⟨d, .insert t' m' k' x', ty, pos, af, g⟩ s = bnd (exPure X.ty (d.bind (X.slot f)) (.insert t' m' k' x') s) (putK d) := rfl
theorem exOp_mapEntry {t' m' k'} (d : Option Tmp) (ty : TypeId) (pos : String) (af : Array Edge) (g : Option (Nat × Bool)) (s : St) : exOp X C f ⟨d, .mapEntry t' m' k', ty, pos, af, g⟩ s = bnd (exPure X.ty (d.bind (X.slot f)) (.mapEntry t' m' k') s) (putK d) := rfl
theorem exOp_entryStore {t' m' k' x'} (d : Option Tmp) (ty : TypeId) (pos : String) (af : Array Edge) (g : Option (Nat × Bool)) (s : St) : exOp X C f ⟨d, .entryStore t' m' k' x', ty, pos, af, g⟩ s = bnd (exPure X.ty (d.bind (X.slot f)) (.entryStore t' m' k' x') s) (putK d) := rfl
theorem exOp_slice {t' x' l' h' m'} (d : Option Tmp) (ty : TypeId) (pos : String) (af : Array Edge) (g : Option (Nat × Bool)) (s : St) : exOp X C f ⟨d, .slice t' x' l' h' m', ty, pos, af, g⟩ s = bnd (exPure X.ty (d.bind (X.slot f)) (.slice t' x' l' h' m') s) (putK d) := rfl
theorem exOp_fieldAddr {t' x' n'} (d : Option Tmp) (ty : TypeId) (pos : String) (af : Array Edge) (g : Option (Nat × Bool)) (s : St) : exOp X C f ⟨d, .fieldAddr t' x' n', ty, pos, af, g⟩ s = bnd (exPure X.ty (d.bind (X.slot f)) (.fieldAddr t' x' n') s) (putK d) := rfl
theorem exOp_field {t' x' n'} (d : Option Tmp) (ty : TypeId) (pos : String) (af : Array Edge) (g : Option (Nat × Bool)) (s : St) : exOp X C f ⟨d, .field t' x' n', ty, pos, af, g⟩ s = bnd (exPure X.ty (d.bind (X.slot f)) (.field t' x' n') s) (putK d) := rfl
theorem exOp_indexAddr {t' x' i'} (d : Option Tmp) (ty : TypeId) (pos : String) (af : Array Edge) (g : Option (Nat × Bool)) (s : St) : exOp X C f ⟨d, .indexAddr t' x' i', ty, pos, af, g⟩ s = bnd (exPure X.ty (d.bind (X.slot f)) (.indexAddr t' x' i') s) (putK d) := rfl
theorem exOp_index {t' x' i'} (d : Option Tmp) (ty : TypeId) (pos : String) (af : Array Edge) (g : Option (Nat × Bool)) (s : St) : exOp X C f ⟨d, .index t' x' i', ty, pos, af, g⟩ s = bnd (exPure X.ty (d.bind (X.slot f)) (.index t' x' i') s) (putK d) := rfl
theorem exOp_extract {x' i'} (d : Option Tmp) (ty : TypeId) (pos : String) (af : Array Edge) (g : Option (Nat × Bool)) (s : St) : exOp X C f ⟨d, .extract x' i', ty, pos, af, g⟩ s = bnd (exPure X.ty (d.bind (X.slot f)) (.extract x' i') s) (putK d) := rfl
theorem exOp_builtin {b' as' ts'} (d : Option Tmp) (ty : TypeId) (pos : String) (af : Array Edge) (g : Option (Nat × Bool)) (s : St) : exOp X C f ⟨d, .call ⟨.builtin b', as', ts'⟩, ty, pos, af, g⟩ s = bnd (exPure X.ty (d.bind (X.slot f)) (.call ⟨.builtin b', as', ts'⟩) s) (putK d) := rfl
/-- A call. -/
def callK (d : Option Tmp) (s : St) (p : V × Heap) : Option St := some ({ s with h := p.2 }.put d (.v p.1))
theorem callK_eq (d : Option Tmp) (e : List TV) (l : Locs) (h h' : Heap) (v : V) : callK d ⟨e, l, h⟩ (v, h') = some ((⟨e, l, h'⟩ : St).put d (.v v)) := rfl
theorem exOp_call {g' as' ts'} (d : Option Tmp) (ty : TypeId) (pos : String) (af : Array Edge) (g : Option (Nat × Bool)) (s : St) :
    exOp X C f ⟨d, .call ⟨.value g', as', ts'⟩, ty, pos, af, g⟩ s = (match opd s.e g' with | .v fv => bnd (allV (as'.toList.map (opd s.e))) fun vs => bnd (C fv vs s.h) (callK d s) | _ => none) := rfl

/-- An entry of a plan. -/
def leadK (X : Env) (C : CallSem) (f : FuncId) (sl : List Nat) (o : Oper) (s : St) : Bool → Option St
  | true => cond (leadsT s.e sl o.op.operands.toList) (exOp X C f o s) none
  | false => some (s.put o.dst .u)
theorem leadK_t (sl : List Nat) (o : Oper) (s : St) : leadK X C f sl o s true = cond (leadsT s.e sl o.op.operands.toList) (exOp X C f o s) none := rfl
theorem leadK_f (sl : List Nat) (o : Oper) (s : St) : leadK X C f sl o s false = some (s.put o.dst .u) := rfl
def lookK (X : Env) (C : CallSem) (f : FuncId) (ops : List Oper) (re : List (Nat × List Nat)) (r : List PE) (s : St) : Option St := cond (re.all (again X ops s)) (exPlan X C f ops r s) none
theorem lookK_nil (ops : List Oper) (r : List PE) (s : St) : lookK X C f ops [] r s = exPlan X C f ops r s := rfl
theorem lookK_cons (ops : List Oper) (j : Nat × List Nat) (re : List (Nat × List Nat)) (r : List PE) (s : St) :
    lookK X C f ops (j :: re) r s = cond (again X ops s j) (lookK X C f ops re r s) none := by
  unfold lookK
  simp only [List.all_cons]
  cases again X ops s j <;> rfl
def entryK (X : Env) (C : CallSem) (f : FuncId) (ops : List Oper) (sl : List Nat) (re : List (Nat × List Nat)) (r : List PE) (s : St) : Option Oper → Option St
  | some o => bnd (bnd (wantedT ops s.e o.guard) (leadK X C f sl o s)) (lookK X C f ops re r)
  | none => none
theorem entryK_eq (ops : List Oper) (sl : List Nat) (re : List (Nat × List Nat)) (r : List PE) (s : St) (o : Oper) :
    entryK X C f ops sl re r s (some o) = bnd (bnd (wantedT ops s.e o.guard) (leadK X C f sl o s)) (lookK X C f ops re r) := rfl
theorem exPlan_nil (ops : List Oper) (s : St) : exPlan X C f ops [] s = some s := rfl
theorem exPlan_cons (ops : List Oper) (i : Nat) (sl : List Nat) (re : List (Nat × List Nat)) (r : List PE) (s : St) :
    exPlan X C f ops ((i, sl, re) :: r) s = entryK X C f ops sl re r s ops[i]? := by
  simp only [exPlan]
  cases ops[i]? with
  | none => rfl
  | some o =>
    simp only [entryK]
    cases wantedT ops s.e o.guard with
    | none => rfl
    | some b =>
      cases b with
      | false =>
        simp only [bnd, cnd, leadK, lookK]
        cases re.all (again X ops (s.put o.dst .u)) <;> rfl
      | true =>
        simp only [bnd, cnd, leadK]
        cases leadsT s.e sl o.op.operands.toList with
        | false => rfl
        | true =>
          simp only [cond_true]
          cases exOp X C f o s with
          | none => rfl
          | some s1 =>
            simp only [lookK]
            cases re.all (again X ops s1) <;> rfl

/-- What is done behind a piece of code. -/
def seqK (X : Env) (C : CallSem) (L : LoopSem) (f : FuncId) (b : Code) (k : Ex → St → Option R) : Ex → St → Option R
  | .normal, s => evC X C L f b s k
  | x, s => k x s
theorem seqK_n (b : Code) (k : Ex → St → Option R) (s : St) : seqK X C L f b k .normal s = evC X C L f b s k := rfl
theorem seqK_e (b : Code) (k : Ex → St → Option R) (id : Nat) (s : St) : seqK X C L f b k (.exit id) s = k (.exit id) s := rfl
theorem seqK_r (b : Code) (k : Ex → St → Option R) (s : St) : seqK X C L f b k .ret s = k .ret s := rfl

def blockK (id : Nat) (k : Ex → St → Option R) : Ex → St → Option R
  | .exit id', s => cnd (decide (id' = id)) (k .normal s) (k (.exit id') s)
  | x, s => k x s
theorem blockK_n (id : Nat) (k : Ex → St → Option R) (s : St) : blockK id k .normal s = k .normal s := rfl
theorem blockK_r (id : Nat) (k : Ex → St → Option R) (s : St) : blockK id k .ret s = k .ret s := rfl
theorem blockK_e (id id' : Nat) (k : Ex → St → Option R) (s : St) : blockK id k (.exit id') s = cnd (decide (id' = id)) (k .normal s) (k (.exit id') s) := rfl

theorem evC_skip (s : St) (k : Ex → St → Option R) : evC X C L f .skip s k = k .normal s := rfl
theorem evC_label (l : Nat) (s : St) (k : Ex → St → Option R) : evC X C L f (.label l) s k = k .normal s := rfl
theorem evC_exit (id : Nat) (s : St) (k : Ex → St → Option R) : evC X C L f (.exit id) s k = k (.exit id) s := rfl
theorem evC_ret (s : St) (k : Ex → St → Option R) : evC X C L f .ret s k = k .ret s := rfl
theorem evC_seq (a b : Code) (s : St) (k : Ex → St → Option R) : evC X C L f (.seq a b) s k = evC X C L f a s (seqK X C L f b k) := by
  simp only [evC]
  congr 1
  funext x s'
  cases x <;> rfl
theorem evC_block (id : Nat) (c : Code) (s : St) (k : Ex → St → Option R) : evC X C L f (.block id c) s k = evC X C L f c s (blockK id k) := by
  simp only [evC]
  congr 1
  funext x s'
  cases x <;> rfl
theorem evC_scope (c : Code) (s : St) (k : Ex → St → Option R) : evC X C L f (.scope c) s k = evC X C L f c s k := rfl
theorem evC_region (id : Nat) (ops : List Oper) (s : St) (k : Ex → St → Option R) : evC X C L f (.region id ⟨ops⟩ false) s k = bnd (exOps X C f ops ops s) (k .normal) := rfl
theorem evC_plan (id : Nat) (ops : List Oper) (s : St) (k : Ex → St → Option R) : evC X C L f (.region id ⟨ops⟩ true) s k = bnd (exPlan X C f ops (X.plan f id) s) (k .normal) := rfl

/-- A branch. -/
def brK (X : Env) (C : CallSem) (L : LoopSem) (f : FuncId) (t e : Code) (s : St) (k : Ex → St → Option R) : TV → Option R
  | .v (.bool b) => cnd b (evC X C L f t s k) (evC X C L f e s k)
  | _ => none
theorem evC_cond (c : Operand) (t e : Code) (s : St) (k : Ex → St → Option R) : evC X C L f (.cond c t e) s k = brK X C L f t e s k (opd s.e c) := rfl
theorem brK_b (t e : Code) (s : St) (k : Ex → St → Option R) (b : Bool) : brK X C L f t e s k (.v (.bool b)) = cond b (evC X C L f t s k) (evC X C L f e s k) := by cases b <;> rfl

/-- A loop's end. -/
def loopK (k : Ex → St → Option R) (p : Ex × St) : Option R := k p.1 p.2
theorem evC_loop (c : Code) (s : St) (k : Ex → St → Option R) : evC X C L f (.loop c) s k = bnd (L c s) (loopK k) := rfl
theorem loopK_eq (k : Ex → St → Option R) (x : Ex) (s : St) : loopK k (x, s) = k x s := rfl

/-- A body's end. -/
def resK (X : Env) (rs : List ResultVar) : Ex → St → Option (V × Heap)
  | .exit _, _ => none
  | _, s => bnd (results X s rs) fun vs => some (resV vs, s.h)
theorem resK_n (rs : List ResultVar) (s : St) : resK X rs .normal s = bnd (results X s rs) fun vs => some (resV vs, s.h) := rfl
theorem resK_r (rs : List ResultVar) (s : St) : resK X rs .ret s = bnd (results X s rs) fun vs => some (resV vs, s.h) := rfl

theorem evBody_eq {Lf : FuncId → LoopSem} {c : Code} {n : Nat} {rs : List ResultVar} (hb : X.body f = some (c, n, rs)) (args : List V) (h : Heap) :
    evBody X C Lf f args h = evC X C (Lf f) f c ⟨args.map .v ++ List.replicate (n - args.length) .u, List.replicate (X.nslots f) (0, []), h⟩ (resK X rs) := by
  unfold evBody
  rw [hb]
  dsimp only
  congr 1
  funext x s
  cases x <;> rfl

/-- One round of a loop. -/
def loopE (again : LoopSem) (c : Code) : Ex → St → Option (Ex × St)
  | .normal, s => again c s
  | x, s => some (x, s)
theorem loopBody_eq (again : LoopSem) (c : Code) (s : St) : loopBody X C L again f c s = evC X C L f c s (loopE again c) := by
  unfold loopBody
  congr 1
  funext x s'
  cases x <;> rfl
theorem loopE_n (again : LoopSem) (c : Code) (s : St) : loopE again c .normal s = again c s := rfl
theorem loopE_e (again : LoopSem) (c : Code) (id : Nat) (s : St) : loopE again c (.exit id) s = some (.exit id, s) := rfl
theorem loopE_r (again : LoopSem) (c : Code) (s : St) : loopE again c .ret s = some (.ret, s) := rfl
end

/-- The bodies of a code's loops. -/
def loopsOf : Code → List Code
  | .loop c => c :: loopsOf c
  | .seq a b => loopsOf a ++ loopsOf b
  | .cond _ a b => loopsOf a ++ loopsOf b
  | .block _ c => loopsOf c
  | .scope c => loopsOf c
  | .rangeFunc _ _ a b => loopsOf a ++ loopsOf b
  | _ => []

end Go.Ev
