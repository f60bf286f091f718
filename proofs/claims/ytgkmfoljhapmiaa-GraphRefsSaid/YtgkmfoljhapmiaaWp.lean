/-
Runs that are parted by themselves: 'Ok x Q': x gives something, of which Q holds. What is left to do stands behind one name ('bnd x K'), so that a run stops with 'Ok (bnd (..) K) Q' at a call, a loop, a test.
-/
import Derived.Test.YtgkmfoljhapmiaaRun
set_option linter.unusedSimpArgs false
set_option linter.unusedVariables false
namespace Go.Ev

theorem itT {α : Type} {a b : α} [Decidable True] : (if True then a else b) = a := if_pos trivial
theorem itF {α : Type} {a b : α} [Decidable False] : (if False then a else b) = b := if_neg id
theorem beq_f (b : Bool) : (b == false) = !b := by cases b <;> rfl
theorem beq_t (b : Bool) : (b == true) = b := by cases b <;> rfl
theorem wrap_i64 {e : Int} (h : -9223372036854775808 ≤ e ∧ e < 9223372036854775808) : IntKind.i64.wrap e = e := by
  simp only [IntKind.wrap, IntKind.signed, IntKind.bits]
  simp
  omega

def Ok {α : Type} (x : Option α) (Q : α → Prop) : Prop := ∃ r, x = some r ∧ Q r

theorem ok_some {α : Type} (r : α) (Q : α → Prop) : Ok (some r) Q = Q r := by
  simp [Ok]
theorem Ok.ret {α : Type} {r : α} {Q : α → Prop} (h : Q r) : Ok (some r) Q := ⟨r, rfl, h⟩
theorem Ok.mono {α : Type} {x : Option α} {P Q : α → Prop} (h : Ok x P) (k : ∀ r, P r → Q r) : Ok x Q := let ⟨r, e, p⟩ := h; ⟨r, e, k r p⟩
theorem Ok.eq {α : Type} {x : Option α} {r : α} (h : Ok x (fun y => y = r)) : x = some r := by obtain ⟨y, e, rfl⟩ := h; exact e
theorem Ok.of {α : Type} {x : Option α} {r : α} {Q : α → Prop} (h : x = some r) (k : Q r) : Ok x Q := ⟨r, h, k⟩
theorem Ok.bnd {α β : Type} {x : Option α} {P : α → Prop} {k : α → Option β} {Q : β → Prop} (h : Ok x P) (hk : ∀ a, P a → Ok (k a) Q) : Ok (Ev.bnd x k) Q := by
  obtain ⟨a, rfl, pa⟩ := h
  exact hk a pa
theorem Ok.bnd2 {α β γ : Type} {x : Option (α × γ)} {P : α × γ → Prop} {k : α × γ → Option β} {Q : β → Prop} (h : Ok x P) (hk : ∀ a c, P (a, c) → Ok (k (a, c)) Q) : Ok (Ev.bnd x k) Q :=
  Ok.bnd h fun a pa => hk a.1 a.2 pa
/-- The run, with its aim behind a name. -/
theorem Ok.aim {α : Type} {x : Option α} {P : α → Prop} (h : ∀ Q : α → Prop, (∀ r, P r → Q r) → Ok x Q) : Ok x P := h P fun _ p => p

def thenK {α β γ : Type} (k1 : α → Option β) (k2 : β → Option γ) (a : α) : Option γ := bnd (k1 a) k2
theorem thenK_eq {α β γ : Type} (k1 : α → Option β) (k2 : β → Option γ) (a : α) : thenK k1 k2 a = bnd (k1 a) k2 := rfl
theorem bnd_bnd {α β γ : Type} (x : Option α) (k1 : α → Option β) (k2 : β → Option γ) : bnd (bnd x k1) k2 = bnd x (thenK k1 k2) := by
  cases x <;> rfl

section
variable {X : Env} {C : CallSem} {L : LoopSem} {f : FuncId} {R : Type}
theorem brK_t (t e : Code) (s : St) (k : Ex → St → Option R) : brK X C L f t e s k (.v (.bool true)) = evC X C L f t s k := rfl
theorem brK_f (t e : Code) (s : St) (k : Ex → St → Option R) : brK X C L f t e s k (.v (.bool false)) = evC X C L f e s k := rfl
theorem Ok.br {t e : Code} {s : St} {k : Ex → St → Option R} {b : Bool} {Q : R → Prop} (ht : b = true → Ok (evC X C L f t s k) Q) (hf : b = false → Ok (evC X C L f e s k) Q) : Ok (brK X C L f t e s k (.v (.bool b))) Q := by
  cases b
  · exact hf rfl
  · exact ht rfl
theorem Ok.gd {o : Oper} {s : St} {k : St → Option R} {b : Bool} {Q : R → Prop} (ht : b = true → Ok (Ev.bnd (exOp X C f o s) k) Q) (hf : b = false → Ok (Ev.bnd (some (s.put o.dst .u)) k) Q) : Ok (Ev.bnd (stepK X C f o s b) k) Q := by
  cases b
  · exact hf rfl
  · exact ht rfl
theorem Ok.ld {sl : List Nat} {o : Oper} {s : St} {k : St → Option R} {b : Bool} {Q : R → Prop} (ht : b = true → Ok (Ev.bnd (_root_.cond (leadsT s.e sl o.op.operands.toList) (exOp X C f o s) none) k) Q) (hf : b = false → Ok (Ev.bnd (some (s.put o.dst .u)) k) Q) : Ok (Ev.bnd (leadK X C f sl o s b) k) Q := by
  cases b
  · exact hf rfl
  · exact ht rfl
theorem Ok.cnd {α : Type} {b : Bool} {x y : Option α} {Q : α → Prop} (ht : b = true → Ok x Q) (hf : b = false → Ok y Q) : Ok (Ev.cnd b x y) Q := by
  cases b
  · exact hf rfl
  · exact ht rfl
theorem Ok.cnd2 {α β : Type} {b : Bool} {x y : Option α} {k : α → Option β} {Q : β → Prop} (ht : b = true → Ok (Ev.bnd x k) Q) (hf : b = false → Ok (Ev.bnd y k) Q) : Ok (Ev.bnd (Ev.cnd b x y) k) Q := by
  cases b
  · exact hf rfl
  · exact ht rfl
theorem Ok.grd {α : Type} {c : Prop} [Decidable c] {x : Option α} {Q : α → Prop} (hc : c) (h : Ok x Q) : Ok (Ev.grd c x) Q := by
  rw [grd_t hc]; exact h
theorem Ok.grd2 {α β : Type} {c : Prop} [Decidable c] {x : Option α} {k : α → Option β} {Q : β → Prop} (hc : c) (h : Ok (Ev.bnd x k) Q) : Ok (Ev.bnd (Ev.grd c x) k) Q := by
  rw [grd_t hc]; exact h
end

/-- A function's run. -/
theorem Ok.body {X : Env} {f : FuncId} {c : Code} {n : Nat} {rs : List ResultVar} (hb : X.body f = some (c, n, rs)) (hp : X.pin f = none) {cap args : List V} {h : Heap} {Q : V × Heap → Prop}
    (hh : Ok (evC X (D X) (Lo X f) f c ⟨(args ++ cap).map .v ++ List.replicate (n - (args ++ cap).length) .u, List.replicate (X.nslots f) (0, []), h⟩ (resK X rs)) Q) : Ok (D X (.fn f cap) args h) Q := by
  obtain ⟨r, e, q⟩ := hh
  exact ⟨r, D_fn hp (by rw [evBody_eq hb]; exact e), q⟩

theorem callops_v (g : Operand) (as : Array Operand) (ts : Array TypeId) : (Call.mk (.value g) as ts).operands.toList = g :: as.toList := by simp [Call.operands]
theorem callops_b (b : Builtin) (as : Array Operand) (ts : Array TypeId) : (Call.mk (.builtin b) as ts).operands.toList = as.toList := by simp [Call.operands]

/-! Equality, one type at a time. -/
def veqM (T : TypeId → TI) (d : Nat) (ti : TI) (x y : V) : Option Bool :=
  match ti.desc, x, y with
  | .int _, .int k a, .int k' b => grd (k = k') (some (decide (a = b)))
  | .str, .str a, .str b => some (strEq a b)
  | .bool, .bool a, .bool b => some (a == b)
  | .ptr _, .nilp, .nilp => some true
  | .ptr _, .nilp, .ptr _ _ _ => some false
  | .ptr _, .ptr _ _ _, .nilp => some false
  | .slice _, .sl .nil _ _ _, .sl .nil _ _ _ => some true
  | .slice _, .sl .nil _ _ _, .sl (.at _ _ _) _ _ _ => some false
  | .slice _, .sl .nil _ _ _, .sl .any _ _ _ => some false
  | .slice _, .sl (.at _ _ _) _ _ _, .sl .nil _ _ _ => some false
  | .slice _, .sl .any _ _ _, .sl .nil _ _ _ => some false
  | .map _ _, .nilm, .nilm => some true
  | .map _ _, .nilm, .map _ => some false
  | .map _ _, .map _, .nilm => some false
  | .func, .nilFn, .nilFn => some true
  | .func, .nilFn, .fn _ _ => some false
  | .func, .fn _ _, .nilFn => some false
  | .struct fs, .agg xs, .agg ys => cnd ti.eqok (fs.foldr (fun p acc => bnd (rd xs p.1 (T p.2)) fun a => bnd (rd ys p.1 (T p.2)) fun b => bnd (veq T d p.2 a b) fun r => cnd r acc (some false)) (some true)) none
  | .arr n e, .agg xs, .agg ys => cnd ti.eqok ((List.range n).foldr (fun i acc => bnd (rd xs (i * (T e).size) (T e)) fun a => bnd (rd ys (i * (T e).size) (T e)) fun b => bnd (veq T d e a b) fun r => cnd r acc (some false)) (some true)) none
  | _, _, _ => none
section
variable (T : TypeId → TI) (d : Nat)
theorem veq_eq (t : TypeId) (x y : V) : veq T (d + 1) t x y = veqM T d (T t) x y := by unfold veq veqM; rfl
def veqF (xs ys : List V) (fs : List (Nat × TypeId)) : Option Bool := fs.foldr (fun p acc => bnd (rd xs p.1 (T p.2)) fun a => bnd (rd ys p.1 (T p.2)) fun b => bnd (veq T d p.2 a b) fun r => cnd r acc (some false)) (some true)
def veqA (e : TypeId) (xs ys : List V) (l : List Nat) : Option Bool := l.foldr (fun i acc => bnd (rd xs (i * (T e).size) (T e)) fun a => bnd (rd ys (i * (T e).size) (T e)) fun b => bnd (veq T d e a b) fun r => cnd r acc (some false)) (some true)
/-- One part of two values, compared. -/
def partK (t : TypeId) (acc : Option Bool) : Option V → Option V → Option Bool
  | some a, some b => bnd (veq T d t a b) fun r => cnd r acc (some false)
  | _, _ => none
theorem partK_eq (t : TypeId) (acc : Option Bool) (a b : V) : partK T d t acc (some a) (some b) = bnd (veq T d t a b) fun r => cnd r acc (some false) := rfl
theorem veqF_nil (xs ys : List V) : veqF T d xs ys [] = some true := rfl
theorem veqF_cons (xs ys : List V) (o : Nat) (t : TypeId) (r : List (Nat × TypeId)) : veqF T d xs ys ((o, t) :: r) = partK T d t (veqF T d xs ys r) (rd xs o (T t)) (rd ys o (T t)) := by
  show bnd (rd xs o (T t)) (fun a => bnd (rd ys o (T t)) fun b => bnd (veq T d t a b) fun q => cnd q (veqF T d xs ys r) (some false)) = _
  cases rd xs o (T t) <;> cases rd ys o (T t) <;> rfl
theorem veqA_nil (e : TypeId) (xs ys : List V) : veqA T d e xs ys [] = some true := rfl
theorem veqA_cons (e : TypeId) (xs ys : List V) (i : Nat) (r : List Nat) : veqA T d e xs ys (i :: r) = partK T d e (veqA T d e xs ys r) (rd xs (i * (T e).size) (T e)) (rd ys (i * (T e).size) (T e)) := by
  show bnd (rd xs (i * (T e).size) (T e)) (fun a => bnd (rd ys (i * (T e).size) (T e)) fun b => bnd (veq T d e a b) fun q => cnd q (veqA T d e xs ys r) (some false)) = _
  cases rd xs (i * (T e).size) (T e) <;> cases rd ys (i * (T e).size) (T e) <;> rfl
variable (s b : Nat) (z : List V)
theorem veqM_int (k : IntKind) (q : Bool) (k1 k2 : IntKind) (m n : Int) : veqM T d ⟨.int k, s, b, z, q⟩ (.int k1 m) (.int k2 n) = grd (k1 = k2) (some (decide (m = n))) := rfl
theorem veqM_str (q : Bool) (m n : ByteArray) : veqM T d ⟨.str, s, b, z, q⟩ (.str m) (.str n) = some (strEq m n) := rfl
theorem veqM_bool (q : Bool) (m n : Bool) : veqM T d ⟨.bool, s, b, z, q⟩ (.bool m) (.bool n) = some (m == n) := rfl
theorem veqM_p1 (e : TypeId) (q : Bool) : veqM T d ⟨.ptr e, s, b, z, q⟩ .nilp .nilp = some true := rfl
theorem veqM_p2 (e : TypeId) (q : Bool) (m n o : Nat) : veqM T d ⟨.ptr e, s, b, z, q⟩ .nilp (.ptr m n o) = some false := rfl
theorem veqM_p3 (e : TypeId) (q : Bool) (m n o : Nat) : veqM T d ⟨.ptr e, s, b, z, q⟩ (.ptr m n o) .nilp = some false := rfl
theorem veqM_s1 (e : TypeId) (q : Bool) (l c y l' c' y' : Nat) : veqM T d ⟨.slice e, s, b, z, q⟩ (.sl .nil l c y) (.sl .nil l' c' y') = some true := rfl
theorem veqM_s2 (e : TypeId) (q : Bool) (m n o l c y l' c' y' : Nat) : veqM T d ⟨.slice e, s, b, z, q⟩ (.sl .nil l c y) (.sl (.at m n o) l' c' y') = some false := rfl
theorem veqM_s3 (e : TypeId) (q : Bool) (l c y l' c' y' : Nat) : veqM T d ⟨.slice e, s, b, z, q⟩ (.sl .nil l c y) (.sl .any l' c' y') = some false := rfl
theorem veqM_s4 (e : TypeId) (q : Bool) (m n o l c y l' c' y' : Nat) : veqM T d ⟨.slice e, s, b, z, q⟩ (.sl (.at m n o) l c y) (.sl .nil l' c' y') = some false := rfl
theorem veqM_s5 (e : TypeId) (q : Bool) (l c y l' c' y' : Nat) : veqM T d ⟨.slice e, s, b, z, q⟩ (.sl .any l c y) (.sl .nil l' c' y') = some false := rfl
theorem veqM_m1 (k e : TypeId) (q : Bool) : veqM T d ⟨.map k e, s, b, z, q⟩ .nilm .nilm = some true := rfl
theorem veqM_m2 (k e : TypeId) (q : Bool) (m : Nat) : veqM T d ⟨.map k e, s, b, z, q⟩ .nilm (.map m) = some false := rfl
theorem veqM_m3 (k e : TypeId) (q : Bool) (m : Nat) : veqM T d ⟨.map k e, s, b, z, q⟩ (.map m) .nilm = some false := rfl
theorem veqM_f1 (q : Bool) : veqM T d ⟨.func, s, b, z, q⟩ .nilFn .nilFn = some true := rfl
theorem veqM_f2 (q : Bool) (f : FuncId) (c : List V) : veqM T d ⟨.func, s, b, z, q⟩ .nilFn (.fn f c) = some false := rfl
theorem veqM_f3 (q : Bool) (f : FuncId) (c : List V) : veqM T d ⟨.func, s, b, z, q⟩ (.fn f c) .nilFn = some false := rfl
theorem veqM_struct (fs : List (Nat × TypeId)) (xs ys : List V) : veqM T d ⟨.struct fs, s, b, z, true⟩ (.agg xs) (.agg ys) = veqF T d xs ys fs := rfl
theorem veqM_arr (n : Nat) (e : TypeId) (xs ys : List V) : veqM T d ⟨.arr n e, s, b, z, true⟩ (.agg xs) (.agg ys) = veqA T d e xs ys (List.range n) := rfl
end
theorem cnd_and (b c : Bool) : cnd b (some c) (some false) = some (b && c) := by cases b <;> rfl

/-- A fact that a rewriter does not see. -/
structure Hid (P : Prop) : Prop where
  out : P

/-! Leaves. -/
theorem leaf_t {P : Prop} [Decidable P] {h : Heap} (p : P) : ((V.bool true, h) : V × Heap) = (V.bool (decide P), h) := by rw [decide_eq_true p]
theorem leaf_f {P : Prop} [Decidable P] {h : Heap} (p : ¬ P) : ((V.bool false, h) : V × Heap) = (V.bool (decide P), h) := by rw [decide_eq_false p]
theorem leaf_b {P : Prop} [Decidable P] {h : Heap} {b : Bool} (p : b = true ↔ P) : ((V.bool b, h) : V × Heap) = (V.bool (decide P), h) := by
  by_cases q : P
  · rw [decide_eq_true q, p.2 q]
  · rw [decide_eq_false q]; cases b
    · rfl
    · exact absurd (p.1 rfl) q

/-! Loops. -/

/-- A temporary, where a list of them is not written out. -/
def tv (e : List TV) (i : Nat) : TV := e.getD i .u

theorem tv_cons_zero (a : TV) (l : List TV) : tv (a :: l) 0 = a := rfl
theorem tv_cons_succ (a : TV) (l : List TV) (n : Nat) : tv (a :: l) (n + 1) = tv l n := rfl

/-- Two lists that differ at the places W alone. -/
def mask : List Bool → List TV → List TV
  | b :: m, v :: e => cond b .u v :: mask m e
  | [], e => e
  | _ :: _, [] => []

def OutW (W : List Bool) (e0 e : List TV) : Prop := mask W e = mask W e0

theorem OutW.refl (W : List Bool) (e : List TV) : OutW W e e := rfl

/-- A list of temporaries, written out: what is outside W stands there as it stood. -/
def spread : List Bool → List TV → List TV → Nat → List TV
  | b :: m, v :: e0, e, i => cond b (tv e i) v :: spread m e0 e (i + 1)
  | [], e0, _, _ => e0
  | _ :: _, [], _, _ => []
theorem spread_t (m : List Bool) (v : TV) (e0 e : List TV) (i : Nat) : spread (true :: m) (v :: e0) e i = tv e i :: spread m e0 e (i + 1) := rfl
theorem spread_f (m : List Bool) (v : TV) (e0 e : List TV) (i : Nat) : spread (false :: m) (v :: e0) e i = v :: spread m e0 e (i + 1) := rfl
theorem spread_n (e0 e : List TV) (i : Nat) : spread [] e0 e i = e0 := rfl

theorem spread_of : ∀ (W : List Bool) (e0 e pre : List TV), mask W e = mask W e0 → e = spread W e0 (pre ++ e) pre.length
  | [], e0, e, pre, h => by simpa [mask, spread] using h
  | b :: m, [], [], pre, h => rfl
  | b :: m, [], v :: e, pre, h => by simp [mask] at h
  | b :: m, v :: e0, [], pre, h => by simp [mask] at h
  | b :: m, v0 :: e0, v :: e, pre, h => by
    simp only [mask, List.cons.injEq] at h
    have ih := spread_of m e0 e (pre ++ [v]) h.2
    simp only [List.append_assoc, List.cons_append, List.nil_append, List.length_append, List.length_cons, List.length_nil] at ih
    simp only [spread]
    rw [Nat.zero_add] at ih
    rw [← ih]
    cases b with
    | true => simp [tv]
    | false =>
      have h1 : v = v0 := h.1
      rw [h1]; rfl

theorem OutW.spread {W : List Bool} {e0 e : List TV} (h : OutW W e0 e) : e = spread W e0 e 0 := spread_of W e0 e [] h

/-- How a round of a loop ends. -/
def stopK (x : Ex) (s : St) : Option (Ex × St) := some (x, s)
theorem stopK_eq (x : Ex) (s : St) : stopK x s = some (x, s) := rfl

section
variable {X : Env} {C : CallSem} {L : LoopSem} {f : FuncId} {R : Type}

theorem bnd_congr {α β : Type} {x : Option α} {k k' : α → Option β} (h : ∀ a, k a = k' a) : bnd x k = bnd x k' := by
  cases x
  · rfl
  · exact h _
theorem bnd_assoc {α β γ : Type} (x : Option α) (k1 : α → Option β) (k2 : β → Option γ) : bnd (bnd x k1) k2 = bnd x fun a => bnd (k1 a) k2 := by
  cases x <;> rfl
theorem cnd_bnd {α β : Type} (b : Bool) (x y : Option α) (k : α → Option β) : bnd (cnd b x y) k = cnd b (bnd x k) (bnd y k) := by cases b <;> rfl
theorem grd_bnd {α β : Type} (c : Prop) [Decidable c] (x : Option α) (k : α → Option β) : bnd (grd c x) k = grd c (bnd x k) := by unfold grd; split <;> rfl

theorem endRF_stop (k : Ex → St → Option R) (e : List TV) (l : Nat) (h : Heap) : endRF k e l h = bnd (endRF stopK e l h) fun p => k p.1 p.2 := by
  unfold endRF
  split
  · rw [grd_bnd]
    split <;> rfl
  · rfl

/-- What is done behind a piece of code may be done later. -/
theorem evC_stop : ∀ (c : Code) {R : Type} (s : St) (k : Ex → St → Option R), evC X C L f c s k = bnd (evC X C L f c s stopK) fun p => k p.1 p.2 := by
  intro c
  induction c with
  | skip => intro R s k; rfl
  | label l => intro R s k; rfl
  | exit id => intro R s k; rfl
  | ret => intro R s k; rfl
  | goto l => intro R s k; rfl
  | refuse w => intro R s k; rfl
  | scope c ih => intro R s k; exact ih s k
  | region id ops draw =>
    intro R s k
    simp only [evC]
    rw [cnd_bnd, bnd_assoc, bnd_assoc]
    rfl
  | seq a b iha ihb =>
    intro R s k
    rw [evC_seq, evC_seq, iha s (seqK X C L f b k), iha s (seqK X C L f b stopK), bnd_assoc]
    refine bnd_congr fun p => ?_
    obtain ⟨x, s'⟩ := p
    cases x with
    | normal => exact ihb s' k
    | exit id => rfl
    | ret => rfl
  | cond o a b iha ihb =>
    intro R s k
    simp only [evC]
    split
    · rw [cnd_bnd, ← iha, ← ihb]
    · rfl
  | block id c ih =>
    intro R s k
    rw [evC_block, evC_block, ih s (blockK id k), ih s (blockK id stopK), bnd_assoc]
    refine bnd_congr fun p => ?_
    obtain ⟨x, s'⟩ := p
    cases x with
    | normal => rfl
    | exit id' => dsimp only [blockK]; rw [cnd_bnd]; rfl
    | ret => rfl
  | loop c _ =>
    intro R s k
    simp only [evC]
    rw [bnd_assoc]
    rfl
  | rangeFunc g ps a b _ _ =>
    intro R s k
    simp only [evC]
    split
    · rw [bnd_assoc]
      refine bnd_congr fun p => ?_
      exact endRF_stop _ _ _ _
    · rfl
end

/-- How a round ends: with what holds ahead of the next one, or with what holds behind the loop. -/
def Turn (I : Nat → St → Prop) (E : Ex → St → Prop) (n : Nat) (p : Ex × St) : Prop :=
  match p.1 with
  | .normal => ∃ m, m < n ∧ I m p.2
  | x => E x p.2

theorem Turn.next {I : Nat → St → Prop} {E : Ex → St → Prop} {n : Nat} {s : St} (m : Nat) (hm : m < n) (h : I m s) : Turn I E n (.normal, s) := ⟨m, hm, h⟩
theorem Turn.exit {I : Nat → St → Prop} {E : Ex → St → Prop} {n id : Nat} {s : St} (h : E (.exit id) s) : Turn I E n (.exit id, s) := h
theorem Turn.ret {I : Nat → St → Prop} {E : Ex → St → Prop} {n : Nat} {s : St} (h : E .ret s) : Turn I E n (.ret, s) := h

theorem Lo_ok {X : Env} {f : FuncId} {c : Code} {I : Nat → St → Prop} {E : Ex → St → Prop}
    (hs : ∀ n s, I n s → Ok (evC X (D X) (Lo X f) f c s stopK) (Turn I E n)) : ∀ (n : Nat) (s : St), I n s → Ok (Lo X f c s) fun p => E p.1 p.2 := by
  intro n
  induction n using Nat.strongRecOn with
  | _ n ih =>
    intro s hi
    obtain ⟨⟨x, s'⟩, e, q⟩ := hs n s hi
    have hb : loopBody X (D X) (Lo X f) (Lo X f) f c s = loopE (Lo X f) c x s' := by
      rw [loopBody_eq, evC_stop, e]; rfl
    cases x with
    | normal =>
      obtain ⟨m, hm, hi'⟩ := q
      obtain ⟨r, e', q'⟩ := ih m hm s' hi'
      exact ⟨r, Lo_of (by rw [hb]; exact e'), q'⟩
    | exit id => exact ⟨(.exit id, s'), Lo_of (by rw [hb]; rfl), q⟩
    | ret => exact ⟨(.ret, s'), Lo_of (by rw [hb]; rfl), q⟩

/-- The law of a loop. W: the temporaries that its rounds write. -/
theorem Ok.loop {X : Env} {f : FuncId} {c : Code} {R : Type} {k : Ex × St → Option R} {Q : R → Prop} (W : List Bool) (I : Nat → St → Prop) (E : Ex → St → Prop) (n : Nat) {s : St} (hi : I n s)
    (hs : ∀ n s', OutW W s.e s'.e → I n s' → Ok (evC X (D X) (Lo X f) f c s' stopK) (Turn (fun m s' => OutW W s.e s'.e ∧ I m s') (fun x s' => OutW W s.e s'.e ∧ E x s') n))
    (hk : ∀ x s', OutW W s.e s'.e → E x s' → Ok (k (x, s')) Q) : Ok (Ev.bnd (Lo X f c s) k) Q := by
  refine Ok.bnd2 (Lo_ok (I := fun m s' => OutW W s.e s'.e ∧ I m s') (E := fun x s' => OutW W s.e s'.e ∧ E x s') (fun n s' h => hs n s' h.1 h.2) n s ⟨.refl W s.e, hi⟩) fun x s' h => hk x s' h.1 h.2

end Go.Ev
