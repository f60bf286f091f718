/-
The interpreter's operations that turn no memory are the model's (continued).
-/
import Derived.Test.YtgkmfoljhapmiaaOp3
import Derived.Laws.Slices
set_option linter.unusedSimpArgs false
set_option linter.unusedVariables false
namespace Go.Ev
variable [Good] {P : Program} {K : KM} {L : KL} {w : World}

omit [Good] in
theorem run_equal (hT : TypesOk P) {t : TypeId} {x y : V} {xv yv : Value} {b : Bool} (h : veq (tyOf P) 6 t x y = some b) (hx : VR K x xv) (hy : VR K y yv) (w : World) :
    (Op.equal t xv yv).run P w = .ok b w := veq_ok hT 6 t x y xv yv b h hx hy Op.maxDepth (by decide)

omit [Good] in
theorem guard_ok (op : BinOp) (t : TypeId) (ox oy : Operand) {xv yv : Value} (h : ∀ a b, xv = .agg a → yv = .agg b → P.eqGuardType P.depth t = false) (hn : xv ≠ .nilIface) :
    (eqGuard op t ox oy xv yv).run P w = .ok () w := by
  unfold eqGuard
  cases op <;> simp only [Bool.not_false, Bool.not_true, if_true, if_false, Bool.false_eq_true, reduceIte] <;> first | rfl | skip
  all_goals
    cases xv <;> first | (exact absurd rfl hn) | skip
    all_goals cases yv <;> first | rfl | (simp [h _ _ rfl rfl])

def otherV : Value → Bool
  | .int _ _ | .float _ _ | .complex _ _ _ | .string _ => false
  | _ => true

omit [Good] in
theorem run_eql_other {xv yv : Value} {t : TypeId} (h : otherV xv = true) : (Go.binOp .eql t xv yv).run P w = ((Op.equal t xv yv).run P w).andThen fun b w' => .ok (.bool b) w' := by
  cases xv <;> first | (cases h; done) | skip
  all_goals cases yv <;> simp [Go.binOp]

omit [Good] in
theorem run_neq_other {xv yv : Value} {t : TypeId} (h : otherV xv = true) : (Go.binOp .neq t xv yv).run P w = ((Op.equal t xv yv).run P w).andThen fun b w' => .ok (.bool !b) w' := by
  cases xv <;> first | (cases h; done) | skip
  all_goals cases yv <;> simp [Go.binOp]

omit [Good] in
theorem VR_other {v : V} {y : Value} (h : VR K v y) (h1 : ∀ k n, v ≠ .int k n) (h2 : ∀ s, v ≠ .str s) : otherV y = true := by
  cases v <;> simp only [VR] at h <;> first | (subst h; rfl) | skip
  · exact absurd rfl (h1 _ _)
  · exact absurd rfl (h2 _)
  · obtain ⟨_, rfl, _⟩ := h; rfl
  · rename_i a _ _ _; cases a <;> simp only [SlR] at h
    · obtain ⟨_, _, _, rfl⟩ := h; rfl
    · obtain ⟨_, _, rfl, _⟩ := h; rfl
    · obtain ⟨_, _, _, _, _, rfl⟩ := h; rfl
  · obtain ⟨_, _, rfl⟩ := h; rfl
  · obtain ⟨_, rfl, _⟩ := h; rfl
  · obtain ⟨_, _, _, _, rfl⟩ := h; rfl
  · obtain ⟨_, rfl, _⟩ := h; rfl
  · obtain ⟨_, rfl, _⟩ := h; rfl

omit [Good] in
theorem VR_iface {v : V} {y : Value} (h : VR K v y) : y ≠ .nilIface := by
  cases v <;> simp only [VR] at h <;> first | (subst h; simp; done) | skip
  · obtain ⟨_, rfl, _⟩ := h; simp
  · rename_i a _ _ _; cases a <;> simp only [SlR] at h
    · obtain ⟨_, _, _, rfl⟩ := h; simp
    · obtain ⟨_, _, rfl, _⟩ := h; simp
    · obtain ⟨_, _, _, _, _, rfl⟩ := h; simp
  · obtain ⟨_, _, rfl⟩ := h; simp
  · obtain ⟨_, rfl, _⟩ := h; simp
  · obtain ⟨_, _, _, _, rfl⟩ := h; simp
  · obtain ⟨_, rfl, _⟩ := h; simp
  · obtain ⟨_, rfl, _⟩ := h; simp

omit [Good] in
theorem VR_agg {v : V} {cs : Array Value} (h : VR K v (.agg cs)) : ∃ vs, v = .agg vs := by
  cases v <;> simp only [VR] at h <;> first | (cases h; done) | exact ⟨_, rfl⟩ | skip
  · obtain ⟨_, h, _⟩ := h; cases h
  · rename_i a _ _ _; cases a <;> simp only [SlR] at h
    · obtain ⟨_, _, _, h⟩ := h; cases h
    · obtain ⟨_, _, h, _⟩ := h; cases h
    · obtain ⟨_, _, _, _, _, h⟩ := h; cases h
  · obtain ⟨_, _, h⟩ := h; cases h
  · obtain ⟨_, h, _⟩ := h; cases h
  · obtain ⟨_, _, _, _, h⟩ := h; cases h
  · obtain ⟨_, h, _⟩ := h; cases h

omit [Good] in
theorem veq_guard {d : Nat} {t : TypeId} {xs : List V} {y : V} {b : Bool} (h : veq (tyOf P) d t (.agg xs) y = some b) : P.eqGuardType P.depth t = false := by
  cases d with
  | zero => cases h
  | succ d =>
    cases hd : (tyOf P t).desc <;> cases y <;> simp only [veq, hd] at h <;> first | (cases h; done) | skip
    all_goals
      rcases cnd_some h with ⟨hok, _⟩ | ⟨_, h⟩
      · simp [tyOf] at hok; exact hok.1.1
      · cases h

omit [Good] in
theorem binOp_ok (hT : TypesOk P) {op : BinOp} {t : TypeId} {x y v : V} {xv yv : Value} (h : binOp (tyOf P) op t x y = some v) (hx : VR K x xv) (hy : VR K y yv) (ox oy : Operand) :
    ∃ z, (do eqGuard op t ox oy xv yv; Go.binOp op t xv yv : Sem Value).run P w = .ok z w ∧ VR K v z := by
  unfold binOp at h
  have gd : ∀ {b}, veq (tyOf P) 6 t x y = some b → (eqGuard op t ox oy xv yv).run P w = .ok () w := fun hb =>
    guard_ok op t ox oy (fun a c e _ => by
      subst e
      obtain ⟨vs, rfl⟩ := VR_agg hx
      exact veq_guard hb) (VR_iface hx)
  split at h <;> first | (cases h; done) | skip
  · rw [VR_int hx, VR_int hy, Sem.run_bind, guard_ok _ t ox oy (fun _ _ e => by cases e) (by simp)]
    exact run_shift h t
  · rw [VR_int hx, VR_int hy, Sem.run_bind, guard_ok _ t ox oy (fun _ _ e => by cases e) (by simp)]
    exact run_shift h t
  · obtain ⟨hk, h'⟩ := grd_some h
    subst hk
    rw [VR_int hx, VR_int hy, Sem.run_bind, guard_ok _ t ox oy (fun _ _ e => by cases e) (by simp)]
    exact run_intOp h' t
  · cases h
    rw [VR_str hx, VR_str hy, Sem.run_bind, guard_ok _ t ox oy (fun _ _ e => by cases e) (by simp)]
    simp [Go.binOp, Op.stringOp, strEq_ok, VR]
  · cases h
    rw [VR_str hx, VR_str hy, Sem.run_bind, guard_ok _ t ox oy (fun _ _ e => by cases e) (by simp)]
    simp [Go.binOp, Op.stringOp, strEq_ok, VR]
  · rename_i h1 h2 h3 h4
    obtain ⟨b, hb, h'⟩ := bnd_some h
    cases h'
    rw [Sem.run_bind, gd hb, Result.andThen_ok, run_eql_other (VR_other hx (by intro k n e; subst e; simp_all) (by intro s e; subst e; simp_all)), run_equal hT hb hx hy w]
    exact ⟨.bool b, rfl, by simp [VR]⟩
  · rename_i h1 h2 h3 h4
    obtain ⟨b, hb, h'⟩ := bnd_some h
    cases h'
    rw [Sem.run_bind, gd hb, Result.andThen_ok, run_neq_other (VR_other hx (by intro k n e; subst e; simp_all) (by intro s e; subst e; simp_all)), run_equal hT hb hx hy w]
    exact ⟨.bool !b, rfl, by simp [VR]⟩
  · obtain ⟨hle, h'⟩ := grd_some h
    cases h'
    rw [VR_str hx, VR_str hy, Sem.run_bind, guard_ok _ t ox oy (fun _ _ e => by cases e) (by simp)]
    rename_i a b
    have : ¬ ((a.size + b.size : Nat) : Int) > IntKind.i64.max := by
      have : IntKind.i64.max = 9223372036854775807 := by decide
      omega
    simp only [Go.binOp, Op.stringOp, this, if_false, Result.andThen_ok]
    exact ⟨_, rfl, by simp [VR]⟩

end Go.Ev
