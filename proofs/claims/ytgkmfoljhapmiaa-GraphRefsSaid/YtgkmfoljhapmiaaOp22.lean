/-
What is checked of a program, as Booleans; and what follows: the interpreter's calls are the model's.
-/
import Derived.Test.YtgkmfoljhapmiaaOp21
import Derived.Below
set_option linter.unusedSimpArgs false
set_option linter.unusedVariables false
namespace Go.Ev
variable {X : Env} {C : CallSem} {f : FuncId} {ops : Array Oper}

def pw (r : PE → PE → Bool) : List PE → Bool
  | [] => true
  | p :: l => l.all (r p) && pw r l

theorem pw_ok {r : PE → PE → Bool} {R : PE → PE → Prop} (h : ∀ a q, r a q = true → R a q) : ∀ {l : List PE}, pw r l = true → l.Pairwise R
  | [], _ => .nil
  | p :: l, h' => by
    simp only [pw, Bool.and_eq_true, List.all_eq_true] at h'
    exact .cons (fun q hq => h p q (h'.1 q hq)) (pw_ok h h'.2)

def aheadOf (B : Array Nat) (o : Oper) : Nat := o.after.foldl (fun s e => if Region.binds .any e then s ||| 2 ^ e.on ||| B.getD e.on 0 else s) 0

def tabChk (B : Array Nat) (ops : Array Oper) : Bool :=
  (List.range ops.size).all fun j => match ops[j]? with
    | some o => (o.after.toList.all fun e => !Region.binds .any e || decide (e.on < j)) && (B.getD j 0 == aheadOf B o)
    | none => true

theorem aheadOf_ok {B : Array Nat} {o : Oper} {a : Nat} (h : (aheadOf B o).testBit a = true) : ∃ e ∈ o.after, Region.binds .any e = true ∧ (e.on = a ∨ (B.getD e.on 0).testBit a = true) := by
  unfold aheadOf at h
  rw [← Array.foldl_toList] at h
  have key : ∀ (l : List Edge) (s : Nat), (l.foldl (fun s e => if Region.binds .any e then s ||| 2 ^ e.on ||| B.getD e.on 0 else s) s).testBit a = true →
      s.testBit a = true ∨ ∃ e ∈ l, Region.binds .any e = true ∧ (e.on = a ∨ (B.getD e.on 0).testBit a = true) := by
    intro l
    induction l with
    | nil => intro s h; exact .inl h
    | cons e l ih =>
      intro s h
      rw [List.foldl_cons] at h
      rcases ih _ h with h1 | ⟨e', he', h2⟩
      · by_cases hb : Region.binds .any e = true
        · rw [if_pos hb, Nat.testBit_or, Nat.testBit_or, Nat.testBit_two_pow] at h1
          simp only [Bool.or_eq_true, decide_eq_true_eq] at h1
          rcases h1 with (h1 | h1) | h1
          · exact .inl h1
          · exact .inr ⟨e, by simp, hb, .inl h1⟩
          · exact .inr ⟨e, by simp, hb, .inr h1⟩
        · rw [if_neg hb] at h1
          exact .inl h1
      · exact .inr ⟨e', by simp [he'], h2⟩
  rcases key _ _ h with h1 | ⟨e, he, h2⟩
  · simp at h1
  · exact ⟨e, by simpa using he, h2⟩

theorem tabChk_ok {B : Array Nat} (h : tabChk B ops = true) : tabOk B ops := by
  intro j o ho
  have hlt := (Array.getElem?_eq_some_iff.1 ho).1
  have h1 := List.all_eq_true.1 h j (List.mem_range.2 hlt)
  rw [ho] at h1
  simp only [Bool.and_eq_true, List.all_eq_true, Bool.or_eq_true, Bool.not_eq_true', decide_eq_true_eq, beq_iff_eq] at h1
  refine ⟨fun e he hb => ?_, fun a ha => ?_⟩
  · rcases h1.1 e (by simpa using he) with h2 | h2
    · rw [hb] at h2; cases h2
    · exact h2
  · rw [h1.2] at ha
    exact aheadOf_ok ha

def pairChk (X : Env) (f : FuncId) (ops : Array Oper) (a q : PE) : Bool :=
  match ops[a.1]?, ops[q.1]? with
  | some oa, some oq =>
    Oper.apart ops oa oq && (okCls (cls X f oa) a.2.1 (cls X f oq) q.2.1 || (mapPair oa oq && a.2.2.isEmpty && q.2.2.isEmpty)) &&
    (!decide (cls X f oa = .L) || ((!(decide (cls X f oq = .C) || decide (cls X f oq = .H)) || q.2.2.elem (a.1, a.2.1)) &&
      (match oa.dst with | some d => !(Oper.looksAt ops oa).elem d | none => true)))
  | _, _ => false

theorem pairChk_ok {a q : PE} (h : pairChk X f ops a q = true) : pairOk X f ops a q := by
  unfold pairChk at h
  split at h
  · rename_i oa oq h1 h2
    simp only [Bool.and_eq_true, Bool.or_eq_true, Bool.not_eq_true', decide_eq_false_iff_not, Bool.or_eq_false_iff, List.elem_eq_mem, decide_eq_true_eq, List.isEmpty_iff] at h
    obtain ⟨⟨h3, h4⟩, h5⟩ := h
    refine ⟨oa, oq, h1, h2, h3, h4.imp id fun h => ⟨h.1.1, h.1.2, h.2⟩, fun hl hch => ?_, fun hl d hd => ?_⟩
    · rcases h5 with h5 | ⟨h5, _⟩
      · exact absurd hl h5
      · rcases h5 with ⟨h6, h7⟩ | h5
        · rcases hch with hch | hch
          · exact absurd hch h6
          · exact absurd hch h7
        · exact h5
    · rcases h5 with h5 | ⟨_, h5⟩
      · exact absurd hl h5
      · rw [hd] at h5
        simpa using h5
  · cases h

def entryChk (X : Env) (f : FuncId) (ops : Array Oper) (p : PE) : Bool :=
  match ops[p.1]? with
  | some o => (p.2.2.isEmpty || decide (cls X f o = .C) || decide (cls X f o = .H)) && p.2.2.all fun j => decide (j.1 < ops.size) && decide (j.1 ≠ p.1)
  | none => true

theorem entryChk_ok {p : PE} (h : entryChk X f ops p = true) : entryOk X f ops p := by
  intro o ho
  unfold entryChk at h
  rw [ho] at h
  simp only [Bool.and_eq_true, Bool.or_eq_true, decide_eq_true_eq, List.all_eq_true, List.isEmpty_iff] at h
  refine ⟨fun hne => ?_, fun j hj => ?_⟩
  · rcases h.1 with (h1 | h1) | h1
    · exact absurd h1 hne
    · exact .inl h1
    · exact .inr h1
  · obtain ⟨h1, h2⟩ := h.2 j hj
    exact ⟨⟨ops[j.1], by simp [h1]⟩, h2⟩

def stillChk1 (X : Env) (f : FuncId) (ops : Array Oper) (j : Nat × List Nat) (o : Oper) : Bool :=
  match ops[j.1]? with
  | some oj => (match o.dst with | some d => !(Oper.looksAt ops oj).elem d && decide (oj.dst ≠ some d) | none => true) && (match cls X f o with | .S k => !j.2.elem k | _ => true)
  | none => true

theorem stillChk1_ok {j : Nat × List Nat} {o : Oper} (h : stillChk1 X f ops j o = true) : Still X f ops j o := by
  intro oj hoj
  unfold stillChk1 at h
  rw [hoj] at h
  simp only [Bool.and_eq_true] at h
  refine ⟨fun d hd => ?_, fun k hk => ?_⟩
  · have h1 := h.1
    rw [hd] at h1
    simpa using h1
  · have h1 := h.2
    rw [hk] at h1
    simpa using h1

def stillChk (X : Env) (f : FuncId) (ops : Array Oper) (B : Array Nat) (p q : PE) : Bool :=
  p.2.2.all fun j => match ops[q.1]? with
    | some o => decide (q.1 = j.1) || (B.getD j.1 0).testBit q.1 || stillChk1 X f ops j o
    | none => true

theorem stillChk_ok {B : Array Nat} {p q : PE} (h : stillChk X f ops B p q = true) : stillOk X f ops B p q := by
  intro j hj o ho hne
  have h1 := List.all_eq_true.1 h j hj
  rw [ho] at h1
  simp only [Bool.or_eq_true, decide_eq_true_eq] at h1
  rcases h1 with (h1 | h1) | h1
  · exact absurd h1 hne
  · exact .inl h1
  · exact .inr (stillChk1_ok h1)

def linChk (ops : Array Oper) (a q : PE) : Bool :=
  match ops[a.1]? with
  | some o => o.after.toList.all fun e => !Region.binds .any e || decide (e.on ≠ q.1)
  | none => true

def planChk (X : Env) (f : FuncId) (ops : Array Oper) (B : Array Nat) (π : List PE) : Bool :=
  decide (π.length = ops.size) && decide (π.map (·.1)).Nodup && (π.all fun p => decide (p.1 < ops.size)) && ((List.range ops.size).all fun i => (π.map (·.1)).elem i) && tabChk B ops &&
  (pw (fun a q => ((B.getD q.1 0).testBit a.1 || pairChk X f ops a q) && (a.2.2.all fun j => decide (j.1 ≠ q.1)) && !(B.getD a.1 0).testBit q.1 && linChk ops a q) π) &&
  π.all (entryChk X f ops) && π.all fun p => p.2.2.isEmpty || π.all fun q => stillChk X f ops B p q

theorem planChk_ok {B : Array Nat} {π : List PE} (h : planChk X f ops B π = true) : PlanOk X f ops B π := by
  unfold planChk at h
  simp only [Bool.and_eq_true, decide_eq_true_eq, List.all_eq_true, Bool.or_eq_true, List.isEmpty_iff] at h
  obtain ⟨⟨⟨⟨⟨⟨⟨h1, h2⟩, h3⟩, h4⟩, h5⟩, h6⟩, h7⟩, h8⟩ := h
  refine ⟨h1, h2, h3, fun i hi => by simpa using h4 i (List.mem_range.2 hi), tabChk_ok h5, ?_, ?_, fun p hp => entryChk_ok (h7 p hp), fun p hp q hq => ?_⟩
  · refine pw_ok (fun a q h => ?_) h6
    simp only [Bool.and_eq_true, Bool.or_eq_true, List.all_eq_true, decide_eq_true_eq, Bool.not_eq_true'] at h
    obtain ⟨⟨⟨h1, h2⟩, h3⟩, _⟩ := h
    exact ⟨h1.imp id pairChk_ok, h2, h3⟩
  · refine pw_ok (fun a q h => ?_) h6
    simp only [Bool.and_eq_true] at h
    intro o ho e he hb
    have h1 := h.2
    unfold linChk at h1
    rw [ho] at h1
    simp only [List.all_eq_true, Bool.or_eq_true, Bool.not_eq_true', decide_eq_true_eq] at h1
    rcases h1 e (by simpa using he) with h2 | h2
    · rw [hb] at h2; cases h2
    · exact h2
  · rcases h8 p hp with h1 | h1
    · intro j hj; rw [h1] at hj; cases hj
    · exact stillChk_ok (h1 q hq)

/-- Every region of a piece of code. -/
def codeChk (X : Env) (f : FuncId) : Code → Bool
  | .region id ops draw => !draw || planChk X f ops (Region.before ops) (X.plan f id)
  | .seq a b => codeChk X f a && codeChk X f b
  | .cond _ a b => codeChk X f a && codeChk X f b
  | .block _ c => codeChk X f c
  | .scope c => codeChk X f c
  | .loop c => codeChk X f c
  | .rangeFunc _ _ a b => codeChk X f a && codeChk X f b
  | _ => true

abbrev DOk (X : Env) : FuncId → Nat → Array Oper → Prop := fun f id ops => ∃ B, PlanOk X f ops B (X.plan f id)

theorem codeChk_ok : ∀ (c : Code), codeChk X f c = true → CodeOk (DOk X f) c := by
  intro c
  induction c with
  | region id ops draw =>
    intro h hd
    subst hd
    exact ⟨_, planChk_ok (by simpa [codeChk] using h)⟩
  | seq a b iha ihb => intro h; simp only [codeChk, Bool.and_eq_true] at h; exact ⟨iha h.1, ihb h.2⟩
  | cond c a b iha ihb => intro h; simp only [codeChk, Bool.and_eq_true] at h; exact ⟨iha h.1, ihb h.2⟩
  | block id c ih => intro h; exact ih h
  | scope c ih => intro h; exact ih h
  | loop c ih => intro h; exact ih h
  | rangeFunc g ps a b iha ihb => intro h; simp only [codeChk, Bool.and_eq_true] at h; exact ⟨iha h.1, ihb h.2⟩
  | _ => intro _; trivial

def bodyChk (X : Env) (P : Program) (f : FuncId) : Bool :=
  match P.funcs[f]? with
  | some fn => match fn.body with
    | some c => codeChk X f c && !(fn.name == "runtime.NumGoroutine")
    | none => true
  | none => true

def typeChk (P : Program) (t : TypeId) : Bool :=
  (match P.underlying t with
    | some (.slice e) => (P.info? e).isSome
    | some (.array _ e) => (P.info? e).isSome
    | some (.struct fs) => fs.toList.all fun f => (P.info? f.type).isSome
    | _ => true) &&
  (match P.info? t with
    | some i => match i.zero with | some v => v.cells.size == i.size && (match (tyOf P t).kind with | some ag => isAggV v == ag | none => true) | none => true
    | none => true)

/-- What is checked of a program. -/
structure Fit (P : Program) (X : Env) : Prop where
  ty : X.ty = tyOf P
  body : X.body = bodyOf P
  mixed : P.follows .mixedOrders = true
  types : ∀ t, t < P.types.size → typeChk P t = true
  bodies : ∀ f, f < P.funcs.size → bodyChk X P f = true
  pins : ∀ f b, X.pin f = some b → (bodyOf P f).isSome = true ∧ ∀ w, Calls P f #[] w fun e w' => e = .returned (.bool b) ∧ RowKit.Below w.heap.size w w'

theorem Fit.typesOk {P : Program} (h : Fit P X) : TypesOk P := by
  refine ⟨fun t e hlt hu => ?_, fun t fs f hlt hu hf => ?_, fun t i v hlt hi hz => ?_, fun t i v ag hlt hi hz hk => ?_⟩
  · have h1 := h.types t hlt
    unfold typeChk at h1
    simp only [Bool.and_eq_true] at h1
    rcases hu with hu | ⟨n, hu⟩
    · have h2 := h1.1; rw [hu] at h2; exact h2
    · have h2 := h1.1; rw [hu] at h2; exact h2
  · have h1 := h.types t hlt
    unfold typeChk at h1
    simp only [Bool.and_eq_true] at h1
    have h2 := h1.1
    rw [hu] at h2
    exact List.all_eq_true.1 h2 f hf
  · have h1 := h.types t hlt
    unfold typeChk at h1
    simp only [Bool.and_eq_true] at h1
    have h2 := h1.2
    rw [hi] at h2
    simp only [hz, Bool.and_eq_true, beq_iff_eq] at h2
    exact h2.1
  · have h1 := h.types t hlt
    unfold typeChk at h1
    simp only [Bool.and_eq_true] at h1
    have h2 := h1.2
    rw [hi] at h2
    simp only [hz, Bool.and_eq_true, beq_iff_eq, hk] at h2
    exact h2.2

theorem Fit.funcsOk {P : Program} (h : Fit P X) : FuncsOk P := by
  intro f fn hf hb
  have h1 := h.bodies f (Array.getElem?_eq_some_iff.1 hf).1
  unfold bodyChk at h1
  rw [hf] at h1
  simp only at h1
  cases hc : fn.body with
  | none => rw [hc] at hb; cases hb
  | some c =>
    rw [hc] at h1
    simp only [Bool.and_eq_true, Bool.not_eq_true'] at h1
    exact h1.2

theorem Fit.code {P : Program} (h : Fit P X) : ∀ f b, bodyOf P f = some b → CodeOk (DOk X f) b.1 := by
  intro f b hb
  unfold bodyOf at hb
  split at hb
  · rename_i fn hf
    split at hb
    · rename_i c hc
      cases hb
      have h1 := h.bodies f (Array.getElem?_eq_some_iff.1 hf).1
      unfold bodyChk at h1
      rw [hf] at h1
      simp only [hc, Bool.and_eq_true] at h1
      exact codeChk_ok c h1.1
    · cases hb
  · cases hb

abbrev goodOf (X : Env) : Good := ⟨fun f c => CodeOk (DOk X f) c⟩

theorem Fit.pinned [Good] {P : Program} (h : Fit P X) (f : FuncId) (b : Bool) (hp : X.pin f = some b) (K : KM) (w : World) (hh : Heap) (hm : Mem K [] [] hh w) : CallOk P K w (.fn f []) [] (.bool b) hh := by
  obtain ⟨h1, h2⟩ := h.pins f b hp
  refine ⟨?_, fun ys hys => ?_⟩
  · unfold bodyOf at h1
    split at h1
    · rename_i fn hf
      split at h1
      · rename_i c hc
        exact ⟨fn, hf, by simp [hc], h.funcsOk f fn hf (by simp [hc])⟩
      · cases h1
    · cases h1
  · simp only [List.append_nil, VRs] at hys
    subst hys
    have h3 : CallsIn (FW none) 0 P f #[] w fun e w' => e = .returned (.bool b) ∧ RowKit.Below w.heap.size w w' := (callsIn_wide (n := 0)).2 (h2 w)
    refine CallsIn.mono h3 fun e w' he => ?_
    obtain ⟨rfl, hb⟩ := he
    refine ⟨K, by simp [VR], hm.keep hb.size fun B hB _ => hb.block B hB, KM.le_refl K, KL.le_refl [], hb.size, fun B hB _ => hb.block B hB, fun o B ho => .inr ⟨o, ho⟩, hb.os, hb.tape, hb.output, fun _ _ _ _ _ h => h, fun _ _ kl _ h => ⟨kl, h, fun _ => rfl, KL.le_refl kl⟩⟩

/-- THE INTERPRETER's CALLS ARE THE MODEL's. -/
theorem Fit.spec {P : Program} (h : Fit P X) (n : Nat) : @Spec (goodOf X) P (callN X n) :=
  letI := goodOf X
  callN_ok h.typesOk h.funcsOk h.ty h.body (fun _ hS => draw_ok h.typesOk h.ty h.mixed hS) h.code (fun _ _ => Iff.rfl) h.pinned n

end Go.Ev
