/-
Code: from the interpreter's run to the walk.
-/
import Derived.Test.YtgkmfoljhapmiaaOp14
import Derived.LoopNIn
set_option linter.unusedSimpArgs false
set_option linter.unusedVariables false
namespace Go.Ev
variable [Good] {P : Program} {K : KM} {L : KL} {w : World}

def exitOf : Ex → Exit
  | .normal => .normal
  | .exit id => .exit id
  | .ret => .ret

/-- Every region whose order is drawn is one that D names. -/
def CodeOk (D : Nat → Array Oper → Prop) : Code → Prop
  | .region id ops draw => draw = true → D id ops
  | .seq a b => CodeOk D a ∧ CodeOk D b
  | .cond _ a b => CodeOk D a ∧ CodeOk D b
  | .block _ c => CodeOk D c
  | .scope c => CodeOk D c
  | .loop c => CodeOk D c
  | .rangeFunc _ _ a b => CodeOk D a ∧ CodeOk D b
  | _ => True

def DrawSpec (P : Program) (X : Env) (C : CallSem) (D : FuncId → Nat → Array Oper → Prop) : Prop :=
  ∀ (f : FuncId) (id : Nat) (ops : Array Oper), D f id ops → ∀ (base : Nat) (s s' : St), exPlan X C f ops.toList (X.plan f id) s = some s' →
    ∀ (ro : Option Nat) (K : KM) (L : KL) (a : Act) (w : World), SB base K L s a w → ∀ Q : Exit → Act → World → Prop,
      (∀ a' w' K' L', SB base K' L' s' a' w' → Step K L w K' L' w' → Q .normal a' w') → ∀ t, wpOpsIn (FW ro) 0 P ops Q (Region.schedule (P.follows .mixedOrders) ops t) a w

def LSpec (P : Program) (D : Nat → Array Oper → Prop) (Lp : LoopSem) : Prop :=
  ∀ (c : Code), CodeOk D c → ∀ (base : Nat) (s s' : St) (x : Ex), Lp c s = some (x, s') → ∀ (ro : Option Nat) (K : KM) (L : KL) (a : Act) (w : World), SB base K L s a w → InR K ro → base ≤ w.heap.size →
    ∀ Q : Exit → Act → World → Prop, (∀ a' w' K' L', SB base K' L' s' a' w' → Step K L w K' L' w' → Q (exitOf x) a' w') → (Code.loop c).wpIn (FW ro) 0 P Q a w

theorem SB.drew {base : Nat} {s : St} {a : Act} (h : SB base K L s a w) : SB base K L s a w.drew ∧ Step K L w K L w.drew :=
  let ⟨h1, h2⟩ := h.mem.drew; ⟨⟨h.env, h1, h.marks.step h2⟩, h2⟩

omit [Good] in
theorem heap_alloc (w : World) (o : Obj) (k : Nat) (h : k < w.heap.size) : (w.alloc o).heap[k]? = w.heap[k]? := by
  show (w.heap.push o)[k]? = _
  rw [Array.getElem?_push, if_neg (by omega)]

/-- What is laid at a loop over a function. -/
theorem enter_ok {base : Nat} {s : St} {a : Act} (hs : SB base K L s a w) {ro : Option Nat} (hro : InR K ro) (hbase : base ≤ w.heap.size) (fn : FuncId) (ps : Array Tmp) (assign body : Code) :
    ∃ l mark w1 R, (Instr.enterLoop fn a.tmps ps assign body ro).run P w = .ok (l, mark) w1 ∧ Laid w w1 l R ∧
      R.state = .ready ∧ R.pending = none ∧ R.params = ps ∧ R.assign = assign ∧ R.body = body ∧ R.tmps = a.tmps ∧
      (mark = [] ∨ (mark = [{ target := .collected w.heap.size, args := #[] }] ∧ w1.heap[w.heap.size]? = some (.deferred (some [])) ∧ l ≠ w.heap.size)) := by
  cases ro with
  | none =>
    refine ⟨w.heap.size + 1, _, _, { state := .ready, pending := none, fn, tmps := a.tmps, params := ps, assign, body, defers := w.heap.size }, run_enterLoop_outer _ _ _ _ _, ⟨by omega, ?_, fun B hB => ?_, ?_, rfl, rfl, rfl⟩, rfl, rfl, rfl, rfl, rfl, rfl, .inr ⟨rfl, ?_, by omega⟩⟩
    · rw [World.size_alloc, World.size_alloc]; omega
    · rw [heap_alloc _ _ _ (by rw [World.size_alloc]; omega), heap_alloc _ _ _ hB]
    · have := World.alloc_heap_new (w.alloc (.deferred (some []))) (.loop { state := .ready, pending := none, fn, tmps := a.tmps, params := ps, assign, body, defers := w.heap.size })
      rwa [World.size_alloc] at this
    · rw [heap_alloc _ _ _ (by rw [World.size_alloc]; omega)]; exact World.alloc_heap_new _ _
  | some B =>
    obtain ⟨l, kl, t, hK⟩ := hro
    have hlt : l < s.h.length := by rw [hs.mem.hr.1]; exact (List.getElem?_eq_some_iff.1 hK).1
    obtain ⟨e, he, hb⟩ := hs.mem.hr.2 l s.h[l] (by simp [hlt])
    rw [hK] at he; cases he
    obtain ⟨R0, hR0⟩ : ∃ R, w.heap[B]? = some (.loop R) := by
      generalize s.h[l] = x at hb
      cases x with
      | cells => obtain ⟨_, _, _, h, _⟩ := hb; cases h
      | map => obtain ⟨_, h, _⟩ := hb; cases h
      | loop r => obtain ⟨_, _, h, R, hR, _⟩ := hb; cases h; exact ⟨R, hR⟩
    refine ⟨w.heap.size, _, _, { state := .ready, pending := none, fn, tmps := a.tmps, params := ps, assign, body, defers := R0.defers }, run_enterLoop_inner hR0 _ _ _ _ _, ⟨Nat.le_refl _, ?_, fun B hB => heap_alloc _ _ _ hB, World.alloc_heap_new _ _, rfl, rfl, rfl⟩, rfl, rfl, rfl, rfl, rfl, rfl, .inl rfl⟩
    rw [World.size_alloc]; omega

omit [Good] in
theorem endRF_some {R : Type} {k : Ex → St → Option R} {e : List TV} {l : Nat} {h : Heap} {v : R} (hh : endRF k e l h = some v) :
    ∃ r, h[l]? = some (.loop r) ∧ r.state ≠ 1 ∧ r.lent = false ∧
      ((r.pending = none ∧ k .normal ⟨e, r.l, h.set l (.loop { r with state := 3, lent := true })⟩ = some v) ∨
       (r.pending = some .ret ∧ k .ret ⟨e, r.l, h.set l (.loop { r with state := 3, lent := true })⟩ = some v) ∨
       ∃ id, r.pending = some (.exit id) ∧ k (.exit id) ⟨e, r.l, h.set l (.loop { r with state := 3, lent := true })⟩ = some v) := by
  unfold endRF at hh
  split at hh
  · rename_i r hr
    obtain ⟨⟨h1, h2⟩, hv⟩ := grd_some hh
    refine ⟨r, hr, h1, h2, ?_⟩
    split at hv
    · rename_i hp; exact .inl ⟨hp, hv⟩
    · rename_i hp; exact .inr (.inl ⟨hp, hv⟩)
    · rename_i id hp; exact .inr (.inr ⟨id, hp, hv⟩)
    · cases hv
  · cases hh

omit [Good] in
theorem stepR_scope {b : Frame} {a : Act} {k : List Item} {cs : List Frame} {w : World} {c : Code} : step P (lone (b.atR a (.code (.scope c) :: k)) cs w) = .next (lone (b.atR a (.code c :: .inScope c :: k)) cs w) :=
  step_lone_go (by simp [stepG, stepG.exec, Frame.atR])
omit [Good] in
theorem stepR_inScope {b : Frame} {a : Act} {k : List Item} {cs : List Frame} {w : World} {c : Code} : step P (lone (b.atR a (.inScope c :: k)) cs w) = .next (lone (b.atR a k) cs w) :=
  step_lone_go (by simp [stepG, stepG.exec, Frame.atR])
/-- No jump. -/
def noJump (Q : Exit → Act → World → Prop) : Exit → Act → World → Prop
  | .goto _, _, _ => False
  | e, a, w => Q e a w
omit [Good] in
theorem wpIn_scope {F : Fence} {n : Nat} {Q : Exit → Act → World → Prop} {a : Act} {c : Code} (h : c.wpIn F n P (noJump Q) a w) : (Code.scope c).wpIn F n P Q a w := by
  intro b k cs hro hb hr
  have h0 : (lone (b.atR a (.code (.scope c) :: k)) cs w).fenced P F := fenced_calm hb hr rfl
  obtain ⟨e, a₁, w₁, hq, harr⟩ := h b (.inScope c :: k) cs hro hb hr
  cases e with
  | normal => exact ⟨.normal, a₁, w₁, hq, .head h0 stepR_scope (StepsIn.trans harr (.one (fenced_calm hb hr rfl) stepR_inScope))⟩
  | exit id' =>
    have hx : exitTo id' (.inScope c :: k) = exitTo id' k := by simp [exitTo]
    exact ⟨.exit id', a₁, w₁, hq, fun k' hk => .head h0 stepR_scope (harr.1 k' (by rw [hx]; exact hk)),
      fun hr' hk => let ⟨k₁, h1, h2⟩ := harr.2 hr' (by rw [hx]; exact hk); ⟨k₁, h1, .head h0 stepR_scope h2⟩⟩
  | goto l => exact hq.elim
  | ret => exact ⟨_, a₁, w₁, hq, .of_steps (.one h0 stepR_scope) harr⟩
  | panic ch => exact ⟨_, a₁, w₁, hq, .of_steps (.one h0 stepR_scope) harr⟩
  | outgrown => exact ⟨_, a₁, w₁, hq, .of_steps (.one h0 stepR_scope) harr⟩

theorem evC_ok (hT : TypesOk P) {X : Env} (hX : X.ty = tyOf P) {C : CallSem} (hS : Spec P C) {D : FuncId → Nat → Array Oper → Prop} (hD : DrawSpec P X C D)
    (hG : ∀ f c, CodeOk (D f) c → Good.ok f c) {f : FuncId} {Lp : LoopSem} (hL : LSpec P (D f) Lp) :
    ∀ (c : Code), CodeOk (D f) c → ∀ {R : Type} (base : Nat) (s : St) (k : Ex → St → Option R) (r : R), evC X C Lp f c s k = some r →
      ∀ (ro : Option Nat) (K : KM) (L : KL) (a : Act) (w : World), SB base K L s a w → InR K ro → base ≤ w.heap.size → ∀ Q : Exit → Act → World → Prop,
        (∀ x s' a' w' K' L', k x s' = some r → SB base K' L' s' a' w' → Step K L w K' L' w' → Q (exitOf x) a' w') → c.wpIn (FW ro) 0 P Q a w := by
  intro c
  induction c with
  | skip =>
    intro _ R base s k r h ro K L a w hs hro hb Q hq
    exact wpIn_skip (hq .normal s a w K L h hs (Step.refl K L w))
  | label l =>
    intro _ R base s k r h ro K L a w hs hro hb Q hq
    exact wpIn_label (hq .normal s a w K L h hs (Step.refl K L w))
  | exit id =>
    intro _ R base s k r h ro K L a w hs hro hb Q hq
    exact wpIn_exit (hq (.exit id) s a w K L h hs (Step.refl K L w))
  | ret =>
    intro _ R base s k r h ro K L a w hs hro hb Q hq
    exact wpIn_ret (hq .ret s a w K L h hs (Step.refl K L w))
  | goto l => intro _ R base s k r h; simp [evC] at h
  | refuse why => intro _ R base s k r h; simp [evC] at h
  | scope c ih =>
    intro hok R base s k r h ro K L a w hs hro hb Q hq
    simp only [evC] at h
    refine wpIn_scope (ih hok base s k r h ro K L a w hs hro hb _ fun x s' a' w' K' L' hk hs' hst => ?_)
    cases x <;> exact hq _ s' a' w' K' L' hk hs' hst
  | region id ops draw =>
    intro hok R base s k r h ro K L a w hs hro hb Q hq
    simp only [evC] at h
    cases draw with
    | true =>
      obtain ⟨s1, h1, hk⟩ := bnd_some (x := exPlan X C f ops.toList (X.plan f id) s) h
      obtain ⟨hs2, hst2⟩ := hs.drew
      exact wpIn_region_draw fun t => hD f id ops (hok rfl) base s s1 h1 ro K L a _ hs2 Q (fun a' w' K' L' hs' hst => hq .normal s1 a' w' K' L' hk hs' (hst2.trans hst)) t
    | false =>
      obtain ⟨s1, h1, hk⟩ := bnd_some (x := exOps X C f ops.toList ops.toList s) h
      refine wpIn_region_list ?_
      have := exOps_ok hT hX hS ro (Q := Q) ops.toList s s1 K L a w h1 hs fun a' w' K' L' hs' hst => hq .normal s1 a' w' K' L' hk hs' hst
      simpa using this
  | seq c d ihc ihd =>
    intro hok R base s k r h ro K L a w hs hro hb Q hq
    simp only [evC] at h
    refine wpIn_seq (ihc hok.1 base s _ r h ro K L a w hs hro hb _ fun x s' a' w' K' L' hk hs' hst => ?_)
    cases x with
    | normal => exact ihd hok.2 base s' k r hk ro K' L' a' w' hs' (hro.mono hst.kle) (Nat.le_trans hb hst.size) Q fun x2 s2 a2 w2 K2 L2 hk2 hs2 hst2 => hq x2 s2 a2 w2 K2 L2 hk2 hs2 (hst.trans hst2)
    | exit id => exact hq (.exit id) s' a' w' K' L' hk hs' hst
    | ret => exact hq .ret s' a' w' K' L' hk hs' hst
  | cond o c d ihc ihd =>
    intro hok R base s k r h ro K L a w hs hro hb Q hq
    simp only [evC] at h
    split at h
    · rename_i b ho
      have hv := opd_ok hs.env o
      rw [ho] at hv
      have hv' : a.eval o = .bool b := by simpa only [TVR, VR] using hv
      rcases cnd_some h with ⟨rfl, h1⟩ | ⟨rfl, h1⟩
      · exact wpIn_cond_true hv' (ihc hok.1 base s k r h1 ro K L a w hs hro hb Q hq)
      · exact wpIn_cond_false hv' (ihd hok.2 base s k r h1 ro K L a w hs hro hb Q hq)
    · cases h
  | block id c ih =>
    intro hok R base s k r h ro K L a w hs hro hb Q hq
    simp only [evC] at h
    refine wpIn_block (ih hok base s _ r h ro K L a w hs hro hb _ fun x s' a' w' K' L' hk hs' hst => ?_)
    cases x with
    | normal => exact hq .normal s' a' w' K' L' hk hs' hst
    | exit id' =>
      simp only [exitOf, Exit.inBlock]
      rcases cnd_some hk with ⟨h1, h2⟩ | ⟨h1, h2⟩
      · have : id' = id := by simpa using h1
        simp only [this, if_true]
        exact hq .normal s' a' w' K' L' h2 hs' hst
      · have : id' ≠ id := by simpa using h1
        simp only [this, if_false]
        exact hq (.exit id') s' a' w' K' L' h2 hs' hst
    | ret => exact hq .ret s' a' w' K' L' hk hs' hst
  | loop c ih =>
    intro hok R base s k r h ro K L a w hs hro hb Q hq
    simp only [evC] at h
    obtain ⟨p, hp, hk⟩ := bnd_some h
    exact hL c hok base s p.2 p.1 hp ro K L a w hs hro hb Q fun a' w' K' L' hs' hst => hq p.1 p.2 a' w' K' L' hk hs' hst
  | rangeFunc g ps assign body _ _ =>
    intro hok R base s k r h ro K L a w hs hro hb Q hq
    simp only [evC] at h
    split at h
    · rename_i gf cap hg
      obtain ⟨p, hp, hk⟩ := bnd_some h
      obtain ⟨r1, hr1, hst1, hlent, hend⟩ := endRF_some hk
      have hgv := opd_ok hs.env g
      rw [hg] at hgv
      obtain ⟨cs, hge, hcs⟩ : ∃ cs, a.eval g = .func (.func gf) #[] cs ∧ VRs K cap cs.toList := by simpa only [TVR, VR] using hgv
      refine wpIn_rangeFunc fun fn _ => ?_
      obtain ⟨l, mark, w1, R0, hrun, hlaid, e1, e2, e3, e4, e5, e6, hmark⟩ := enter_ok (P := P) hs hro hb fn ps assign body
      have hrel : LoopRel K L { state := 0, pending := none, fn := f, e := s.e, l := s.l, params := ps.toList, assign := assign, body := body, lent := false } R0 :=
        { state := e1, pending := e2, good := ⟨hG f assign hok.1, hG f body hok.2⟩, params := by simp [e3], assign := e4, body := e5, tmps := by rw [e6]; exact hs.env }
      have hm1 := hs.mem.laid hlaid hrel rfl rfl
      have hlen : s.h.length = K.length := hs.mem.hr.1
      obtain ⟨⟨fn', h1, h2, h3⟩, hcall⟩ := hS _ _ _ _ _ hp (K ++ [.l l L false]) w1 hm1
      have hKnew : (K ++ [KB.l l L false])[s.h.length]? = some (.l l L false) := by rw [hlen, List.getElem?_append_right (Nat.le_refl _)]; simp
      have hargs : VRs (K ++ [.l l L false]) ([.yld s.h.length] ++ cap) ([.func (.yield l) #[] #[]] ++ cs.toList) := by
        refine VRs.append ?_ (VRs.mono (KM.le_append K _) _ _ hcs)
        simp only [VRs, VR]
        exact ⟨_, _, rfl, ⟨l, L, false, hKnew, rfl⟩, rfl⟩
      have hc := hcall _ hargs
      refine ⟨l, mark, w1, { target := .fn (.func gf) cs, args := #[.func (.yield l) #[] #[]] }, w1, gf, #[.func (.yield l) #[] #[]] ++ cs, w1, hrun, ?_, fun _ _ => trivial, ?_, by simp [FW], ?_⟩
      · simp only [resolve, hge]
        simp [Deferred.ofValue, go_sem]
      · simp [invoke, run_callFunc h1 h2 h3]
      · have earr : ([Value.func (.yield l) #[] #[]] ++ cs.toList).toArray = #[Value.func (.yield l) #[] #[]] ++ cs := by apply Array.ext'; simp
        rw [← earr]
        refine CallsIn.mono (callsIn_ro hc) fun e w' he => ?_
        cases e with
        | panicked ch => exact he.elim
        | outgrown => exact he.elim
        | returned y =>
          obtain ⟨K', _, hm', hst⟩ := he
          rw [hlen] at hr1 hend
          obtain ⟨kl, R', hK', hR', hrel', hm2, hst2, hD2⟩ := hs.mem.back hlaid hst hm' hr1 hlent
          have hnb : R'.state ≠ .busy := by
            rw [hrel'.state]
            generalize r1.state = n at hst1
            match n, hst1 with
            | 0, _ => simp [stateOf]
            | 1, h => exact absurd rfl h
            | 2, _ => simp [stateOf]
            | n + 3, _ => simp [stateOf]
          have hsb : SB base (K'.set K.length (.l l kl true)) kl ⟨s.e, r1.l, p.2.set K.length (.loop { r1 with state := 3, lent := true })⟩ { a with defers := mark ++ a.defers } (w'.putObj l (.loop { R' with state := .exhausted })) := by
            refine ⟨hs.env.mono hst2.kle hst2.lle, hm2, ?_⟩
            have hmk := hs.marks.step hst2
            rcases hmark with rfl | ⟨rfl, hdef, hne⟩
            · exact hmk
            · obtain ⟨Ds, e, hnd, hDs⟩ := hs.marks
              obtain ⟨Ds', e', hnd', hDs'⟩ := hmk
              have : Ds' = Ds := by
                rw [e] at e'
                have := congrArg (List.map fun d : Deferred => match d.target with | .collected D => D | _ => 0) e'
                simpa [List.map_map, Function.comp_def] using this.symm
              subst this
              refine ⟨w.heap.size :: Ds', by simp [e], List.nodup_cons.2 ⟨fun hin => ?_, hnd⟩, fun D hDin => ?_⟩
              · have := (hDs _ hin).2.1
                have := (Array.getElem?_eq_some_iff.1 this).1
                omega
              · rcases List.mem_cons.1 hDin with rfl | hDin
                · have hown : ∀ o, ¬ OwnBy K L o w.heap.size := fun o ho => by have := hs.mem.inv.lt _ _ ho; omega
                  obtain ⟨h5, h6⟩ := hD2 w.heap.size (Array.getElem?_eq_some_iff.1 hdef).1 (Ne.symm hne) hown
                  exact ⟨hb, h5.trans hdef, h6⟩
                · exact hDs' D hDin
          have hrl := run_endLoop (P := P) hR' hnb
          obtain ⟨W, hW⟩ : ∃ W, w'.putObj l (.loop { R' with state := .exhausted }) = W := ⟨_, rfl⟩
          rw [hW] at hrl hsb hst2
          refine ⟨R'.pending, W, hrl, ?_⟩
          rcases hend with ⟨hp1, hk1⟩ | ⟨hp1, hk1⟩ | ⟨id, hp1, hk1⟩
          · rw [hrel'.pending, hp1]
            exact hq .normal _ _ _ _ _ hk1 hsb hst2
          · rw [hrel'.pending, hp1]
            exact wpIn_ret (hq .ret _ _ _ _ _ hk1 hsb hst2)
          · rw [hrel'.pending, hp1]
            exact wpIn_exit (hq (.exit id) _ _ _ _ _ hk1 hsb hst2)
    · cases h

/-- A loop. -/
theorem loopN_ok (hT : TypesOk P) {X : Env} (hX : X.ty = tyOf P) {C : CallSem} (hS : Spec P C) {D : FuncId → Nat → Array Oper → Prop} (hD : DrawSpec P X C D)
    (hG : ∀ f c, CodeOk (D f) c → Good.ok f c) (f : FuncId) (n : Nat) : LSpec P (D f) (loopN X C f n) := by
  have key : ∀ m (c : Code), CodeOk (D f) c → ∀ (base : Nat) (s s' : St) (x : Ex), loopN X C f m c s = some (x, s') →
        ∀ (ro : Option Nat) (K : KM) (L : KL) (a : Act) (w : World), SB base K L s a w → InR K ro → base ≤ w.heap.size →
        ∀ Q : Exit → Act → World → Prop, (∀ a' w' K' L', SB base K' L' s' a' w' → Step K L w K' L' w' → Q (exitOf x) a' w') → Code.roundsIn (FW ro) 0 P c Q m a w := by
    intro m
    induction m with
    | zero => intro c _ base s s' x h; simp [loopN] at h
    | succ m ih =>
      intro c hok base s s' x h ro K L a w hs hro hb Q hq
      simp only [loopN, loopBody] at h
      have hLm : LSpec P (D f) (loopN X C f m) := fun c hok base s s' x h ro K L a w hs hro hb Q hq => wpIn_loop_rounds m (ih c hok base s s' x h ro K L a w hs hro hb Q hq)
      rw [roundsIn_succ]
      refine evC_ok hT hX hS hD hG hLm c hok base s _ (x, s') h ro K L a w hs hro hb _ fun x1 s1 a1 w1 K1 L1 hk hs1 hst1 => ?_
      cases x1 with
      | normal => exact ih c hok base s1 s' x hk ro K1 L1 a1 w1 hs1 (hro.mono hst1.kle) (Nat.le_trans hb hst1.size) Q fun a2 w2 K2 L2 hs2 hst2 => hq a2 w2 K2 L2 hs2 (hst1.trans hst2)
      | exit id => cases hk; exact hq a1 w1 K1 L1 hs1 hst1
      | ret => cases hk; exact hq a1 w1 K1 L1 hs1 hst1
  exact fun c hok base s s' x h ro K L a w hs hro hb Q hq => wpIn_loop_rounds n (key n c hok base s s' x h ro K L a w hs hro hb Q hq)

end Go.Ev
