/-
From the interpreter's calls to the model's: the contracts; the caller's memory behind a call; blocks that nobody owns.
-/
import Derived.Test.YtgkmfoljhapmiaaOp11
import Derived.TacticsIn
import Derived.RangeFuncRecord
import Derived.RangeFuncNested
set_option linter.unusedSimpArgs false
set_option linter.unusedVariables false
namespace Go.Ev
variable [Good] {P : Program} {K : KM} {L : KL} {w : World}

/-- The fence that lets every function in; within a round, or not. -/
def FW (ro : Option Nat) : Fence := { fn := fun _ => True, depth := none, alive := false, round := ro }

omit [Good] in
theorem FW_none : FW none = Fence.wide := rfl

/-- The round's loop is known. -/
def InR (K : KM) : Option Nat → Prop
  | none => True
  | some B => ∃ (l : Nat) (kl : KL) (t : Bool), K[l]? = some (KB.l B kl t)

omit [Good] in
theorem InR.mono {K K' : KM} (hle : KM.le K K') {ro : Option Nat} (h : InR K ro) : InR K' ro := by
  cases ro with
  | none => trivial
  | some B =>
    obtain ⟨l, kl, t, h⟩ := h
    obtain ⟨e, he, kl', t', rfl⟩ := hle l _ h
    exact ⟨l, kl', t', he⟩

/-- Marks at blocks from a base on. -/
def MarksB (base : Nat) (K : KM) (L : KL) (ds : List Deferred) (w : World) : Prop :=
  ∃ Ds : List Nat, ds = Ds.map (fun D => { target := .collected D, args := #[] }) ∧ Ds.Nodup ∧ ∀ D ∈ Ds, base ≤ D ∧ w.heap[D]? = some (.deferred (some [])) ∧ ∀ o, ¬ OwnBy K L o D

structure SB (base : Nat) (K : KM) (L : KL) (s : St) (a : Act) (w : World) : Prop where
  env : ER K L s.e a.tmps
  mem : Mem K L s.l s.h w
  marks : MarksB base K L a.defers w

omit [Good] in
theorem MarksB.marks {base : Nat} {ds : List Deferred} (h : MarksB base K L ds w) : Marks K L ds w :=
  let ⟨Ds, h1, h2, h3⟩ := h; ⟨Ds, h1, h2, fun D hD => (h3 D hD).2⟩

omit [Good] in
theorem MarksB.step {base : Nat} {K K' : KM} {L L' : KL} {w w' : World} {ds : List Deferred} (h : MarksB base K L ds w) (hs : Step K L w K' L' w') : MarksB base K' L' ds w' := by
  obtain ⟨Ds, rfl, hn, hd⟩ := h
  refine ⟨Ds, rfl, hn, fun D hD => ?_⟩
  obtain ⟨h0, h1, h2⟩ := hd D hD
  have hlt : D < w.heap.size := (Array.getElem?_eq_some_iff.1 h1).1
  refine ⟨h0, (hs.same D hlt h2).trans h1, fun o ho => ?_⟩
  rcases hs.own o D ho with h3 | ⟨o', h3⟩
  · omega
  · exact h2 o' h3

theorem SB.sr {base : Nat} {s : St} {a : Act} (h : SB base K L s a w) : SR K L s a w := ⟨h.env, h.mem, h.marks.marks⟩

/-! What lies at a block that is used is no list of deferred calls. -/

theorem BR.uses_not {x : Blk} {e : KB} (h : BR K w x e) {B : Nat} (hu : e.uses B) {d : Option (List Deferred)} : w.heap[B]? ≠ some (.deferred d) := by
  cases x with
  | cells g k c =>
    obtain ⟨B', S, N, rfl, c', ty, fr, h1, _⟩ := h
    cases hu; rw [h1]; simp
  | map ex es c =>
    obtain ⟨B', rfl, ents, clk, es', h1, _⟩ := h
    cases hu; rw [h1]; simp
  | loop r =>
    obtain ⟨B', L', rfl, R, h1, h2, h3⟩ := h
    rcases hu with rfl | ⟨ht, s, ver, hs, hv⟩
    · rw [h1]; simp
    · obtain ⟨hl, h4⟩ := h3 ht
      have hlt : s < r.l.length := by rw [hl]; exact (List.getElem?_eq_some_iff.1 hs).1
      obtain ⟨B2, h5, h6⟩ := h4 s (r.l[s]).1 (r.l[s]).2 (by simp [hlt])
      rw [hs] at h5; cases h5
      obtain ⟨c', ty, h7, _⟩ := h6 hv
      rw [h7]; simp

/-- The world turns only where nothing that is used lies. -/
theorem Mem.keep {l : Locs} {h : Heap} (hm : Mem K L l h w) {w' : World} (hsz : w.heap.size ≤ w'.heap.size)
    (hs : ∀ B, B < w.heap.size → (∀ d, w.heap[B]? ≠ some (.deferred d)) → w'.heap[B]? = w.heap[B]?) : Mem K L l h w' := by
  refine ⟨hm.lr.keep (KM.le_refl K) fun s ver B hB hv => ?_, ⟨hm.hr.1, fun b x hx => ?_⟩, ⟨hm.inv.inj, fun o B ho => Nat.lt_of_lt_of_le (hm.inv.lt o B ho) hsz, fun b g B S N hb => ?_⟩⟩
  · refine hs B (hm.inv.lt (.loc s) B ⟨ver, hB, hv⟩) fun d => ?_
    have hlt : s < l.length := by rw [hm.lr.1]; exact (List.getElem?_eq_some_iff.1 hB).1
    obtain ⟨B2, h5, h6⟩ := hm.lr.2 s (l[s]).1 (l[s]).2 (by simp [hlt])
    rw [hB] at h5; cases h5
    obtain ⟨c', ty, h7, _⟩ := h6 hv
    rw [h7]; simp
  · obtain ⟨e, he, hb⟩ := hm.hr.2 b x hx
    exact ⟨e, he, hb.keep (KM.le_refl K) fun B hB => hs B (hm.inv.uses he hB).2 fun d => hb.uses_not hB⟩
  · obtain ⟨h1, h2⟩ := hm.inv.ro b g B S N hb
    exact ⟨Nat.lt_of_lt_of_le h1 hsz, h2⟩

/-! The frame's own memory left out, and taken in again behind a call. -/

omit [Good] in
theorem own_nil {o : Owner} {B : Nat} (h : OwnBy K [] o B) (L : KL) : OwnBy K L o B := by
  cases o with
  | loc s => obtain ⟨ver, h, _⟩ := h; simp at h
  | blk b => exact h
  | lloc b s => exact h

omit [Good] in
theorem own_nil_loc {s B : Nat} : ¬ OwnBy K [] (.loc s) B := fun ⟨ver, h, _⟩ => by simp at h

theorem Mem.drop {l : Locs} {h : Heap} (hm : Mem K L l h w) : Mem K [] [] h w :=
  ⟨⟨rfl, fun s ver c h => by simp at h⟩, hm.hr, ⟨fun o o' B h1 h2 => hm.inv.inj o o' B (own_nil h1 L) (own_nil h2 L), fun o B h1 => hm.inv.lt o B (own_nil h1 L),
    fun b g B S N hb => ⟨(hm.inv.ro b g B S N hb).1, fun o ho => (hm.inv.ro b g B S N hb).2 o (own_nil ho L)⟩⟩⟩

theorem Mem.join {K' : KM} {w' : World} {l : Locs} {h h' : Heap} (hm : Mem K L l h w) (hst : Step K [] w K' [] w') (hm' : Mem K' [] [] h' w') :
    Mem K' L l h' w' ∧ Step K L w K' L w' := by
  have hcase : ∀ o B, OwnBy K' L o B → OwnBy K L o B ∨ OwnBy K' [] o B := by
    intro o B ho
    cases o with
    | loc s => exact .inl ho
    | blk b => exact .inr ho
    | lloc b s => exact .inr ho
  have hno : ∀ s B, OwnBy K L (.loc s) B → ∀ o, ¬ OwnBy K [] o B := fun s B hs o ho => by
    have := hm.inv.inj _ _ _ (own_nil ho L) hs
    subst this
    exact own_nil_loc ho
  have hno' : ∀ s B, OwnBy K L (.loc s) B → ∀ o, ¬ OwnBy K' [] o B := fun s B hs o ho => by
    rcases hst.own o B ho with h1 | ⟨o', h1⟩
    · have := hm.inv.lt _ _ hs; omega
    · exact hno s B hs o' h1
  refine ⟨⟨hm.lr.keep hst.kle fun s ver B hB hv => hst.same B (hm.inv.lt (.loc s) B ⟨ver, hB, hv⟩) (hno s B ⟨ver, hB, hv⟩), hm'.hr, ⟨fun o o' B h1 h2 => ?_, fun o B h1 => ?_, fun b g B S N hb => ?_⟩⟩, ?_⟩
  · cases o with
    | loc s =>
      cases o' with
      | loc s' => exact hm.inv.inj _ _ _ h1 h2
      | blk b => exact absurd h2 (hno' s B h1 (.blk b))
      | lloc b s' => exact absurd h2 (hno' s B h1 (.lloc b s'))
    | blk b =>
      cases o' with
      | loc s' => exact absurd h1 (hno' s' B h2 (.blk b))
      | blk b' => exact hm'.inv.inj (.blk b) (.blk b') B h1 h2
      | lloc b' s' => exact hm'.inv.inj (.blk b) (.lloc b' s') B h1 h2
    | lloc b s =>
      cases o' with
      | loc s' => exact absurd h1 (hno' s' B h2 (.lloc b s))
      | blk b' => exact hm'.inv.inj (.lloc b s) (.blk b') B h1 h2
      | lloc b' s' => exact hm'.inv.inj (.lloc b s) (.lloc b' s') B h1 h2
  · cases o with
    | loc s => exact Nat.lt_of_lt_of_le (hm.inv.lt (.loc s) _ h1) hst.size
    | blk b => exact hm'.inv.lt (.blk b) B h1
    | lloc b s => exact hm'.inv.lt (.lloc b s) B h1
  · refine ⟨(hm'.inv.ro b g B S N hb).1, fun o ho => ?_⟩
    cases o with
    | loc s => exact (hm.inv.ro b g B S N (hst.ros b g B S N hb)).2 (.loc s) ho
    | blk b' => exact (hm'.inv.ro b g B S N hb).2 (.blk b') ho
    | lloc b' s => exact (hm'.inv.ro b g B S N hb).2 (.lloc b' s) ho
  · refine ⟨hst.kle, KL.le_refl L, hst.size, fun B hB hn => hst.same B hB fun o ho => hn o (own_nil ho L), fun o B ho => ?_, hst.os, hst.tape, hst.output, hst.ros, hst.loops⟩
    cases o with
    | loc s => exact .inr ⟨.loc s, ho⟩
    | blk b => exact (hst.own (.blk b) B ho).imp id fun ⟨o', h1⟩ => ⟨o', own_nil h1 L⟩
    | lloc b s => exact (hst.own (.lloc b s) B ho).imp id fun ⟨o', h1⟩ => ⟨o', own_nil h1 L⟩

/-! The contracts. -/

def Post (K : KM) (w : World) (v : V) (h' : Heap) : Ending → World → Prop
  | .returned y, w' => ∃ K', VR K' v y ∧ Mem K' [] [] h' w' ∧ Step K [] w K' [] w'
  | _, _ => False

def CallOk (P : Program) (K : KM) (w : World) (fv : V) (args : List V) (v : V) (h' : Heap) : Prop :=
  match fv with
  | .fn f cap => (∃ fn, P.funcs[f]? = some fn ∧ fn.body.isSome = true ∧ (fn.name == "runtime.NumGoroutine") = false) ∧
      ∀ ys, VRs K (args ++ cap) ys → CallsIn (FW none) 0 P f ys.toArray w (Post K w v h')
  | .yld l => ∀ B kl t R ys, K[l]? = some (.l B kl t) → w.heap[B]? = some (.loop R) → VRs K args ys →
      ys.length = R.params.size ∧ RoundIn (FW none) 0 P B R.fn ((R.params.zip ys.toArray).foldl (fun tmps (t, a) => tmps.setIfInBounds t a) R.tmps) R.assign R.body w (Post K w v h')
  | _ => False

def Spec (P : Program) (C : CallSem) : Prop := ∀ fv args h v h', C fv args h = some (v, h') → ∀ K w, Mem K [] [] h w → CallOk P K w fv args v h'

omit [Good] in
theorem run_callFunc {f : FuncId} {fn : Func} (h1 : P.funcs[f]? = some fn) (h2 : fn.body.isSome = true) (h3 : (fn.name == "runtime.NumGoroutine") = false) (args : Array Value) (w : World) :
    (callFunc f args).run P w = .ok (.enter f args) w := by
  have h4 : fn.body ≠ none := by cases hb : fn.body <;> simp_all
  have h5 : fn.name ≠ "runtime.NumGoroutine" := by simpa using h3
  simp [callFunc, h1, h5, h4]

/-! Temporaries written. -/

omit [Good] in
theorem ER.put {e : List TV} {t : Array Value} (he : ER K L e t) (d : Nat) {v : TV} {y : Value} (hv : TVR K L v y) : ER K L (e.set d v) (t.setIfInBounds d y) := by
  refine ⟨by simp [he.1], fun i x hx => ?_⟩
  rw [List.getElem?_set] at hx
  by_cases h : d = i
  · subst h
    simp only [if_true] at hx
    split at hx
    · rename_i hlt
      cases hx
      exact ⟨y, by simp [he.1 ▸ hlt], hv⟩
    · cases hx
  · simp only [h, if_false] at hx
    obtain ⟨z, hz, h2⟩ := he.2 i x hx
    exact ⟨z, by rw [Array.getElem?_setIfInBounds_ne h]; exact hz, h2⟩

omit [Good] in
theorem ER.putD {e : List TV} {a : Act} (he : ER K L e a.tmps) (d : Option Tmp) {v : TV} {y : Value} (hv : TVR K L v y) : ER K L (setT e d v) (a.put d y).tmps := by
  cases d with
  | none => exact he
  | some d => exact he.put d hv

omit [Good] in
theorem put_defers (a : Act) (d : Option Tmp) (y : Value) : (a.put d y).defers = a.defers := by cases d <;> rfl

omit [Good] in
/-- A guard. -/
theorem wanted_ok {ops : List Oper} {e : List TV} {t : Array Value} {o : Oper} {b : Bool} (h : wantedT ops e o.guard = some b) (he : ER K L e t) :
    Region.wanted o (yielded ops.toArray t) = b := by
  unfold wantedT at h
  unfold Region.wanted
  cases hg : o.guard with
  | none => rw [hg] at h; simpa using h
  | some jw =>
    obtain ⟨j, want⟩ := jw
    rw [hg] at h
    simp only at h ⊢
    have hops : (ops.toArray[j]?) = ops[j]? := by simp
    simp only [yielded, hops]
    cases hd : (ops[j]?).bind (·.dst) with
    | none => rw [hd] at h; simpa using h
    | some d =>
      rw [hd] at h
      simp only [Option.bind_some] at h ⊢
      by_cases hlt : d < e.length
      · obtain ⟨y, hy, hv⟩ := he.2 d e[d] (by simp [hlt])
        have hgt : getT e d = e[d] := by simp [getT, List.getD, hlt]
        rw [hgt] at h
        rw [hy]
        cases hx : e[d] with
        | v x =>
          rw [hx] at h hv
          cases x with
          | bool b' =>
            simp only [TVR, VR] at hv
            subst hv
            simp only [Option.some.injEq] at h
            subst h
            cases b' <;> cases want <;> rfl
          | _ =>
            have hnb : ∀ b', y ≠ .bool b' := by
              intro b' e'
              subst e'
              simp only [TVR, VR] at hv
              first
                | (cases hv; done)
                | (obtain ⟨_, hv, _⟩ := hv; cases hv; done)
                | (obtain ⟨_, _, hv⟩ := hv; cases hv; done)
                | (obtain ⟨_, _, _, _, hv⟩ := hv; cases hv; done)
                | (rename_i a _ _ _; cases a <;> simp only [SlR] at hv
                   · obtain ⟨_, _, _, hv⟩ := hv; cases hv
                   · obtain ⟨_, _, hv, _⟩ := hv; cases hv
                   · obtain ⟨_, _, _, _, _, hv⟩ := hv; cases hv)
            simp only [Option.some.injEq] at h
            subst h
            cases y <;> first | rfl | exact absurd rfl (hnb _)
        | lp s ver o =>
          rw [hx] at h hv
          obtain ⟨_, _, _, _, _, _, rfl, _⟩ := hv
          simpa using h
        | ls s ver o n =>
          rw [hx] at h hv
          obtain ⟨_, _, _, _, _, _, _, rfl, _⟩ := hv
          simpa using h
        | u =>
          rw [hx] at h hv
          simp only [TVR] at hv
          subst hv
          simpa [undef] using h
        | bad => rw [hx] at h; simp at h
      · have hgt : getT e d = .u := by simp [getT, List.getD, hlt]
        rw [hgt] at h
        have hn : t[d]? = none := by
          rw [Array.getElem?_eq_none_iff, ← he.1]
          exact Nat.not_lt.1 hlt
        rw [hn]
        simpa using h

end Go.Ev
