/-
One operation of a region; a region whose order is fixed.
-/
import Derived.Test.YtgkmfoljhapmiaaOp12
set_option linter.unusedSimpArgs false
set_option linter.unusedVariables false
namespace Go.Ev
variable [Good] {P : Program} {K : KM} {L : KL} {w : World}

theorem SB.put {base : Nat} {s : St} {a : Act} (h : SB base K L s a w) (d : Option Tmp) {v : TV} {y : Value} (hv : TVR K L v y) : SB base K L (s.put d v) (a.put d y) w :=
  ⟨h.env.putD d hv, h.mem, by rw [put_defers]; exact h.marks⟩

/-- What is left of a call. -/
theorem SB.called {base : Nat} {s : St} {a : Act} (h : SB base K L s a w) {v : V} {h' : Heap} {y : Value} {w' : World} (d : Option Tmp)
    (hp : Post K w v h' (.returned y) w') : ∃ K', SB base K' L ({ s with h := h' }.put d (.v v)) (a.put d y) w' ∧ Step K L w K' L w' := by
  obtain ⟨K', hv, hm, hst⟩ := hp
  obtain ⟨h1, h2⟩ := h.mem.join hst hm
  exact ⟨K', SB.put (s := { s with h := h' }) ⟨h.env.mono hst.kle (KL.le_refl L), h1, h.marks.step h2⟩ d hv, h2⟩

omit [Good] in
theorem callsIn_ro {ro : Option Nat} {n : Nat} {f : FuncId} {args : Array Value} {R : Ending → World → Prop} (h : CallsIn (FW none) n P f args w R) : CallsIn (FW ro) n P f args w R := h

omit [Good] in
theorem roundIn_ro {ro : Option Nat} {n : Nat} {l : Nat} {f : FuncId} {tmps : Array Value} {c d : Code} {R : Ending → World → Prop} (h : RoundIn (FW none) n P l f tmps c d w R) : RoundIn (FW ro) n P l f tmps c d w R := h

omit [Good] in
theorem exPure_no_defer {T : TypeId → TI} {sl : Option Nat} {op : Op} {s : St} {r : TV × St} (h : exPure T sl op s = some r) : ∀ c, op ≠ .defer c := by
  intro c e
  subst e
  simp [exPure] at h

theorem exOp_ok (hT : TypesOk P) {X : Env} (hX : X.ty = tyOf P) {C : CallSem} (hS : Spec P C) {f : FuncId} {o : Oper} {s s' : St} (h : exOp X C f o s = some s')
    {base : Nat} {a : Act} (hs : SB base K L s a w) (ro : Option Nat) {next : Act → World → Prop} {Q : Exit → Act → World → Prop}
    (hn : ∀ a' w' K' L', SB base K' L' s' a' w' → Step K L w K' L' w' → next a' w') : o.wpIn (FW ro) 0 P a w next Q := by
  unfold exOp at h
  refine ⟨fun _ _ => trivial, ?_⟩
  split at h
  · rename_i g args at' ho
    have hnd : ∀ c, o.op ≠ .defer c := by intro c; rw [ho]; simp
    rw [Oper.semAt_eq _ _ _ hnd]
    split at h
    · rename_i fv hfv
      obtain ⟨vs, hvs, h⟩ := bnd_some h
      obtain ⟨p, hp, h⟩ := bnd_some h
      cases h
      have hg := opd_ok hs.env g
      rw [hfv] at hg
      have hys : VRs K vs (args.toList.map a.eval) := by
        refine allV_ok (L := L) hvs (fun i x hx => ?_) (by simp)
        rw [List.getElem?_map] at hx ⊢
        cases hx' : args.toList[i]? with
        | none => rw [hx'] at hx; cases hx
        | some y =>
          rw [hx'] at hx
          cases hx
          exact ⟨a.eval y, rfl, opd_ok hs.env y⟩
      have hC := hS fv vs s.h p.1 p.2 hp K w hs.mem.drop
      cases fv with
      | fn g' cap =>
        obtain ⟨⟨fn, h1, h2, h3⟩, hcall⟩ := hC
        simp only [TVR, VR] at hg
        obtain ⟨cs, hg, hcs⟩ := hg
        have hc := hcall _ (hys.append hcs)
        have hrun : (execOp a.eval o).run P w = .ok (.enter g' (args.toList.map a.eval ++ cs.toList).toArray) w := by
          have e : (args.toList.map a.eval ++ cs.toList).toArray = args.map a.eval ++ cs := by
            apply Array.ext'; simp
          rw [e]
          simp [execOp, ho, resolve, Deferred.ofValue, hg, invoke, run_callFunc h1 h2 h3]
        rw [hrun, Oper.uponIn_enter]
        refine ⟨by simp [FW], CallsIn.mono (callsIn_ro hc) fun e w' he => ?_⟩
        cases e with
        | returned y =>
          obtain ⟨K', h4, h5⟩ := hs.called o.dst he
          exact hn _ _ _ _ h4 h5
        | panicked ch => exact he.elim
        | outgrown => exact he.elim
      | yld l =>
        simp only [TVR, VR] at hg
        obtain ⟨B, kl, t, hK, hg⟩ := hg
        have hlt : l < s.h.length := by rw [hs.mem.hr.1]; exact (List.getElem?_eq_some_iff.1 hK).1
        obtain ⟨e, he, hb⟩ := hs.mem.hr.2 l s.h[l] (by simp [hlt])
        rw [hK] at he; cases he
        obtain ⟨R, hR⟩ : ∃ R, w.heap[B]? = some (.loop R) := by
          generalize s.h[l] = x at hb
          cases x with
          | cells => obtain ⟨_, _, _, h, _⟩ := hb; cases h
          | map => obtain ⟨_, h, _⟩ := hb; cases h
          | loop r => obtain ⟨_, _, h, R, hR, _⟩ := hb; cases h; exact ⟨R, hR⟩
        obtain ⟨hsz, hround⟩ := hC B kl t R _ hK hR hys
        have hrun : (execOp a.eval o).run P w = .ok (.round B R.fn ((R.params.zip (args.toList.map a.eval).toArray).foldl (fun tmps (t, a) => tmps.setIfInBounds t a) R.tmps) R.assign R.body) w := by
          have e : (args.toList.map a.eval).toArray = args.map a.eval := by
            apply Array.ext'; simp
          rw [e]
          have := run_yield (P := P) (args := args.map a.eval) hR (by simpa using hsz)
          simp [execOp, ho, resolve, Deferred.ofValue, hg, invoke, this]
        rw [hrun, Oper.uponIn_round]
        refine ⟨by simp [FW], RoundIn.mono (roundIn_ro hround) fun e w' he => ?_⟩
        cases e with
        | returned y =>
          obtain ⟨K', h4, h5⟩ := hs.called o.dst he
          exact hn _ _ _ _ h4 h5
        | panicked ch => exact he.elim
        | outgrown => exact he.elim
      | _ => exact hC.elim
    · cases h
  · obtain ⟨r, hr, h⟩ := bnd_some h
    cases h
    rw [hX] at hr
    rw [Oper.semAt_eq _ _ _ (exPure_no_defer hr)]
    obtain ⟨n, y, w', K', L', h1, h2, h3, h4, h5, h6⟩ := exPure_ok hT hs.sr o hr
    have hsb : SB base K' L' (r.2.put o.dst r.1) (a.put o.dst y) w' :=
      SB.put ⟨by rw [h6]; exact hs.env.mono h5.kle h5.lle, h4, hs.marks.step h5⟩ o.dst h3
    rw [h1]
    rcases h2 with rfl | ⟨rfl, rfl⟩
    · rw [Oper.uponIn_value]; exact hn _ _ _ _ hsb h5
    · rw [Oper.uponIn_skip]; exact hn _ _ _ _ hsb h5

/-- A region whose order is fixed. -/
theorem exOps_ok (hT : TypesOk P) {X : Env} (hX : X.ty = tyOf P) {C : CallSem} (hS : Spec P C) {f : FuncId} {ops : List Oper} {base : Nat} (ro : Option Nat) {Q : Exit → Act → World → Prop} :
    ∀ (l : List Oper) (s s' : St) (K : KM) (L : KL) (a : Act) (w : World), exOps X C f ops l s = some s' → SB base K L s a w →
      (∀ a' w' K' L', SB base K' L' s' a' w' → Step K L w K' L' w' → Q .normal a' w') → wpListIn (FW ro) 0 P ops.toArray Q l a w
  | [], s, s', K, L, a, w, h, hs, hq => by
    simp only [exOps] at h
    cases h
    exact hq a w K L hs (Step.refl K L w)
  | o :: r, s, s', K, L, a, w, h, hs, hq => by
    simp only [exOps] at h
    obtain ⟨b, hb, h⟩ := bnd_some h
    obtain ⟨s1, h1, hR⟩ := bnd_some h
    have hwant := wanted_ok hb hs.env
    unfold wpListIn
    rw [hwant]
    rcases cnd_some h1 with ⟨rfl, h2⟩ | ⟨rfl, h2⟩
    · simp only [if_true]
      exact exOp_ok hT hX hS h2 hs ro fun a' w' K' L' hs' hst => exOps_ok hT hX hS ro r s1 s' K' L' a' w' hR hs' fun a2 w2 K2 L2 hs2 hst2 => hq a2 w2 K2 L2 hs2 (hst.trans hst2)
    · cases h2
      refine ⟨fun _ _ => trivial, ?_⟩
      exact exOps_ok hT hX hS ro r _ s' K L (a.put o.dst undef) w hR (hs.put o.dst (v := .u) rfl) hq

end Go.Ev
