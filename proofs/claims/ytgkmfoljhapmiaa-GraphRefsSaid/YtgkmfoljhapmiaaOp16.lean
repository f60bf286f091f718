/-
Calls: a function's body, a loop's round; by fuel.
-/
import Derived.Test.YtgkmfoljhapmiaaOp15
set_option linter.unusedSimpArgs false
set_option linter.unusedVariables false
namespace Go.Ev
variable [Good] {P : Program} {K : KM} {L : KL} {w : World}

omit [Good] in
theorem setArgs_ok {ps : List Tmp} {vs : List V} {ys : List Value} : ∀ {e : List TV} {t : Array Value}, ER K L e t → VRs K vs ys → ER K L (setArgs e ps vs) ((ps.zip ys).foldl (fun t (p : Tmp × Value) => t.setIfInBounds p.1 p.2) t) := by
  induction ps generalizing vs ys with
  | nil => intro e t he _; simpa [setArgs] using he
  | cons p ps ih =>
    intro e t he hv
    cases vs with
    | nil =>
      simp only [VRs] at hv
      subst hv
      simpa [setArgs] using he
    | cons v vs =>
      simp only [VRs] at hv
      obtain ⟨y, ys', rfl, h1, h2⟩ := hv
      simp only [setArgs, List.zip_cons_cons, List.foldl_cons]
      exact ih (he.put p (v := .v v) h1) h2

omit [Good] in
theorem params_fold (ps : List Tmp) (ys : List Value) (t : Array Value) :
    ((ps.toArray.zip ys.toArray).foldl (fun tmps (x : Tmp × Value) => match x with | (t, a) => tmps.setIfInBounds t a) t) = (ps.zip ys).foldl (fun t (p : Tmp × Value) => t.setIfInBounds p.1 p.2) t := by
  simp

omit [Good] in
theorem beginRound_some {l : Nat} {s s' : St} (h : beginRound l s = some s') : ∃ r, s.h[l]? = some (.loop r) ∧ r.state = 0 ∧ s' = { s with h := s.h.set l (.loop { r with state := 1 }) } := by
  unfold beginRound at h
  split at h
  · rename_i r hr
    obtain ⟨h1, h2⟩ := grd_some h
    cases h2
    exact ⟨r, hr, h1, rfl⟩
  · cases h

/-- The record of a loop that is lent. -/
theorem lent_rec {base : Nat} {s : St} {a : Act} (hs : SB base K L s a w) {b B : Nat} {kl : KL} (hK : K[b]? = some (.l B kl true)) {r : LoopR} (hr : s.h[b]? = some (.loop r)) :
    ∃ R, w.heap[B]? = some (.loop R) ∧ LoopRel K kl r R ∧ r.lent = true ∧ B < w.heap.size := by
  obtain ⟨e, he, hb⟩ := hs.mem.hr.2 b _ hr
  obtain ⟨B1, kl1, heq, R, hR, hrel, _⟩ := hb
  rw [hK, heq] at he
  simp only [Option.some.injEq, KB.l.injEq] at he
  obtain ⟨rfl, rfl, h⟩ := he
  exact ⟨R, hR, hrel, h.symm, (Array.getElem?_eq_some_iff.1 hR).1⟩

theorem evRound_ok (hT : TypesOk P) {X : Env} (hX : X.ty = tyOf P) {C : CallSem} (hS : Spec P C) {D : FuncId → Nat → Array Oper → Prop} (hD : DrawSpec P X C D)
    (hG : ∀ f c, Good.ok f c ↔ CodeOk (D f) c) {Lp : FuncId → LoopSem} (hL : ∀ f, LSpec P (D f) (Lp f)) {l : Nat} {args : List V} {h : Heap} {v : V} {h' : Heap}
    (hev : evRound X C Lp l args h = some (v, h')) (hm : Mem K [] [] h w) : CallOk P K w (.yld l) args v h' := by
  unfold evRound at hev
  split at hev
  · rename_i r hr
    obtain ⟨⟨hlen, hlent⟩, hev⟩ := grd_some hev
    intro B kl t R ys hK hR hys
    obtain ⟨e, he, hb⟩ := hm.hr.2 l _ hr
    obtain ⟨B1, kl1, heq, R1, hR1, hrel, hlr⟩ := hb
    rw [hK, heq] at he
    simp only [Option.some.injEq, KB.l.injEq] at he
    obtain ⟨rfl, rfl, ht⟩ := he
    rw [hR] at hR1
    cases hR1
    rw [hlent] at ht
    subst ht
    refine ⟨by rw [hys.length, hrel.params]; simpa using hlen, ?_⟩
    refine roundIn_of_wpIn (F := FW none) trivial ?_
    have hm1 := hm.lend hr hlent hK hrel hR (hlr hlent)
    have hle1 : KM.le K (K.set l (.l B kl true)) := KM.le_loop hK
    have hs1 : SB w.heap.size (K.set l (.l B kl true)) kl ⟨setArgs r.e r.params args, r.l, h.set l (.loop { r with lent := true })⟩
        { tmps := (R.params.zip ys.toArray).foldl (fun tmps (t, a) => tmps.setIfInBounds t a) R.tmps, defers := [] } w := by
      refine ⟨?_, hm1, ⟨[], rfl, List.nodup_nil, fun D hD => by cases hD⟩⟩
      rw [hrel.params]
      show ER _ _ _ ((r.params.toArray.zip ys.toArray).foldl _ R.tmps)
      rw [params_fold]
      exact setArgs_ok (hrel.tmps.mono hle1 (KL.le_refl kl)) (VRs.mono hle1 _ _ hys)
    have hIn : InR (K.set l (.l B kl true)) (some B) := ⟨l, kl, true, set_get hK⟩
    rw [hrel.assign, hrel.body]
    refine evC_ok hT hX hS hD (fun f c => (hG f c).2) (hL r.fn) r.assign ((hG _ _).1 hrel.good.1) w.heap.size _ _ (v, h') hev (some B) _ _ _ _ hs1 hIn (Nat.le_refl _) _ fun x s2 a2 w2 K2 L2 hk hs2 hst2 => ?_
    cases x with
    | exit id => cases hk
    | ret => cases hk
    | normal =>
      obtain ⟨s3, h3, hk3⟩ := bnd_some hk
      obtain ⟨r2, hr2, hst, rfl⟩ := beginRound_some h3
      obtain ⟨kl2, hK2, hkl2, _⟩ := hst2.loops l B kl true (set_get hK)
      have := hkl2 rfl
      subst this
      obtain ⟨R2, hR2, hrel2, hlent2, hlt2⟩ := lent_rec hs2 hK2 hr2
      have hready : R2.state = .ready := by rw [hrel2.state, hst]; rfl
      have hrel3 : LoopRel K2 kl2 { r2 with state := 1 } { R2 with state := .busy } := { hrel2 with state := rfl }
      obtain ⟨hm3, hst3⟩ := hs2.mem.state hr2 (r' := { r2 with state := 1 }) hlent2 hK2 hlt2 hrel3
      refine ⟨_, run_beginRound hR2 hready, ?_⟩
      have hs3 : SB w.heap.size K2 L2 { s2 with h := s2.h.set l (.loop { r2 with state := 1 }) } a2 (w2.putObj B (.loop { R2 with state := .busy })) :=
        ⟨hs2.env, hm3, hs2.marks.step hst3⟩
      have hst13 := hst2.trans hst3
      refine evC_ok hT hX hS hD (fun f c => (hG f c).2) (hL r.fn) r.body ((hG _ _).1 hrel.good.2) w.heap.size _ _ (v, h') hk3 (some B) K2 L2 a2 _ hs3 ⟨l, kl2, true, hK2⟩ hst13.size _ fun x s4 a4 w4 K4 L4 hk4 hs4 hst4 => ?_
      have hst14 := hst13.trans hst4
      unfold endRound at hk4
      split at hk4
      · rename_i r4 hr4
        obtain ⟨kl4, hK4, hkl4, _⟩ := hst4.loops l B kl2 true hK2
        have := hkl4 rfl
        subst this
        obtain ⟨R4, hR4, hrel4, hlent4, hlt4⟩ := lent_rec hs4 hK4 hr4
        have htm : ER K4 L4 r4.e R4.tmps := hrel4.tmps.mono (KM.le_refl _) hst14.lle
        have fin : ∀ (n : Nat) (jump : Option Code), stateOf n = (if jump.isNone then .ready else .done) →
            some (V.bool jump.isNone, s4.h.set l (.loop { r4 with state := n, pending := jump, l := s4.l, lent := false })) = some (v, h') →
            ∃ v' w', (Instr.endRound B jump).run P w4 = .ok v' w' ∧ Post K w v h' (.returned v') w' := by
          intro n jump hn heq
          cases heq
          have hrel5 : LoopRel K4 L4 { r4 with state := n, pending := jump, l := s4.l, lent := false } { R4 with state := if jump.isNone then .ready else .done, pending := jump } :=
            { state := hn.symm, pending := rfl, good := hrel4.good, params := hrel4.params, assign := hrel4.assign, body := hrel4.body, tmps := htm }
          obtain ⟨hm5, hst5⟩ := Mem.unlend hK hst14 hs4.mem hr4 hrel5 rfl rfl
          exact ⟨_, _, run_endRound jump hR4, _, by simp [VR], hm5, hst5⟩
        cases x with
        | normal => exact fin 0 none rfl hk4
        | ret => exact fin 2 (some .ret) rfl hk4
        | exit id => exact fin 2 (some (.exit id)) rfl hk4
      · cases hk4
  · cases hev

/-! A function's body. -/

omit [Good] in
theorem run_cell {t : TypeId} {xv y : Value} (h : (Instr.loadAt t xv).run P w = .ok y w) : (do loadVar t (← asAddr xv) : Sem Value).run P w = .ok y w := by
  cases xv with
  | pointer p =>
    cases p with
    | none => simp [Instr.loadAt, Instr.sureAddr, stuck, Sem.run] at h
    | some a => simpa [Instr.loadAt, Instr.sureAddr, asAddr] using h
  | _ => simp [Instr.loadAt, Instr.sureAddr, stuck, Sem.run] at h

/-- One result. -/
def resM (tmps : Array Value) : ResultVar → Sem Value
  | .tmp t => pure (tmps.getD t undef)
  | .cell a t => do loadVar t (← asAddr (tmps.getD a undef))

omit [Good] in
theorem results_eq (fn : Func) (tmps : Array Value) : Go.results fn tmps = (do let vs ← fn.results.mapM (resM tmps); pure (if h : vs.size = 1 then vs[0] else .tuple vs)) := rfl

theorem results_list {X : Env} (hX : X.ty = tyOf P) {s : St} {tmps : Array Value} (he : ER K L s.e tmps) (hm : Mem K L s.l s.h w) :
    ∀ (rs : List ResultVar) (vs : List V), results X s rs = some vs → ∃ ys, (rs.mapM (resM tmps)).run P w = .ok ys w ∧ VRs K vs ys
  | [], vs, h => by
    simp only [results] at h
    cases h
    exact ⟨[], by simp, rfl⟩
  | .tmp t :: rs, vs, h => by
    simp only [results] at h
    split at h
    · rename_i x hx
      obtain ⟨l, hl, hR⟩ := bnd_some h
      cases hR
      obtain ⟨ys, h1, h2⟩ := results_list hX he hm rs l hl
      have hv : VR K x (tmps.getD t undef) := by
        by_cases hlt : t < s.e.length
        · obtain ⟨y, hy, hv⟩ := he.2 t s.e[t] (by simp [hlt])
          have hgt : getT s.e t = s.e[t] := by simp [getT, List.getD, hlt]
          rw [← hgt, hx] at hv
          have : tmps.getD t undef = y := by simp [Array.getD_eq_getD_getElem?, hy]
          rw [this]; exact hv
        · have hgt : getT s.e t = .u := by simp [getT, List.getD, hlt]
          rw [hgt] at hx; cases hx
      refine ⟨tmps.getD t undef :: ys, ?_, by simp only [VRs]; exact ⟨_, _, rfl, hv, h2⟩⟩
      simp only [List.mapM_cons, resM, Sem.run_bind, Sem.run_pure, Result.andThen]
      rw [h1]
    · cases h
  | .cell a t :: rs, vs, h => by
    simp only [results] at h
    obtain ⟨x, hx, h'⟩ := bnd_some h
    obtain ⟨l, hl, hR⟩ := bnd_some h'
    cases hR
    obtain ⟨ys, h1, h2⟩ := results_list hX he hm rs l hl
    rw [hX] at hx
    have ht : TVR K L (getT s.e a) (tmps.getD a undef) := by
      by_cases hlt : a < s.e.length
      · obtain ⟨y, hy, hv⟩ := he.2 a s.e[a] (by simp [hlt])
        have hgt : getT s.e a = s.e[a] := by simp [getT, List.getD, hlt]
        have : tmps.getD a undef = y := by simp [Array.getD_eq_getD_getElem?, hy]
        rw [this, hgt]; exact hv
      · have hgt : getT s.e a = .u := by simp [getT, List.getD, hlt]
        rw [hgt] at hx
        simp [load] at hx
    obtain ⟨y, hy, hv⟩ := load_ok (P := P) hx ht hm
    refine ⟨y :: ys, ?_, by simp only [VRs]; exact ⟨_, _, rfl, hv, h2⟩⟩
    have := run_cell hy
    simp only [List.mapM_cons, resM, Sem.run_bind, Sem.run_pure, Result.andThen] at this ⊢
    rw [this]
    simp only [h1]

omit [Good] in
theorem resV_ok {vs : List V} {ys : List Value} (h : VRs K vs ys) : VR K (resV vs) (if h : ys.toArray.size = 1 then ys.toArray[0] else .tuple ys.toArray) := by
  match vs, ys, h with
  | [], ys, h =>
    simp only [VRs] at h
    subst h
    simp [resV, VR, VRs]
  | [v], ys, h =>
    simp only [VRs] at h
    obtain ⟨y, _, rfl, h1, rfl⟩ := h
    simpa [resV] using h1
  | v :: u :: vs, ys, h =>
    have hl := h.length
    have hne : ¬ ys.toArray.size = 1 := by simp [hl]
    rw [dif_neg hne]
    simp only [resV, VR]
    exact ⟨_, rfl, by simpa using h⟩

omit [Good] in
theorem run_results {fn : Func} {tmps : Array Value} {ys : List Value} {rs : List ResultVar} (hr : fn.results.toList = rs)
    (h : (rs.mapM (resM tmps)).run P w = .ok ys w) :
    (Go.results fn tmps).run P w = .ok (if h : ys.toArray.size = 1 then ys.toArray[0] else .tuple ys.toArray) w := by
  rw [results_eq]
  subst hr
  rw [Array.mapM_eq_mapM_toList]
  simp only [Sem.run_bind, Sem.run_map, h, Result.andThen, Sem.run_pure]

omit [Good] in
/-- The marks are come to. -/
theorem leaves_ok {fn : Func} {tmps : Array Value} {R : Ending → World → Prop} : ∀ (Ds : List Nat) (w : World), (∀ D ∈ Ds, w.heap[D]? = some (.deferred (some []))) → Ds.Nodup →
    (∀ w', w'.heap.size = w.heap.size → (∀ B, B ∉ Ds → w'.heap[B]? = w.heap[B]?) → w'.os = w.os → w'.tape = w.tape → w'.output = w.output → LeavesIn (FW none) 0 P fn tmps R [] .returning w') →
    LeavesInM (FW none) 0 P fn tmps R (Ds.map fun D => { target := .collected D, args := #[] }) .returning w
  | [], w, _, _, h => h w rfl (fun _ _ => rfl) rfl rfl rfl
  | D :: Ds, w, hd, hn, h => by
    obtain ⟨hn1, hn2⟩ := List.nodup_cons.1 hn
    refine ⟨by simp, .inl ⟨D, _, rfl, run_takeDeferred (hd D (by simp)), ?_⟩⟩
    refine leaves_ok Ds _ (fun D' hD' => ?_) hn2 fun w' h1 h2 h3 h4 h5 => ?_
    · have hne : D' ≠ D := fun e => hn1 (e ▸ hD')
      rw [World.putObj_heap_other hne]
      exact hd D' (by simp [hD'])
    · refine h w' (by simpa using h1) (fun B hB => ?_) h3 h4 h5
      rw [h2 B fun hB' => hB (by simp [hB']), World.putObj_heap_other fun e => hB (by simp [e])]

def FuncsOk (P : Program) : Prop := ∀ (f : FuncId) (fn : Func), P.funcs[f]? = some fn → fn.body.isSome = true → (fn.name == "runtime.NumGoroutine") = false

theorem evBody_ok (hT : TypesOk P) (hF : FuncsOk P) {X : Env} (hX : X.ty = tyOf P) (hXb : X.body = bodyOf P) {C : CallSem} (hS : Spec P C) {D : FuncId → Nat → Array Oper → Prop} (hD : DrawSpec P X C D)
    (hB : ∀ f b, bodyOf P f = some b → CodeOk (D f) b.1) (hG : ∀ f c, Good.ok f c ↔ CodeOk (D f) c) {Lp : FuncId → LoopSem} (hL : ∀ f, LSpec P (D f) (Lp f)) {f : FuncId} {cap args : List V} {h : Heap} {v : V} {h' : Heap}
    (hev : evBody X C Lp f (args ++ cap) h = some (v, h')) (hm : Mem K [] [] h w) : CallOk P K w (.fn f cap) args v h' := by
  unfold evBody at hev
  split at hev
  · rename_i b hb
    rw [hXb] at hb
    have hok := hB f b hb
    obtain ⟨fn, c, hfn, hc, rfl⟩ : ∃ fn c, P.funcs[f]? = some fn ∧ fn.body = some c ∧ b = (c, fn.ntmps, fn.results.toList) := by
      unfold bodyOf at hb
      split at hb
      · rename_i fn hfn
        split at hb
        · rename_i c hc
          cases hb; exact ⟨fn, c, hfn, hc, rfl⟩
        · cases hb
      · cases hb
    refine ⟨⟨fn, hfn, by simp [hc], hF f fn hfn (by simp [hc])⟩, fun ys hys => ?_⟩
    refine callsIn_of_wp_marks hfn hc trivial ?_
    have hno : ∀ o B, OwnBy K (List.replicate (X.nslots f) (0, 0)) o B → OwnBy K [] o B := by
      intro o B ho
      cases o with
      | loc s =>
        obtain ⟨ver, h1, h2⟩ := ho
        rw [List.getElem?_replicate] at h1
        split at h1
        · cases h1; omega
        · cases h1
      | blk b => exact ho
      | lloc b s => exact ho
    have hm0 : Mem K (List.replicate (X.nslots f) (0, 0)) (List.replicate (X.nslots f) (0, [])) h w := by
      refine ⟨⟨by simp, fun s ver c hsc => ?_⟩, hm.hr, ⟨fun o o' B h1 h2 => hm.inv.inj o o' B (hno o B h1) (hno o' B h2), fun o B h1 => hm.inv.lt o B (hno o B h1), fun b g B S N hb => ⟨(hm.inv.ro b g B S N hb).1, fun o ho => (hm.inv.ro b g B S N hb).2 o (hno o B ho)⟩⟩⟩
      rw [List.getElem?_replicate] at hsc
      split at hsc
      · rename_i hlt
        cases hsc
        exact ⟨0, by rw [List.getElem?_replicate, if_pos hlt], fun h => absurd h (by omega)⟩
      · cases hsc
    have hs0 : SB w.heap.size K (List.replicate (X.nslots f) (0, 0)) ⟨(args ++ cap).map .v ++ List.replicate (fn.ntmps - (args ++ cap).length) .u, List.replicate (X.nslots f) (0, []), h⟩
        { tmps := ys.toArray ++ Array.replicate (fn.ntmps - ys.toArray.size) undef, defers := [] } w := by
      refine ⟨⟨by simp [hys.length]; omega, fun i x hx => ?_⟩, hm0, ⟨[], rfl, List.nodup_nil, fun D hD => by cases hD⟩⟩
      have hl := hys.length
      rcases Nat.lt_or_ge i (args ++ cap).length with hi | hi
      · rw [List.getElem?_append_left (by simpa using hi), List.getElem?_map] at hx
        cases hv : (args ++ cap)[i]? with
        | none => rw [hv] at hx; cases hx
        | some u =>
          rw [hv] at hx
          cases hx
          obtain ⟨y, hy, h2⟩ := hys.get i u hv
          refine ⟨y, ?_, h2⟩
          show (ys.toArray ++ Array.replicate (fn.ntmps - ys.toArray.size) undef)[i]? = some y
          rw [Array.getElem?_append_left (by simp [hl]; simpa using hi)]
          simpa using hy
      · rw [List.getElem?_append_right (by simpa using hi), List.getElem?_replicate] at hx
        split at hx
        · rename_i hlt
          cases hx
          refine ⟨undef, ?_, rfl⟩
          have hsz : ys.toArray.size = (args ++ cap).length := by simp [hl]
          show (ys.toArray ++ Array.replicate (fn.ntmps - ys.toArray.size) undef)[i]? = some undef
          rw [Array.getElem?_append_right (by rw [hsz]; exact hi), hsz, Array.getElem?_replicate]
          simp only [List.length_map] at hlt
          rw [if_pos hlt]
        · cases hx
    have hq : ∀ x s' a' w' K' L', (match x with | Ex.exit _ => none | _ => bnd (results X s' fn.results.toList) fun vs => some (resV vs, s'.h)) = some (v, h') → SB w.heap.size K' L' s' a' w' →
        Step K (List.replicate (X.nslots f) (0, 0)) w K' L' w' → (∀ id, x ≠ Ex.exit id) → LeavesInM (FW none) 0 P fn a'.tmps (Post K w v h') a'.defers .returning w' := by
      intro x s' a' w' K' L' hk hs' hst hx
      obtain ⟨vs, hvs, hk⟩ : ∃ vs, results X s' fn.results.toList = some vs ∧ some (resV vs, s'.h) = some (v, h') := by
        cases x with
        | exit id => exact absurd rfl (hx id)
        | normal => exact bnd_some hk
        | ret => exact bnd_some hk
      cases hk
      obtain ⟨Ds, hds, hnd, hDs⟩ := hs'.marks
      rw [hds]
      refine leaves_ok Ds w' (fun D hD => (hDs D hD).2.1) hnd fun w2 h1 h2 h3 h4 h5 => ?_
      have hm2 : Mem K' L' s'.l s'.h w2 := hs'.mem.keep (Nat.le_of_eq h1.symm) fun B hB hd => h2 B fun hin => hd _ (hDs B hin).2.1
      obtain ⟨zs, h6, h7⟩ := results_list hX hs'.env hm2 _ _ hvs
      refine ⟨_, run_results rfl h6, K', resV_ok h7, hm2.drop, ?_⟩
      refine ⟨hst.kle, KL.le_refl [], by rw [h1]; exact hst.size, fun B hB hn => ?_, fun o B ho => ?_, h3.trans hst.os, h4.trans hst.tape, h5.trans hst.output, hst.ros, hst.loops⟩
      · rw [h2 B fun hin => by have := (hDs B hin).1; omega]
        exact hst.same B hB fun o ho => hn o (hno o B ho)
      · exact (hst.own o B (own_nil ho L')).imp id fun ⟨o', h8⟩ => ⟨o', hno o' B h8⟩
    refine evC_ok hT hX hS hD (fun f c => (hG f c).2) (hL f) c hok w.heap.size _ _ (v, h') hev none K _ _ w hs0 trivial (Nat.le_refl _) _ fun x s' a' w' K' L' hk hs' hst => ?_
    cases x with
    | exit id => cases hk
    | normal => exact hq .normal s' a' w' K' L' hk hs' hst (by simp)
    | ret => exact hq .ret s' a' w' K' L' hk hs' hst (by simp)
  · cases hev

/-- THE INTERPRETER's CALLS ARE THE MODEL's. -/
theorem callN_ok (hT : TypesOk P) (hF : FuncsOk P) {X : Env} (hX : X.ty = tyOf P) (hXb : X.body = bodyOf P) {D : FuncId → Nat → Array Oper → Prop} (hD : ∀ C, Spec P C → DrawSpec P X C D)
    (hB : ∀ f b, bodyOf P f = some b → CodeOk (D f) b.1) (hG : ∀ f c, Good.ok f c ↔ CodeOk (D f) c)
    (hP : ∀ f b, X.pin f = some b → ∀ (K : KM) (w : World) (h : Heap), Mem K [] [] h w → CallOk P K w (.fn f []) [] (.bool b) h) : ∀ n, Spec P (callN X n)
  | 0 => fun fv args h v h' hc => by simp [callN] at hc
  | n + 1 => by
    intro fv args h v h' hc K w hm
    have ih := callN_ok hT hF hX hXb hD hB hG hP n
    have hL : ∀ f, LSpec P (D f) (loopN X (callN X n) f n) := fun f => loopN_ok hT hX ih (hD _ ih) (fun f c => (hG f c).2) f n
    simp only [callN, callBody] at hc
    split at hc
    · split at hc
      · rename_i b hb
        split at hc
        · cases hc; exact hP _ _ hb K w _ hm
        · cases hc
      · exact evBody_ok hT hF hX hXb ih (hD _ ih) hB hG hL hc hm
    · exact evRound_ok hT hX ih (hD _ ih) hG hL hc hm
    · cases hc

end Go.Ev
