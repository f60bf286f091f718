/-
From the interpreter's answer at all arguments to a row's step.
-/
import Derived.Test.YtgkmfoljhapmiaaArg
import Derived.ProofKit
import Derived.Carry
import Derived.ChangeOld
import Derived.ChangeCalls
set_option linter.unusedSimpArgs false
set_option linter.unusedVariables false
namespace Go.Ev
open Go.ChangeShapes Go.WideShapes Go.ChangeAt Go.RowKit

/-- An argument's value, of its cells. -/
def argV (T : TypeId → TI) (t : TypeId) (xs : List V) : V := match (T t).kind with
  | some true => .agg xs
  | _ => xs.headD .nilp

/-- Arguments' values. -/
def argVs (T : TypeId → TI) : List TypeId → List (List V) → List V
  | t :: ts, xs :: xss => argV T t xs :: argVs T ts xss
  | _, _ => []

/-- All arguments are plain data. -/
def FitsAll (T : TypeId → TI) (h : Heap) (d : Nat) : List TypeId → List (List V) → Prop
  | [], [] => True
  | t :: ts, xs :: xss => Fits T h d t xs ∧ FitsAll T h d ts xss
  | _, _ => False

section
variable {H : Type} {enc : TypeId × Value → H} {P : Program} {w : World}

theorem argV_ok {K : KM} {base : Nat} {d n : Nat} {t : TypeId} {v : Value} {x : DataW H × List MemPlace} {xs : List V} (hp : plainT (tyOf P) d t = true) (hval : Value.okWide P w .any base t v)
    (hx : DataW.trod enc P w 0 (fun _ => true) true n t v.cells.toList = some x) (hv : VRs K xs v.cells.toList) (hc : xs.all isCell = true) : VR K (argV (tyOf P) t xs) v := by
  cases d with
  | zero => cases hp
  | succ d =>
    unfold plainT at hp
    have one : ∀ (y : Value), v = y → y.cells = #[y] → (tyOf P t).kind = some false → VR K (argV (tyOf P) t xs) v := by
      intro y e hy hk
      subst e
      rw [hy] at hv
      unfold argV
      rw [hk]
      cases xs with
      | nil => simp [VRs] at hv
      | cons a r =>
        simp only [VRs] at hv
        obtain ⟨y, ys, h1, h2, h3⟩ := hv
        simp at h1
        obtain ⟨rfl, rfl⟩ := h1
        exact h2
    have agg : (∃ cs, v = .agg cs) → (tyOf P t).kind = some true → VR K (argV (tyOf P) t xs) v := by
      intro ⟨cs, e⟩ hk
      subst e
      unfold argV
      rw [hk]
      simp only [VR]
      exact ⟨cs, rfl, hv, hc⟩
    split at hp
    · rename_i hd
      obtain ⟨u, hu, hdu⟩ := desc_of hd (by simp)
      cases u <;> simp only [descOf] at hdu <;> try (cases hdu)
      obtain ⟨b, rfl⟩ := okWide_bool hu hval
      exact one _ rfl rfl (by simp [TI.kind, hd])
    · rename_i k hd
      obtain ⟨u, hu, hdu⟩ := desc_of hd (by simp)
      cases u <;> simp only [descOf] at hdu <;> try (cases hdu)
      obtain ⟨b, rfl⟩ := okWide_int hu hval
      exact one _ rfl rfl (by simp [TI.kind, hd])
    · rename_i hd
      obtain ⟨u, hu, hdu⟩ := desc_of hd (by simp)
      cases u <;> simp only [descOf] at hdu <;> try (cases hdu)
      obtain ⟨b, rfl⟩ := okWide_string hu hval
      exact one _ rfl rfl (by simp [TI.kind, hd])
    · rename_i e hd
      obtain ⟨u, hu, hdu⟩ := desc_of hd (by simp)
      cases u <;> simp only [descOf] at hdu <;> try (cases hdu)
      obtain ⟨a, l, c, rfl⟩ := okWide_slice hu hval
      exact one _ rfl rfl (by simp [TI.kind, hd])
    · rename_i fs hd
      obtain ⟨u, hu, hdu⟩ := desc_of hd (by simp)
      cases u <;> simp only [descOf] at hdu <;> try (cases hdu)
      obtain ⟨cs, rfl, _⟩ := okWide_struct hu hval
      exact agg ⟨cs, rfl⟩ (by simp [TI.kind, hd])
    · rename_i k e hd
      obtain ⟨u, hu, hdu⟩ := desc_of hd (by simp)
      cases u <;> simp only [descOf] at hdu <;> try (cases hdu)
      have hval' := hval
      simp only [Value.okWide, hu] at hval'
      obtain ⟨cs, rfl, _⟩ := hval'
      exact agg ⟨cs, rfl⟩ (by simp [TI.kind, hd])
    · cases hp

theorem args_ok [Good] {base d : Nat} : ∀ {ts : List TypeId} {vs : List Value} {ds : List (DataW H)} {ps : List MemPlace}, DataW.TrodAll enc P w 0 (fun _ => true) true ts vs ds ps →
    (∀ (j : Nat) t v, ts[j]? = some t → vs[j]? = some v → Value.okWide P w .any base t v) → ts.all (plainT (tyOf P) d) = true → ∀ K hp, Mem K [] [] hp w → RoK K →
    ∃ (K' : KM) (hp' : Heap) (xss : List (List V)), Mem (K ++ K') [] [] (hp ++ hp') w ∧ RoK (K ++ K') ∧ VRs (K ++ K') (argVs (tyOf P) ts xss) vs ∧ FitsAll (tyOf P) (hp ++ hp') d ts xss
  | [], vs, ds, ps, h, hval, hp, K, h0, hm, hro => by
    obtain ⟨rfl, _, _⟩ := trodAll_nil h
    exact ⟨[], [], [], by simpa using hm, by simpa using hro, by simp [argVs, VRs], trivial⟩
  | t :: ts, vs, ds, ps, h, hval, hp, K, h0, hm, hro => by
    obtain ⟨v, vs, dd, ds, p, q, rfl, rfl, rfl, hd, hr⟩ := trodAll_cons h
    simp only [List.all_cons, Bool.and_eq_true] at hp
    obtain ⟨n, hn⟩ := hd
    have hv0 := hval 0 t v rfl rfl
    obtain ⟨K1, hp1, xs, hm1, hro1, hv1, hf1, hc1⟩ := got_of (P := P) d t hp.1 n _ _ hn (.inr trivial) K h0 hm hro
    obtain ⟨K2, hp2, xss, hm2, hro2, hv2, hf2⟩ := args_ok hr (fun j t v h1 h2 => hval (j + 1) t v (by simpa using h1) (by simpa using h2)) hp.2 (K ++ K1) (h0 ++ hp1) hm1 hro1
    refine ⟨K1 ++ K2, hp1 ++ hp2, xs :: xss, by simpa using hm2, by simpa using hro2, ?_, ?_⟩
    · simp only [argVs, VRs]
      refine ⟨v, vs, rfl, ?_, by simpa using hv2⟩
      rw [← List.append_assoc]
      exact VR.mono (KM.le_apps _ _) _ _ (argV_ok hp.1 hv0 hn hv1 hc1)
    · simp only [FitsAll]
      refine ⟨?_, by simpa using hf2⟩
      rw [← List.append_assoc]
      exact hf1.mono _

theorem trodAll_lt {base : Nat} {spare : Nat → Bool} {held : Bool} : ∀ {ts : List TypeId} {vs : List Value} {ds : List (DataW H)} {ps : List MemPlace}, DataW.TrodAll enc P w base spare held ts vs ds ps → ∀ p ∈ ps, p.block < w.heap.size
  | [], vs, ds, ps, h, p, hp => by obtain ⟨_, _, rfl⟩ := trodAll_nil h; cases hp
  | t :: ts, vs, ds, ps, h, p, hp => by
    obtain ⟨v, vs, dd, ds, p1, q, rfl, rfl, rfl, hd, hr⟩ := trodAll_cons h
    obtain ⟨n, hn⟩ := hd
    rcases List.mem_append.1 hp with hp | hp
    · exact DataW.trod_lt n _ _ _ hn p hp
    · exact trodAll_lt hr p hp

/-- The arguments read behind the call as they read before. -/
theorem trodAll_behind (hl : laidOutB P = true) {W W' : World} (hb : Below W.heap.size W W') : ∀ {ts : List TypeId} {vs : List Value} {ds : List (DataW H)} {ps : List MemPlace},
    ts.all (fun t => P.readableRec t && decide (t < P.types.size)) = true → DataW.TrodAll enc P W 0 (fun _ => true) true ts vs ds ps → DataW.TrodAll enc P W' 0 (fun b => decide (b < W.heap.size)) true ts vs ds ps
  | [], vs, ds, ps, _, h => by
    obtain ⟨rfl, rfl, rfl⟩ := trodAll_nil h
    exact trodAll_mk0
  | t :: ts, vs, ds, ps, hr, h => by
    obtain ⟨v, vs, dd, ds, p, q, rfl, rfl, rfl, hd, hrest⟩ := trodAll_cons h
    simp only [List.all_cons, Bool.and_eq_true, decide_eq_true_eq] at hr
    exact trodAll_cons_mk (Below.trod hl hr.1.1 hr.1.2 hd hb (by obtain ⟨n, hn⟩ := hd; exact DataW.trod_lt n _ _ _ hn)) (trodAll_behind hl hb hr.2 hrest)

/-- A row's step. -/
theorem lifted_of {C : Checked} {X : Env} (hfit : Fit C.prog X) {f : FuncId} {fn : Func} {s : ChangeSpec} {os : Os} {conds : List PathCond} (d : Nat) {tb : TypeId}
    (own : ownKnob C.prog.godebug = none) (started : os.Started) (noInit : C.prog.inits.idxOf? f = none) (hfn : C.prog.funcs[f]? = some fn)
    (witness : ∃ (w : World) (tape : Tape) (i : Input), w.os = os ∧ (w.forCall tape i).Shaped C.prog ∧ i.vars = [] ∧ Input.okWide C.prog (w.forCall tape i) .any w.heap.size f i ∧
      s.pre6 enc C.prog fn conds false (w.forCall tape i).memory i.args ∧ ({} : Assume).holds C.prog (lone (Frame.enter C.prog f i.args .normal) [] (w.forCall tape i)))
    (hl : laidOutB C.prog = true) (hvars : s.vars = []) (hspec : ∀ ds : List (DataW H), ds.length = fn.params.size → s.fn H ds = { results := [.lit (.bool true)], args := ds })
    (hres : fn.resultTypes = #[tb]) (hb : C.prog.underlying tb = some .bool)
    (hps : fn.params.toList.all (fun t => C.prog.readableRec t && decide (t < C.prog.types.size)) = true) (hpl : fn.params.toList.all (plainT (tyOf C.prog) d) = true)
    (law : ∀ (hp : Heap) (xss : List (List V)), FitsAll (tyOf C.prog) hp d fn.params.toList xss → ∃ h', D X (.fn f []) (argVs (tyOf C.prog) fn.params.toList xss) hp = some (.bool true, h')) :
    ReturnsInHanded {} C os f .any (s.pre6 enc C.prog fn conds false) (s.post enc C.prog fn false true false false) := by
  refine returnsInHanded_of_change own started noInit hfn witness ?_
  intro W base args ds gs before hval hW hcnd _
  have hW' := hW
  obtain ⟨p, q, hA, hV, rfl, hfz, hnd⟩ := hW
  rw [hvars] at hV
  obtain ⟨rfl, rfl⟩ := trodVars_none hV
  letI := goodOf X
  obtain ⟨hm0, hro0⟩ := mem_nil W
  obtain ⟨K, hp, xss, hm, hro, hvs, hft⟩ := args_ok hA (fun j t v h1 h2 => hval j t v (by simpa using h1) (by simpa using h2)) hpl [] [] hm0 hro0
  simp only [List.nil_append] at hm hro hvs hft
  obtain ⟨h', hD⟩ := law hp xss hft
  refine ((hfit.law hD hm hro hvs).mono fun e W' ⟨he, bel⟩ => ?_)
  rw [he]
  have hlen : ds.length = fn.params.size := by
    have := (trodAll_length hA).2
    simpa using this
  refine ⟨_, rfl, ds, [], p ++ [], [], p, [], hW', ?_, ?_, ?_, bel.frame _, fun h => by cases h⟩
  · rw [hres, List.append_nil, hspec ds hlen]
    exact trodAll_mk1 (shut_bool hb _)
  · rw [List.append_nil, hspec ds hlen]
    exact trodAll_behind hl bel hps hA
  · rw [List.append_nil, hspec ds hlen, hvars]
    exact rfl
end
end Go.Ev
