/-
A region whose order is open: any order leads where the plan leads.
-/
import Derived.Test.YtgkmfoljhapmiaaOp19
set_option linter.unusedSimpArgs false
set_option linter.unusedVariables false
namespace Go.Ev
variable {X : Env} {C : CallSem} {f : FuncId} {ops : Array Oper}

theorem st_eq {s t : St} (h1 : s.e = t.e) (h2 : s.l = t.l) (h3 : s.h = t.h) : s = t := by
  cases s; cases t; simp_all

theorem agree_put {o : Oper} {s : St} {d : Option Tmp} {v : TV} (h : ∀ t, d = some t → t ∉ o.looksAt ops) : Agree ops o s.e (s.put d v).e := agree_set h

theorem put_comm {s : St} {d d' : Option Tmp} {v u0 : TV} (h : ∀ t, d = some t → d' ≠ some t) : (s.put d v).put d' u0 = (s.put d' u0).put d v := by
  exact st_eq (show setT (setT s.e d v) d' u0 = setT (setT s.e d' u0) d v from setT_comm h) rfl rfl

/-- May two operations, the first of them ahead in the plan, be changed about? -/
def okCls : Cls → List Nat → Cls → List Nat → Bool
  | .N, _, _, _ => true
  | _, _, .N, _ => true
  | .L, _, .L, _ => true
  | .L, _, .C, _ => true
  | .L, _, .H, _ => true
  | .L, sa, .S k, _ => !sa.elem k
  | .S k, _, .L, sq => !sq.elem k
  | .S _, _, .C, _ => true
  | .C, _, .S _, _ => true
  | .S k, _, .S k', _ => decide (k ≠ k')
  | _, _, _, _ => false

/-- A look into a map, and the making of the very entry. -/
def mapPair (a q : Oper) : Bool :=
  match a.op, q.op with
  | .lookup t (.tmp m) (.tmp k) false, .mapEntry t' (.tmp m') (.tmp k') => decide (t = t') && decide (m = m') && decide (k = k')
  | _, _ => false

theorem mapPair_some {a q : Oper} (h : mapPair a q = true) : ∃ t m k, a.op = .lookup t (.tmp m) (.tmp k) false ∧ q.op = .mapEntry t (.tmp m) (.tmp k) := by
  unfold mapPair at h
  split at h
  · rename_i t m k t' m' k' h1 h2
    simp only [Bool.and_eq_true, decide_eq_true_eq] at h
    obtain ⟨⟨rfl, rfl⟩, rfl⟩ := h
    exact ⟨t, m, k, h1, h2⟩
  · cases h

theorem vsame_plainC {k : V} (h : plainC k = true) : vsame k k = true := by
  cases k <;> simp only [plainC, Bool.false_eq_true] at h <;> simp [vsame, strEq]
theorem vsames_plain : ∀ {cs : List V}, cs.all plainC = true → vsames cs cs = true
  | [], _ => by simp [vsames]
  | c :: cs, h => by
    simp only [List.all_cons, Bool.and_eq_true] at h
    simp only [vsames, vsame_plainC h.1, vsames_plain h.2, Bool.and_self]
theorem vsame_plain {k : V} (h : plainV k = true) : vsame k k = true := by
  cases k with
  | agg cs => simp only [vsame]; exact vsames_plain h
  | bool b => exact vsame_plainC (k := .bool b) h
  | int q b => exact vsame_plainC (k := .int q b) h
  | str b => exact vsame_plainC (k := .str b) h
  | _ => simp [plainV, plainC] at h

theorem lookup_entry {T : TypeId → TI} {t : TypeId} {m k : TV} {s : St} {v : TV} (h : lookupV T t m k false s = some v) {r : TV × St} (h2 : entryV T t m k s = some r) : lookupV T t m k false r.2 = some v := by
  unfold entryV at h2
  unfold lookupV at h ⊢
  split at h2 <;> first | (cases h2; done) | skip
  rename_i kt el b k hd
  simp only [hd] at h ⊢
  split at h2
  · rename_i es c hb
    obtain ⟨z, hz, h2⟩ := bnd_some' h2
    obtain ⟨hk, h2⟩ := grd_some' h2
    rw [hb] at h
    simp only [lookupIn, hz] at h ⊢
    change grd _ _ = _ at h
    obtain ⟨_, h⟩ := grd_some' h
    cases hf : findM k es with
    | some e =>
      rw [hf] at h h2
      simp only [Option.some.injEq] at h2
      subst h2
      simp only [hb]
      show grd _ _ = _
      unfold grd
      rw [if_pos hk, hf]; exact h
    | none =>
      rw [hf] at h h2
      simp only [Option.some.injEq] at h2
      subst h2
      have hlt := (List.getElem?_eq_some_iff.1 hb).1
      simp only [List.getElem?_set_self hlt]
      show grd _ _ = _
      have hk0 := hk
      unfold keyOk at hk
      simp only [Bool.and_eq_true, decide_eq_true_eq] at hk
      have hvs := vsame_plain hk.1.1.1
      have hk2 : keyOk T kt k (es ++ [(k, z, c)]) = true := by
        unfold keyOk
        simp only [Bool.and_eq_true, decide_eq_true_eq, List.all_append, List.all_cons, List.all_nil, Bool.and_true]
        exact ⟨hk.1, hk.2, by rw [hvs]; exact hk.1.2⟩
      have hf2 : findM k (es ++ [(k, z, c)]) = some (k, z, c) := by
        unfold findM at hf ⊢
        rw [List.find?_append, hf]
        simp [List.find?, hvs]
      unfold grd
      rw [if_pos hk2, hf2]
      simpa [outV] using h
  · cases h2

theorem swap {a q : Oper} {ia : Nat} {sa sq : List Nat} {s s1 s2 : St} (hap : Oper.apart ops a q = true) (ha : Eff X C f ops a sa s s1) (hq : Eff X C f ops q sq s1 s2)
    (hok : okCls (cls X f a) sa (cls X f q) sq = true ∨ mapPair a q = true) (hia : ops[ia]? = some a)
    (hre : cls X f a = .L → cls X f q = .C ∨ cls X f q = .H → again X ops.toList s2 (ia, sa) = true) (hsf : cls X f a = .L → ∀ d, a.dst = some d → d ∉ Oper.looksAt ops a) :
    ∃ s1', Eff X C f ops q sq s s1' ∧ Eff X C f ops a sa s1' s2 := by
  obtain ⟨hd1, hd2, hd3⟩ := Oper.apart_spec hap
  have hd2' : ∀ t, q.dst = some t → a.dst ≠ some t := fun t h1 h2 => hd2 t h2 h1
  by_cases hNa : wantedT ops.toList s.e a.guard = some false ∨ cls X f a = .N
  · -- the first rests on its operands alone
    obtain ⟨v, rfl, hfr⟩ := eff_N ha hNa
    obtain ⟨u0, m, rfl, hme, hfe⟩ := eff_e hq
    have hag : Agree ops q (s.put a.dst v).e s.e := (agree_put hd1).symm
    have h1 := hfe s.e hag
    refine ⟨(m.we s.e).put q.dst u0, h1, ?_⟩
    have h2 := hfr ((m.we s.e).put q.dst u0) (agree_set hd3)
    have e : ((m.we s.e).put q.dst u0).put a.dst v = m.put q.dst u0 := by
      refine st_eq ?_ rfl rfl
      show setT (setT s.e q.dst u0) a.dst v = setT m.e q.dst u0
      rw [hme]; exact setT_comm hd2'
    rw [e] at h2
    exact h2
  · obtain ⟨hNa1, hNa2⟩ := not_or.1 hNa
    by_cases hNq : wantedT ops.toList s1.e q.guard = some false ∨ cls X f q = .N
    · obtain ⟨u0, rfl, hfr⟩ := eff_N hq hNq
      obtain ⟨v, m, rfl, hme, hfe⟩ := eff_e ha
      have hag : Agree ops q (m.put a.dst v).e s.e := by
        have := agree_set (ops := ops) (o := q) (e := m.e) (d := a.dst) (v := v) hd1
        rw [hme] at this
        show Agree ops q (setT m.e a.dst v) s.e
        rw [hme]; exact this.symm
      refine ⟨s.put q.dst u0, hfr s hag, ?_⟩
      have h1 := hfe (setT s.e q.dst u0) (agree_set hd3)
      have e : (m.we (setT s.e q.dst u0)).put a.dst v = (m.put a.dst v).put q.dst u0 := by
        refine st_eq ?_ rfl rfl
        show setT (setT s.e q.dst u0) a.dst v = setT (setT m.e a.dst v) q.dst u0
        rw [hme]; exact setT_comm hd2'
      rw [e] at h1
      exact h1
    · obtain ⟨hNq1, hNq2⟩ := not_or.1 hNq
      by_cases hmp : mapPair a q = true
      · obtain ⟨t, m0, k0, ea, eq⟩ := mapPair_some hmp
        rcases ha with ⟨h1, _⟩ | ⟨hwa, hla, hxa⟩
        · exact absurd h1 hNa1
        rcases hq with ⟨h1, _⟩ | ⟨hwq, hlq, hxq⟩
        · exact absurd h1 hNq1
        have hna : ∀ c, a.op = .call c → ∀ g, c.callee ≠ .value g := by intro c h; rw [ea] at h; cases h
        have hnq : ∀ c, q.op = .call c → ∀ g, c.callee ≠ .value g := by intro c h; rw [eq] at h; cases h
        have hxa' := hxa
        rw [exOp_pure hna, ea] at hxa'
        obtain ⟨ra, hra, hxa'⟩ := bnd_some' hxa'
        obtain ⟨v, hv, hra⟩ := bnd_some' (x := lookupV X.ty t (opd s.e (.tmp m0)) (opd s.e (.tmp k0)) false s) hra
        injection hra with hra
        subst hra
        injection hxa' with hxa'
        subst hxa'
        obtain ⟨u0, m, rfl, hme, hfe⟩ := eff_e (.inr ⟨hwq, hlq, hxq⟩ : Eff X C f ops q sq (s.put a.dst v) s2)
        have hag : Agree ops q (s.put a.dst v).e s.e := (agree_put hd1).symm
        have h1 := hfe s.e hag
        have h1' : Eff X C f ops q sq s ((m.we s.e).put q.dst u0) := h1
        refine ⟨(m.we s.e).put q.dst u0, h1, ?_⟩
        have hag2 : Agree ops a s.e ((m.we s.e).put q.dst u0).e := agree_set hd3
        have e : ((m.we s.e).put q.dst u0).put a.dst v = m.put q.dst u0 := by
          refine st_eq ?_ rfl rfl
          show setT (setT s.e q.dst u0) a.dst v = setT m.e q.dst u0
          rw [hme]; exact setT_comm hd2'
        rw [← e]
        refine .inr ⟨hag2.2.trans hwa, (leadsT_e hag2.1).trans hla, ?_⟩
        rcases h1' with ⟨h3, _⟩ | ⟨_, _, h3⟩
        · have : wantedT ops.toList (s.put a.dst v).e q.guard = some false := hag.2.symm.trans h3
          rw [hwq] at this; cases this
        rw [exOp_pure hnq, eq] at h3
        obtain ⟨rq, hrq, h3⟩ := bnd_some' h3
        have hrq' : entryV X.ty t (opd s.e (.tmp m0)) (opd s.e (.tmp k0)) s = some rq := hrq
        injection h3 with h3
        have hh : rq.2.h = m.h := by have := congrArg St.h h3; exact this
        have hle := lookup_entry hv hrq'
        rw [exOp_pure hna, ea]
        have ho := hag2.1
        rw [ea] at ho
        simp only [Op.operands, List.mem_cons, List.not_mem_nil, or_false, forall_eq_or_imp, forall_eq] at ho
        show bnd (bnd (lookupV X.ty t (opd ((m.we s.e).put q.dst u0).e (.tmp m0)) (opd ((m.we s.e).put q.dst u0).e (.tmp k0)) false _) _) _ = _
        rw [ho.1, ho.2]
        have hl2 : lookupV X.ty t (opd s.e (.tmp m0)) (opd s.e (.tmp k0)) false ((m.we s.e).put q.dst u0) = some v := by
          rw [← hle]
          unfold lookupV
          have : ((m.we s.e).put q.dst u0).h = rq.2.h := hh.symm
          rw [this]
        rw [hl2]
        rfl
      replace hok := hok.resolve_right hmp
      cases hca : cls X f a with
      | N => exact absurd hca hNa2
      | H =>
        rw [hca] at hok
        cases hcq : cls X f q <;> rw [hcq] at hok <;> simp [okCls] at hok
        exact absurd hcq hNq2
      | L =>
        obtain ⟨v, hw, hl, hld, rfl⟩ := eff_L ha hNa1 hca
        obtain ⟨u0, m, rfl, hme, hfe⟩ := eff_e hq
        have hag : Agree ops q (s.put a.dst (.v v)).e s.e := (agree_put hd1).symm
        have h1 := hfe s.e hag
        have hag2 : Agree ops a s.e ((m.we s.e).put q.dst u0).e := agree_set hd3
        have e : ((m.we s.e).put q.dst u0).put a.dst (.v v) = m.put q.dst u0 := by
          refine st_eq ?_ rfl rfl
          show setT (setT s.e q.dst u0) a.dst (.v v) = setT m.e q.dst u0
          rw [hme]; exact setT_comm hd2'
        refine ⟨(m.we s.e).put q.dst u0, h1, ?_⟩
        rw [← e]
        refine mk_L hca (hag2.2.trans hw) ((leadsT_e hag2.1).trans hl) ?_
        -- the read gives what it gave
        have hmem : rdV X.ty a.op ((m.we s.e).put q.dst u0) = rdV X.ty a.op (m.we s.e) := rdV_we X.ty a.op (m.we s.e) _ rfl rfl hag2.1
        rw [hmem]
        cases hcq : cls X f q with
        | N => exact absurd hcq hNq2
        | L =>
          obtain ⟨v', hw', hl', hld', heq⟩ := eff_L hq hNq1 hcq
          have hml : m.l = s.l := by have := congrArg St.l heq; exact this
          have hmh : m.h = s.h := by have := congrArg St.h heq; exact this
          rw [rdV_we X.ty a.op s (m.we s.e) hml hmh fun _ _ => rfl]; exact hld
        | S k =>
          rw [hca, hcq] at hok
          have hk : sa.elem k = false := by simpa [okCls] using hok
          obtain ⟨v', y, p, hp, heq, _⟩ := eff_S hq hNq1 hcq
          have hml : m.l = s.l.set k y := by have := congrArg St.l heq; exact this
          have hmh : m.h = s.h := by have := congrArg St.h heq; exact this
          rw [rdV_we X.ty a.op ({ s with l := s.l.set k y } : St) (m.we s.e) hml hmh fun _ _ => rfl, rdV_l hl hk]; exact hld
        | _ =>
          have hag3 := hre hca (by simp [hcq])
          unfold again at hag3
          have hops : (ops.toList[ia]?) = some a := by simpa using hia
          rw [hops] at hag3
          simp only at hag3
          -- the temporaries behind both
          have he2 : (m.put q.dst u0).e = setT (setT s.e q.dst u0) a.dst (.v v) := by
            show setT m.e q.dst u0 = _
            rw [hme]; exact (setT_comm hd2').symm
          cases hdst : a.dst with
          | none =>
            exfalso
            revert hag3
            split
            · simp only [hdst]
              split <;> simp
            · rename_i hwf
              have : Agree ops a s.e (m.put q.dst u0).e := by
                rw [he2, hdst]
                exact agree_set hd3
              rw [this.2, hw] at hwf; cases hwf
            · simp
          | some d =>
            by_cases hself : d ∈ Oper.looksAt ops a
            · exact absurd hself (hsf hca d hdst)
            · have hag4 : Agree ops a s.e (m.put q.dst u0).e := by
                rw [he2, hdst]
                exact (agree_set hd3).trans (agree_set fun t ht => by cases ht; exact hself)
              rw [hag4.2, hw] at hag3
              simp only [hdst, Bool.and_eq_true] at hag3
              obtain ⟨_, hag3⟩ := hag3
              have hmem2 : rdV X.ty a.op (m.put q.dst u0) = rdV X.ty a.op (m.we s.e) := rdV_we X.ty a.op (m.we s.e) _ rfl rfl hag4.1
              rw [hmem2] at hag3
              cases hlv : rdV X.ty a.op (m.we s.e) with
              | none => rw [hlv] at hag3; simp at hag3
              | some v' =>
                rw [hlv] at hag3
                simp only at hag3
                have hgd : getT (m.put q.dst u0).e d = .v v ∨ getT (m.put q.dst u0).e d = .u := by
                  rw [he2, hdst]
                  show getT ((setT s.e q.dst u0).set d (.v v)) d = _ ∨ getT ((setT s.e q.dst u0).set d (.v v)) d = _
                  simp only [getT, List.getD_eq_getElem?_getD, List.getElem?_set, if_true]
                  split <;> simp
                rcases hgd with h5 | h5
                · rw [h5] at hag3
                  rw [vsame_eq _ _ hag3]
                · rw [h5] at hag3; simp at hag3
      | C =>
        rw [hca] at hok
        cases hcq : cls X f q with
        | N => exact absurd hcq hNq2
        | S k =>
          obtain ⟨v, h', rfl, hfa⟩ := eff_C ha hNa1 hca
          obtain ⟨u0, y, p, hp, rfl, hfq⟩ := eff_S hq hNq1 hcq
          refine ⟨({ s with l := s.l.set k y } : St).put q.dst u0, hfq s (agree_put (s := { s with h := h' }) hd1).symm hp, ?_⟩
          have h1 := hfa (({ s with l := s.l.set k y } : St).put q.dst u0) (agree_set hd3) rfl
          have e : (({ (({ s with l := s.l.set k y } : St).put q.dst u0) with h := h' } : St).put a.dst v) = (({ (({ s with h := h' } : St).put a.dst v) with l := s.l.set k y } : St).put q.dst u0) := by
            exact st_eq (show setT (setT s.e q.dst u0) a.dst v = setT (setT s.e a.dst v) q.dst u0 from setT_comm hd2') rfl rfl
          exact e ▸ h1
        | _ => rw [hcq] at hok; simp [okCls] at hok
      | S k =>
        rw [hca] at hok
        obtain ⟨v, y, p, hp, rfl, hfa⟩ := eff_S ha hNa1 hca
        cases hcq : cls X f q with
        | N => exact absurd hcq hNq2
        | H => rw [hcq] at hok; simp [okCls] at hok
        | C =>
          obtain ⟨u0, h', rfl, hfq⟩ := eff_C hq hNq1 hcq
          refine ⟨({ s with h := h' } : St).put q.dst u0, hfq s (agree_put (s := { s with l := s.l.set k y }) hd1).symm rfl, ?_⟩
          have h1 := hfa (({ s with h := h' } : St).put q.dst u0) (agree_set hd3) hp
          have e : (({ (({ s with h := h' } : St).put q.dst u0) with l := s.l.set k y } : St).put a.dst v) = (({ (({ s with l := s.l.set k y } : St).put a.dst v) with h := h' } : St).put q.dst u0) := by
            exact st_eq (show setT (setT s.e q.dst u0) a.dst v = setT (setT s.e a.dst v) q.dst u0 from setT_comm hd2') rfl rfl
          exact e ▸ h1
        | L =>
          rw [hcq] at hok
          have hk : sq.elem k = false := by simpa [okCls] using hok
          obtain ⟨v', hw', hl', hld', rfl⟩ := eff_L hq hNq1 hcq
          have hag : Agree ops q (({ s with l := s.l.set k y } : St).put a.dst v).e s.e := (agree_put (s := { s with l := s.l.set k y }) hd1).symm
          have hl2 : leadsT s.e sq q.op.operands.toList = true := (leadsT_e hag.1).trans hl'
          have hld2 : rdV X.ty q.op s = some v' := by
            have e1 : rdV X.ty q.op ({ s with l := s.l.set k y } : St) = rdV X.ty q.op (({ s with l := s.l.set k y } : St).put a.dst v) := rdV_we X.ty q.op _ _ rfl rfl hag.1
            rw [← rdV_l (c := y) hl2 hk, e1]
            exact hld'
          refine ⟨s.put q.dst (.v v'), mk_L hcq (hag.2.trans hw') hl2 hld2, ?_⟩
          have h1 := hfa (s.put q.dst (.v v')) (agree_set hd3) hp
          have e : (({ (s.put q.dst (.v v')) with l := s.l.set k y } : St).put a.dst v) = (({ s with l := s.l.set k y } : St).put a.dst v).put q.dst (.v v') := by
            exact st_eq (show setT (setT s.e q.dst (.v v')) a.dst v = setT (setT s.e a.dst v) q.dst (.v v') from setT_comm hd2') rfl rfl
          exact e ▸ h1
        | S k' =>
          rw [hcq] at hok
          have hk : k ≠ k' := by simpa [okCls] using hok
          obtain ⟨u0, y', p', hp', rfl, hfq⟩ := eff_S hq hNq1 hcq
          have hp2 : s.l[k']? = some p' := by
            have : (s.l.set k y)[k']? = some p' := hp'
            rwa [List.getElem?_set_ne hk] at this
          refine ⟨({ s with l := s.l.set k' y' } : St).put q.dst u0, hfq s (agree_put (s := { s with l := s.l.set k y }) hd1).symm hp2, ?_⟩
          have h1 := hfa (({ s with l := s.l.set k' y' } : St).put q.dst u0) (agree_set hd3) (by
            show (s.l.set k' y')[k]? = some p
            rw [List.getElem?_set_ne (Ne.symm hk)]; exact hp)
          have e : (({ (({ s with l := s.l.set k' y' } : St).put q.dst u0) with l := (s.l.set k' y').set k y } : St).put a.dst v) = (({ (({ s with l := s.l.set k y } : St).put a.dst v) with l := (s.l.set k y).set k' y' } : St).put q.dst u0) := by
            exact st_eq (show setT (setT s.e q.dst u0) a.dst v = setT (setT s.e a.dst v) q.dst u0 from setT_comm hd2') (List.set_comm _ _ (Ne.symm hk)) rfl
          exact e ▸ h1

end Go.Ev
