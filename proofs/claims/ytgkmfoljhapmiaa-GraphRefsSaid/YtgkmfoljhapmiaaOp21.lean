/-
A region whose order is open: any order leads where the plan leads.
-/
import Derived.Test.YtgkmfoljhapmiaaOp20
import Derived.Test.YtgkmfoljhapmiaaOp16
set_option linter.unusedSimpArgs false
set_option linter.unusedVariables false
namespace Go.Ev
variable {X : Env} {C : CallSem} {f : FuncId} {ops : Array Oper}

/-- The plan, gone through. -/
def GoodRun (X : Env) (C : CallSem) (f : FuncId) (ops : Array Oper) : List PE → St → St → Prop
  | [], s, s' => s' = s
  | p :: r, s, s' => ∃ o s1, ops[p.1]? = some o ∧ Eff X C f ops o p.2.1 s s1 ∧ (∀ j ∈ p.2.2, again X ops.toList s1 j = true) ∧ GoodRun X C f ops r s1 s'

theorem exPlan_good : ∀ (π : List PE) (s s' : St), exPlan X C f ops.toList π s = some s' → GoodRun X C f ops π s s'
  | [], s, s', h => by simp only [exPlan] at h; cases h; rfl
  | p :: r, s, s', h => by
    simp only [exPlan] at h
    split at h
    · rename_i o ho
      obtain ⟨wt, hw, h1⟩ := bnd_some' h
      obtain ⟨s1, hs1, h2⟩ := bnd_some' h1
      have ho' : ops[p.1]? = some o := by simpa using ho
      have h3 : p.2.2.all (again X ops.toList s1) = true ∧ exPlan X C f ops.toList r s1 = some s' := by
        cases hb : p.2.2.all (again X ops.toList s1) with
        | true => rw [hb] at h2; exact ⟨rfl, h2⟩
        | false => rw [hb] at h2; cases h2
      refine ⟨o, s1, ho', ?_, fun j hj => List.all_eq_true.1 h3.1 j hj, exPlan_good r s1 s' h3.2⟩
      cases wt with
      | false => injection hs1 with hs1; exact .inl ⟨hw, hs1.symm⟩
      | true =>
        refine .inr ⟨hw, ?_⟩
        cases hl : leadsT s.e p.2.1 o.op.operands.toList with
        | true => rw [hl] at hs1; exact ⟨rfl, hs1⟩
        | false => rw [hl] at hs1; cases hs1
    · cases h

/-- A look again, and an operation that touches nothing of it. -/
def Still (X : Env) (f : FuncId) (ops : Array Oper) (j : Nat × List Nat) (o : Oper) : Prop :=
  ∀ oj, ops[j.1]? = some oj → (∀ d, o.dst = some d → d ∉ Oper.looksAt ops oj ∧ oj.dst ≠ some d) ∧ ∀ k, cls X f o = .S k → j.2.elem k = false

theorem again_put {j : Nat × List Nat} {o : Oper} {s : St} {v : TV} (hst : Still X f ops j o) : again X ops.toList (s.put o.dst v) j = again X ops.toList s j := by
  unfold again
  cases hj : ops.toList[j.1]? with
  | none => rfl
  | some oj =>
    have hj' : ops[j.1]? = some oj := by simpa using hj
    obtain ⟨h1, _⟩ := hst oj hj'
    have hag : Agree ops oj s.e (s.put o.dst v).e := agree_put fun d hd => (h1 d hd).1
    simp only
    rw [hag.2, leadsT_e hag.1, rdV_we X.ty oj.op s (s.put o.dst v) rfl rfl hag.1]
    split
    · congr 1
      split
      · split
        · rename_i d hd
          have hg : getT (s.put o.dst v).e d = getT s.e d := getT_setT fun t ht htd => (h1 t ht).2 (by rw [hd, htd])
          rw [hg]
        · rfl
      · rfl
    · rfl
    · rfl

theorem again_l {j : Nat × List Nat} {s : St} {k : Nat} {y : Nat × List V} (hk : j.2.elem k = false) : again X ops.toList ({ s with l := s.l.set k y } : St) j = again X ops.toList s j := by
  unfold again
  dsimp only
  cases ops.toList[j.1]? with
  | none => rfl
  | some oj =>
    dsimp only
    cases wantedT ops.toList s.e oj.guard with
    | none => rfl
    | some wt =>
      cases wt with
      | false => rfl
      | true =>
        dsimp only
        cases hl : leadsT s.e j.2 oj.op.operands.toList with
        | false => rfl
        | true => rw [rdV_l hl hk]

/-- An operation that neither calls nor writes leaves a look again as it is. -/
theorem again_eff {j : Nat × List Nat} {o : Oper} {sl : List Nat} {s s' : St} (h : Eff X C f ops o sl s s') (hst : Still X f ops j o) (hoj : ∃ oj, ops[j.1]? = some oj)
    (hc : wantedT ops.toList s.e o.guard = some false ∨ (cls X f o ≠ .C ∧ cls X f o ≠ .H)) : again X ops.toList s' j = again X ops.toList s j := by
  by_cases hw : wantedT ops.toList s.e o.guard = some false
  · obtain ⟨v, rfl, _⟩ := eff_N h (.inl hw)
    exact again_put hst
  · have hc' := hc.resolve_left hw
    cases hcl : cls X f o with
    | N =>
      obtain ⟨v, rfl, _⟩ := eff_N h (.inr hcl)
      exact again_put hst
    | L =>
      obtain ⟨v, _, _, _, rfl⟩ := eff_L h hw hcl
      exact again_put hst
    | S k =>
      obtain ⟨v, y, p, _, rfl, _⟩ := eff_S h hw hcl
      obtain ⟨oj, hoj⟩ := hoj
      rw [again_put hst]
      exact again_l ((hst oj hoj).2 k hcl)
    | C => exact absurd hcl hc'.1
    | H => exact absurd hcl hc'.2

/-- What is checked of two entries of a plan, the first of them ahead. -/
def pairOk (X : Env) (f : FuncId) (ops : Array Oper) (a q : PE) : Prop :=
  ∃ oa oq, ops[a.1]? = some oa ∧ ops[q.1]? = some oq ∧ Oper.apart ops oa oq = true ∧ (okCls (cls X f oa) a.2.1 (cls X f oq) q.2.1 = true ∨ (mapPair oa oq = true ∧ a.2.2 = [] ∧ q.2.2 = [])) ∧
    (cls X f oa = .L → cls X f oq = .C ∨ cls X f oq = .H → (a.1, a.2.1) ∈ q.2.2) ∧ (cls X f oa = .L → ∀ d, oa.dst = some d → d ∉ Oper.looksAt ops oa)

/-- What is checked of one entry. -/
def entryOk (X : Env) (f : FuncId) (ops : Array Oper) (p : PE) : Prop :=
  ∀ o, ops[p.1]? = some o → (p.2.2 ≠ [] → cls X f o = .C ∨ cls X f o = .H) ∧ ∀ j ∈ p.2.2, (∃ oj, ops[j.1]? = some oj) ∧ j.1 ≠ p.1

/-- What is checked of the looks again of one entry, and another entry. -/
def stillOk (X : Env) (f : FuncId) (ops : Array Oper) (B : Array Nat) (p q : PE) : Prop :=
  ∀ j ∈ p.2.2, ∀ o, ops[q.1]? = some o → q.1 ≠ j.1 → (B.getD j.1 0).testBit q.1 = true ∨ Still X f ops j o

/-- AN ENTRY MOVED TO THE FRONT. -/
theorem front {q : PE} {oq : Oper} (hoq : ops[q.1]? = some oq) : ∀ (α : List PE) (β : List PE) (s s' : St), GoodRun X C f ops (α ++ q :: β) s s' →
    (∀ a ∈ α, pairOk X f ops a q ∧ entryOk X f ops a ∧ ∀ j ∈ a.2.2, Still X f ops j oq) → entryOk X f ops q → (α.map (·.1)).Nodup →
    (∀ pre b r, α = pre ++ b :: r → ∀ ob, ops[b.1]? = some ob → ∀ j ∈ q.2.2, (∀ c ∈ b :: r, c.1 ≠ j.1) → Still X f ops j ob) →
    ∃ s2, Eff X C f ops oq q.2.1 s s2 ∧ (∀ j ∈ q.2.2, (∀ b ∈ α, b.1 ≠ j.1) → again X ops.toList s2 j = true) ∧ GoodRun X C f ops (α ++ β) s2 s'
  | [], β, s, s', h, _, _, _, _ => by
    obtain ⟨o, s1, ho, he, hre, hg⟩ := h
    rw [hoq] at ho; cases ho
    exact ⟨s1, he, fun j hj _ => hre j hj, hg⟩
  | a :: α, β, s, s', h, hα, hq, hnd, hst => by
    obtain ⟨oa, s1, hoa, hea, hrea, hg⟩ := h
    have hnd' : a.1 ∉ α.map (·.1) ∧ (α.map (·.1)).Nodup := List.nodup_cons.1 hnd
    obtain ⟨s2, heq, hreq, hg2⟩ := front hoq α β s1 s' hg (fun b hb => hα b (by simp [hb])) hq hnd'.2 fun pre b r e => hst (a :: pre) b r (by rw [e]; rfl)
    obtain ⟨⟨oa', oq', h1, h2, hap, hok, hL, hself⟩, hea1, hst2⟩ := hα a (by simp)
    rw [hoa] at h1; cases h1
    rw [hoq] at h2; cases h2
    have hnot : ∀ b ∈ α, b.1 ≠ a.1 := fun b hb e => hnd'.1 (List.mem_map.2 ⟨b, hb, e⟩)
    obtain ⟨s1', he1, he2⟩ := swap hap hea heq (hok.imp id fun h => h.1) hoa (fun hl hch => hreq _ (hL hl hch) hnot) hself
    refine ⟨s1', he1, fun j hj hj2 => ?_, oa, s2, hoa, he2, fun j hj => ?_, hg2⟩
    · -- the second's looks again stand where the first has not yet been
      have h3 := hreq j hj fun b hb => hj2 b (by simp [hb])
      obtain ⟨hqc, hqj⟩ := hq oq hoq
      have hqch := hqc (List.ne_nil_of_mem hj)
      rw [← again_eff he2 (hst [] a α rfl oa hoa j hj hj2) (hqj j hj).1]
      · exact h3
      · rcases hok with hok | ⟨_, _, hq0⟩
        case inr => rw [hq0] at hj; cases hj
        refine .inr ?_
        rcases hqch with hc | hc <;> rw [hc] at hok <;> cases hca : cls X f oa <;> rw [hca] at hok <;> simp [okCls] at hok <;> simp
    · have h3 := hrea j hj
      obtain ⟨hac, haj⟩ := hea1 oa hoa
      have hach := hac (List.ne_nil_of_mem hj)
      rw [again_eff heq (hst2 j hj) (haj j hj).1]
      · exact h3
      · rcases hok with hok | ⟨_, ha0, _⟩
        case inr => rw [ha0] at hj; cases hj
        refine .inr ?_
        rcases hach with hc | hc <;> rw [hc] at hok <;> cases hcq : cls X f oq <;> rw [hcq] at hok <;> simp [okCls] at hok <;> simp

/-! What an operation waits for. -/

/-- A table of what comes ahead of each: bits. -/
def tabOk (B : Array Nat) (ops : Array Oper) : Prop :=
  ∀ j o, ops[j]? = some o → (∀ e ∈ o.after, Region.binds .any e = true → e.on < j) ∧
    ∀ a, (B.getD j 0).testBit a = true → ∃ e ∈ o.after, Region.binds .any e = true ∧ (e.on = a ∨ (B.getD e.on 0).testBit a = true)

def Down (ops : Array Oper) (listed : Array Bool) : Prop :=
  ∀ j o, listed.getD j false = true → ops[j]? = some o → ∀ e ∈ o.after, Region.binds .any e = true → listed.getD e.on false = true

theorem ahead_listed {B : Array Nat} (hB : tabOk B ops) {listed : Array Bool} (hd : Down ops listed) : ∀ (n j : Nat), j < n → ∀ o, ops[j]? = some o → (∀ e ∈ o.after, Region.binds .any e = true → listed.getD e.on false = true) →
    ∀ a, (B.getD j 0).testBit a = true → listed.getD a false = true := by
  intro n
  induction n with
  | zero => intro j hj; omega
  | succ n ih =>
    intro j hj o ho hl a ha
    obtain ⟨h1, h2⟩ := hB j o ho
    obtain ⟨e, he, hb, h3⟩ := h2 a ha
    rcases h3 with rfl | h3
    · exact hl e he hb
    · have hlt := h1 e he hb
      cases hoe : ops[e.on]? with
      | none =>
        have : ops.size ≤ e.on := by rwa [Array.getElem?_eq_none_iff] at hoe
        have := (Array.getElem?_eq_some_iff.1 ho).1
        omega
      | some oe => exact ih e.on (by omega) oe hoe (fun e' he' hb' => hd e.on oe (hl e he hb) hoe e' he' hb') a h3

/-- What is checked of a plan. -/
structure PlanOk (X : Env) (f : FuncId) (ops : Array Oper) (B : Array Nat) (π : List PE) : Prop where
  len : π.length = ops.size
  nodup : (π.map (·.1)).Nodup
  lt : ∀ p ∈ π, p.1 < ops.size
  all : ∀ i, i < ops.size → i ∈ π.map (·.1)
  tab : tabOk B ops
  pairs : π.Pairwise fun a q => ((B.getD q.1 0).testBit a.1 = true ∨ pairOk X f ops a q) ∧ (∀ j ∈ a.2.2, j.1 ≠ q.1) ∧ (B.getD a.1 0).testBit q.1 = false
  lin : π.Pairwise fun a q => ∀ o, ops[a.1]? = some o → ∀ e ∈ o.after, Region.binds .any e = true → e.on ≠ q.1
  entry : ∀ p ∈ π, entryOk X f ops p
  still : ∀ p ∈ π, ∀ q ∈ π, stillOk X f ops B p q

section
variable [Good] {P : Program}

theorem any_ok (hT : TypesOk P) (hX : X.ty = tyOf P) (hS : Spec P C) {B : Array Nat} {π0 : List PE} (h0 : PlanOk X f ops B π0) {base : Nat} (ro : Option Nat) {s' : St} {Q : Exit → Act → World → Prop} :
    ∀ (fuel : Nat) (π : List PE) (listed : Array Bool) (s : St) (K : KM) (L : KL) (a : Act) (w : World), π.length = fuel → π.Sublist π0 → listed.size = ops.size →
      (∀ p ∈ π0, (listed.getD p.1 true = false ↔ p ∈ π)) → Down ops listed → GoodRun X C f ops π s s' → SB base K L s a w →
      (∀ a' w' K' L', SB base K' L' s' a' w' → Step K L w K' L' w' → Q .normal a' w') → wpAnyIn (FW ro) 0 P .any ops Q fuel listed a w := by
  intro fuel
  induction fuel with
  | zero =>
    intro π listed s K L a w hlen hsub hsz hmem hd hg hs hq
    cases π with
    | cons p r => simp at hlen
    | nil =>
      cases hg
      refine ⟨?_, hq a w K L hs (Step.refl K L w)⟩
      refine List.eq_nil_iff_forall_not_mem.2 fun i hi => ?_
      obtain ⟨h1, o, ho, _⟩ := mem_ready.1 hi
      obtain ⟨p, hp, rfl⟩ := List.mem_map.1 (h0.all i (Array.getElem?_eq_some_iff.1 ho).1)
      have := (hmem p hp).1 h1
      cases this
  | succ fuel ih =>
    intro π listed s K L a w hlen hsub hsz hmem hd hg hs hq
    refine ⟨fun hr => ?_, fun i hi => ?_⟩
    · -- the plan's first is ready
      exfalso
      cases π with
      | nil => simp at hlen
      | cons p r =>
        have hp0 : p ∈ π0 := hsub.subset (by simp)
        have hlt := h0.lt p hp0
        have ho : ops[p.1]? = some ops[p.1] := by simp [hlt]
        have : p.1 ∈ Region.ready .any ops listed := by
          refine mem_ready.2 ⟨(hmem p hp0).2 (by simp), ops[p.1], ho, fun e he hb => ?_⟩
          have hlt2 : e.on < p.1 := (h0.tab p.1 _ ho).1 e he hb
          obtain ⟨q, hq0, hqe⟩ := List.mem_map.1 (h0.all e.on (by omega))
          cases hlq : listed.getD q.1 true with
          | true =>
            have hq1 : q.1 < listed.size := by rw [hsz]; exact h0.lt q hq0
            rw [← hqe]
            simp only [Array.getD_eq_getD_getElem?, hq1, Array.getElem?_eq_getElem, Option.getD_some] at hlq ⊢
            exact hlq
          | false =>
            exfalso
            have hin := (hmem q hq0).1 hlq
            rcases List.mem_cons.1 hin with rfl | hin
            · omega
            · have hpw : (p :: r).Pairwise _ := h0.lin.sublist hsub
              exact (List.pairwise_cons.1 hpw).1 q hin _ ho e he hb hqe.symm
        rw [hr] at this
        cases this
    · obtain ⟨h1, o, ho, hall⟩ := mem_ready.1 hi
      have hlt := (Array.getElem?_eq_some_iff.1 ho).1
      obtain ⟨q, hq0, hqi⟩ := List.mem_map.1 (h0.all i hlt)
      have hqπ : q ∈ π := (hmem q hq0).1 (by rw [hqi]; exact h1)
      obtain ⟨α, β, rfl⟩ := List.append_of_mem hqπ
      have hoq : ops[q.1]? = some o := by rw [hqi]; exact ho
      have hpw : (α ++ q :: β).Pairwise _ := h0.pairs.sublist hsub
      have hnd : ((α ++ q :: β).map (·.1)).Nodup := h0.nodup.sublist (hsub.map _)
      have hnda : (α.map (·.1)).Nodup := by
        rw [List.map_append] at hnd
        exact (List.nodup_append.1 hnd).1
      have hpa := List.pairwise_append.1 hpw
      have hblisted : ∀ b ∈ α ++ q :: β, listed.getD b.1 false = false := by
        intro b hb
        have hb0 : b ∈ π0 := hsub.subset hb
        have h5 := (hmem b hb0).2 hb
        have hb1 : b.1 < listed.size := by rw [hsz]; exact h0.lt b hb0
        simp only [Array.getD_eq_getD_getElem?, hb1, Array.getElem?_eq_getElem, Option.getD_some] at h5 ⊢
        exact h5
      -- what is not yet listed comes ahead of nothing that is
      have hfree : ∀ j oj, ops[j]? = some oj → listed.getD j false = true → ∀ b ∈ α ++ q :: β, (B.getD j 0).testBit b.1 = false := by
        intro j oj hoj hj b hb
        cases hbit : (B.getD j 0).testBit b.1 with
        | false => rfl
        | true =>
          have h4 := ahead_listed h0.tab hd (j + 1) j (by omega) oj hoj (fun e he hb' => hd j oj hj hoj e he hb') b.1 hbit
          rw [hblisted b hb] at h4; cases h4
      -- an entry that is looked at again lies listed, or ahead
      have hwhere : ∀ p ∈ α ++ [q], ∀ j ∈ p.2.2, listed.getD j.1 false = true ∨ ∃ c ∈ α, c.1 = j.1 ∧ (∀ pre r, α ++ [q] = pre ++ p :: r → c ∈ pre) := by
        intro p hp j hj
        have hp1 : p ∈ α ++ q :: β := by rcases List.mem_append.1 hp with h5 | h5 <;> simp_all
        have hp0 : p ∈ π0 := hsub.subset hp1
        obtain ⟨op, hop⟩ : ∃ op, ops[p.1]? = some op := ⟨ops[p.1]'(h0.lt p hp0), by simp [h0.lt p hp0]⟩
        obtain ⟨⟨oj, hoj⟩, hjp⟩ := (h0.entry p hp0 op hop).2 j hj
        have hjlt := (Array.getElem?_eq_some_iff.1 hoj).1
        obtain ⟨c, hc0, hcj⟩ := List.mem_map.1 (h0.all j.1 hjlt)
        cases hl : listed.getD j.1 false with
        | true => exact .inl rfl
        | false =>
          right
          have hcin : c ∈ α ++ q :: β := by
            refine (hmem c hc0).1 ?_
            have hc1 : c.1 < listed.size := by rw [hsz]; exact h0.lt c hc0
            rw [← hcj] at hl
            simp only [Array.getD_eq_getD_getElem?, hc1, Array.getElem?_eq_getElem, Option.getD_some] at hl ⊢
            exact hl
          have hall2 : ∀ pre r, α ++ q :: β = pre ++ p :: r → c ∈ pre := by
            intro pre r e
            rw [e] at hcin hpw
            rcases List.mem_append.1 hcin with h5 | h5
            · exact h5
            · rcases List.mem_cons.1 h5 with h5 | h5
              · exact absurd (by rw [← h5]; exact hcj.symm) hjp
              · have := ((List.pairwise_cons.1 (List.pairwise_append.1 hpw).2.1).1 c h5).2.1 j hj
                exact absurd hcj.symm this
          have hcα : c ∈ α := by
            rcases List.mem_append.1 hp with h5 | h5
            · obtain ⟨pre, r, e⟩ := List.append_of_mem h5
              have := hall2 pre (r ++ q :: β) (by rw [e]; simp)
              rw [e]; simp [this]
            · rw [List.mem_singleton.1 h5] at hall2
              exact hall2 α β rfl
          refine ⟨c, hcα, hcj, fun pre r e => hall2 pre (r ++ β) ?_⟩
          have := congrArg (· ++ β) e
          simpa using this
      have hα : ∀ b ∈ α, pairOk X f ops b q ∧ entryOk X f ops b ∧ ∀ j ∈ b.2.2, Still X f ops j o := by
        intro b hb
        have hb0 : b ∈ π0 := hsub.subset (by simp [hb])
        obtain ⟨h2, h3, _⟩ := hpa.2.2 b hb q (by simp)
        refine ⟨h2.resolve_left fun hbit => ?_, h0.entry b hb0, fun j hj => ?_⟩
        · have h4 := ahead_listed h0.tab hd (q.1 + 1) q.1 (by omega) o hoq hall b.1 hbit
          rw [hblisted b (by simp [hb])] at h4; cases h4
        · refine (h0.still b hb0 q hq0 j hj o hoq (Ne.symm (h3 j hj))).resolve_left fun hbit => ?_
          obtain ⟨⟨oj, hoj⟩, _⟩ := (h0.entry b hb0 _ (by simp [h0.lt b hb0] : ops[b.1]? = some (ops[b.1]'(h0.lt b hb0)))).2 j hj
          rcases hwhere b (by simp [hb]) j hj with h5 | ⟨c, hc, hcj, _⟩
          · rw [hfree j.1 oj hoj h5 q (by simp)] at hbit; cases hbit
          · have := (hpa.2.2 c hc q (by simp)).2.2
            rw [hcj, hbit] at this; cases this
      have hst : ∀ pre b r, α = pre ++ b :: r → ∀ ob, ops[b.1]? = some ob → ∀ j ∈ q.2.2, (∀ c ∈ b :: r, c.1 ≠ j.1) → Still X f ops j ob := by
        intro pre b r e ob hob j hj hnc
        have hbα : b ∈ α := by rw [e]; simp
        have hb0 : b ∈ π0 := hsub.subset (by simp [hbα])
        refine (h0.still q hq0 b hb0 j hj ob hob (hnc b (by simp))).resolve_left fun hbit => ?_
        obtain ⟨⟨oj, hoj⟩, _⟩ := (h0.entry q hq0 o hoq).2 j hj
        rcases hwhere q (by simp) j hj with h5 | ⟨c, hc, hcj, _⟩
        · rw [hfree j.1 oj hoj h5 b (by simp [hbα])] at hbit; cases hbit
        · rw [e] at hc
          rcases List.mem_append.1 hc with h6 | h6
          · have h7 := hpa.1
            rw [e] at h7
            have := ((List.pairwise_append.1 h7).2.2 c h6 b (by simp)).2.2
            rw [hcj, hbit] at this; cases this
          · exact hnc c h6 hcj
      obtain ⟨s2, he, _, hg2⟩ := front hoq α β s s' hg hα (h0.entry q hq0) hnda hst
      have hsub2 : (α ++ β).Sublist π0 := (List.Sublist.append (List.Sublist.refl α) (List.sublist_cons_self q β)).trans hsub
      have hi1 : i < listed.size := by rw [hsz]; exact hlt
      have hqn : q ∉ α ++ β := by
        intro hin
        rw [List.map_append, List.map_cons] at hnd
        have hmid := List.nodup_append.1 hnd
        rcases List.mem_append.1 hin with h5 | h5
        · exact hmid.2.2 q.1 (List.mem_map.2 ⟨q, h5, rfl⟩) q.1 (by simp) rfl
        · exact (List.nodup_cons.1 hmid.2.1).1 (List.mem_map.2 ⟨q, h5, rfl⟩)
      have hmem2 : ∀ p ∈ π0, ((listed.setIfInBounds i true).getD p.1 true = false ↔ p ∈ α ++ β) := by
        intro p hp
        by_cases hpi : p.1 = i
        · have hpq : p = q := by
            have := h0.nodup
            obtain ⟨n1, hn1, e1⟩ := List.getElem_of_mem hp
            obtain ⟨n2, hn2, e2⟩ := List.getElem_of_mem hq0
            have hmap := (List.pairwise_iff_getElem.1 this)
            rcases Nat.lt_trichotomy n1 n2 with h5 | h5 | h5
            · have h6 := hmap n1 n2 (by simpa using hn1) (by simpa using hn2) h5
              simp [e1, e2, hpi, hqi] at h6
            · subst h5; rw [← e1, ← e2]
            · have h6 := hmap n2 n1 (by simpa using hn2) (by simpa using hn1) h5
              simp [e1, e2, hpi, hqi] at h6
          subst hpq
          constructor
          · intro h5
            rw [hpi] at h5
            simp [hi1] at h5
          · intro h5; exact absurd h5 hqn
        · rw [getD_set_ne true (Ne.symm hpi), hmem p hp]
          have hpq : p ≠ q := fun e => hpi (by rw [e]; exact hqi)
          simp [hpq]
      have hd2 : Down ops (listed.setIfInBounds i true) := by
        intro j oj hj hoj e he hb
        by_cases hji : j = i
        · subst hji
          rw [ho] at hoj; cases hoj
          exact getD_set_true (hall e he hb)
        · rw [getD_set_ne false (Ne.symm hji)] at hj
          exact getD_set_true (hd j oj hj hoj e he hb)
      have hlen2 : (α ++ β).length = fuel := by simp at hlen ⊢; omega
      unfold wpOpIn
      rw [ho]
      simp only
      rcases he with ⟨hw, rfl⟩ | ⟨hw, _, hex⟩
      · have hwant := wanted_ok (t := a.tmps) hw hs.env
        have hwant' : Region.wanted o (yielded ops a.tmps) = false := by simpa using hwant
        rw [hwant']
        refine ⟨fun _ _ => trivial, ?_⟩
        exact ih (α ++ β) _ _ K L _ w hlen2 hsub2 (by simp [hsz]) hmem2 hd2 hg2 (hs.put o.dst (v := .u) rfl) hq
      · have hwant := wanted_ok (t := a.tmps) hw hs.env
        have hwant' : Region.wanted o (yielded ops a.tmps) = true := by simpa using hwant
        rw [hwant']
        simp only [if_true]
        exact exOp_ok hT hX hS hex hs ro fun a' w' K' L' hs2 hst2 =>
          ih (α ++ β) _ _ K' L' a' w' hlen2 hsub2 (by simp [hsz]) hmem2 hd2 hg2 hs2 fun a3 w3 K3 L3 hs3 hst3 => hq a3 w3 K3 L3 hs3 (hst2.trans hst3)

theorem draw_ok (hT : TypesOk P) (hX : X.ty = tyOf P) (hm : P.follows .mixedOrders = true) {C : CallSem} (hS : Spec P C) :
    DrawSpec P X C fun f id ops => ∃ B, PlanOk X f ops B (X.plan f id) := by
  intro f id ops ⟨B, hok⟩ base s s' hex ro K L a w hs Q hq t
  simp only [Region.schedule, hm, Bool.true_or, if_true]
  have hlen : (X.plan f id).length = ops.size := hok.len
  refine wpAnyIn_sound ops.size t _ a _ ?_
  exact any_ok hT hX hS hok ro ops.size (X.plan f id) _ s K L a w hlen (List.Sublist.refl _) (by simp) (fun p hp => by simp [hok.lt p hp, hp]) (fun j o hj => by
    simp only [Array.getD_eq_getD_getElem?, Array.getElem?_replicate] at hj
    split at hj <;> cases hj) (exPlan_good _ _ _ hex) hs hq

end
end Go.Ev
