/-
Loops over functions: the record, the frame's memory lent to it and taken back.
-/
import Derived.Test.YtgkmfoljhapmiaaOp13
set_option linter.unusedSimpArgs false
set_option linter.unusedVariables false
namespace Go.Ev
variable [Good] {P : Program} {K : KM} {L : KL} {w : World}

omit [Good] in
/-- Ownership, turned. -/
theorem IInv.turn (hi : IInv K L w) {K' : KM} {L' : KL} {w' : World} (τ : Owner → Owner) (hτ : ∀ o o', τ o = τ o' → o = o') (o0 : Owner) (B0 : Nat)
    (hown : ∀ o B, OwnBy K' L' o B → OwnBy K L (τ o) B ∨ (o = o0 ∧ B = B0 ∧ w.heap.size ≤ B0 ∧ B0 < w'.heap.size)) (hsz : w.heap.size ≤ w'.heap.size)
    (hro : ∀ b g B S N : Nat, K'[b]? = some (.c g B S N false) → K[b]? = some (.c g B S N false)) : IInv K' L' w' := by
  refine ⟨fun o o' B h1 h2 => ?_, fun o B h1 => ?_, fun b g B S N hb => ?_⟩
  · rcases hown o B h1 with h1' | ⟨rfl, rfl, h3, h4⟩
    · rcases hown o' B h2 with h2' | ⟨rfl, rfl, h3, h4⟩
      · exact hτ _ _ (hi.inj _ _ _ h1' h2')
      · have := hi.lt _ _ h1'; omega
    · rcases hown o' B h2 with h2' | ⟨rfl, _⟩
      · have := hi.lt _ _ h2'; omega
      · rfl
  · rcases hown o B h1 with h1' | ⟨rfl, rfl, h3, h4⟩
    · exact Nat.lt_of_lt_of_le (hi.lt _ _ h1') hsz
    · exact h4
  · obtain ⟨h1, h2⟩ := hi.ro b g B S N (hro b g B S N hb)
    refine ⟨Nat.lt_of_lt_of_le h1 hsz, fun o ho => ?_⟩
    rcases hown o B ho with h3 | ⟨_, rfl, h4, _⟩
    · exact h2 _ h3
    · omega

omit [Good] in
theorem getElem?_snoc {α : Type} {l : List α} {x y : α} {i : Nat} (h : (l ++ [x])[i]? = some y) : l[i]? = some y ∨ (i = l.length ∧ y = x) := by
  rcases Nat.lt_trichotomy i l.length with h1 | h1 | h1
  · rw [List.getElem?_append_left h1] at h; exact .inl h
  · subst h1
    rw [List.getElem?_append_right (Nat.le_refl _)] at h
    simp at h
    exact .inr ⟨rfl, h.symm⟩
  · rw [List.getElem?_append_right (by omega)] at h
    rw [List.getElem?_eq_none (by simp; omega)] at h
    cases h

/-- lloc len s is loc s. -/
def lay (n : Nat) : Owner → Owner
  | .lloc b s => if b = n then .loc s else .lloc b s
  | .loc s => .lloc n s
  | o => o

omit [Good] in
theorem lay_inj (n : Nat) : ∀ o o', lay n o = lay n o' → o = o' := by
  intro o o' h
  cases o <;> cases o' <;> simp only [lay] at h <;> (try split at h) <;> (try split at h) <;> simp_all

omit [Good] in
theorem laid_own {B0 : Nat} {o : Owner} {B : Nat} (h : OwnBy (K ++ [.l B0 L false]) [] o B) : OwnBy K L (lay K.length o) B ∨ (o = .blk K.length ∧ B = B0) := by
  cases o with
  | loc s => exact absurd h own_nil_loc
  | blk b =>
    rcases h with ⟨g, S, N, k, h1, h2⟩ | h1 | ⟨l, t, h1⟩
    · rcases getElem?_snoc h1 with h3 | ⟨_, h3⟩
      · exact .inl (.inl ⟨g, S, N, k, h3, h2⟩)
      · cases h3
    · rcases getElem?_snoc h1 with h3 | ⟨_, h3⟩
      · exact .inl (.inr (.inl h3))
      · cases h3
    · rcases getElem?_snoc h1 with h3 | ⟨h4, h3⟩
      · exact .inl (.inr (.inr ⟨l, t, h3⟩))
      · cases h3; exact .inr ⟨by rw [h4], rfl⟩
  | lloc b s =>
    obtain ⟨B', l, ver, h1, h2, h3⟩ := h
    left
    rcases getElem?_snoc h1 with h4 | ⟨h4, h5⟩
    · have hne : b ≠ K.length := by have := (List.getElem?_eq_some_iff.1 h4).1; omega
      simp only [lay, hne, if_false]
      exact ⟨B', l, ver, h4, h2, h3⟩
    · cases h5
      simp only [lay, h4, if_true]
      exact ⟨ver, h2, h3⟩

structure Laid (w w1 : World) (B0 : Nat) (R : Loop) : Prop where
  lo : w.heap.size ≤ B0
  hi : B0 < w1.heap.size
  same : ∀ B, B < w.heap.size → w1.heap[B]? = w.heap[B]?
  at0 : w1.heap[B0]? = some (.loop R)
  os : w1.os = w.os
  tape : w1.tape = w.tape
  output : w1.output = w.output

theorem Mem.laid {l : Locs} {h : Heap} (hm : Mem K L l h w) {w1 : World} {B0 : Nat} {r : LoopR} {R : Loop} (hw : Laid w w1 B0 R)
    (hr : LoopRel K L r R) (hl : r.l = l) (ht : r.lent = false) : Mem (K ++ [.l B0 L false]) [] [] (h ++ [.loop r]) w1 := by
  have hle : KM.le K (K ++ [.l B0 L false]) := KM.le_append K _
  have hsz : w.heap.size ≤ w1.heap.size := by have := hw.lo; have := hw.hi; omega
  refine ⟨⟨rfl, fun s ver c h => by simp at h⟩, ⟨by simp [hm.hr.1], fun b x hx => ?_⟩, ?_⟩
  · rcases getElem?_snoc hx with h1 | ⟨h1, rfl⟩
    · obtain ⟨e, he, hb⟩ := hm.hr.2 b x h1
      refine ⟨e, ?_, hb.keep hle fun B hB => hw.same B (hm.inv.uses he hB).2⟩
      rw [List.getElem?_append_left (List.getElem?_eq_some_iff.1 he).1]; exact he
    · refine ⟨.l B0 L false, ?_, B0, L, by rw [ht], R, hw.at0, { hr with tmps := hr.tmps.mono hle (KL.le_refl L) }, fun _ => ?_⟩
      · rw [h1, hm.hr.1, List.getElem?_append_right (Nat.le_refl _)]; simp
      · rw [hl]
        exact hm.lr.keep hle fun s ver B hB hv => hw.same B (hm.inv.lt (.loc s) B ⟨ver, hB, hv⟩)
  · refine hm.inv.turn (lay K.length) (lay_inj _) (.blk K.length) B0 (fun o B ho => ?_) hsz fun b g B S N hb => ?_
    · rcases laid_own ho with h1 | ⟨h1, h2⟩
      · exact .inl h1
      · exact .inr ⟨h1, h2, hw.lo, hw.hi⟩
    · rcases getElem?_snoc hb with h1 | ⟨_, h1⟩
      · exact h1
      · cases h1

omit [Good] in
/-- An entry of a loop, turned. -/
theorem get_set {K : KM} {b : Nat} {e e' : KB} {i : Nat} {x : KB} (h : (K.set b e')[i]? = some x) (hb : K[b]? = some e) : (i = b ∧ x = e') ∨ (i ≠ b ∧ K[i]? = some x) := by
  rw [List.getElem?_set] at h
  by_cases hi : b = i
  · subst hi
    simp only [if_true, (List.getElem?_eq_some_iff.1 hb).1] at h
    cases h; exact .inl ⟨rfl, rfl⟩
  · simp only [hi, if_false] at h
    exact .inr ⟨Ne.symm hi, h⟩

omit [Good] in
theorem set_get {K : KM} {b : Nat} {e e' : KB} (hb : K[b]? = some e) : (K.set b e')[b]? = some e' := by
  rw [List.getElem?_set]; simp [(List.getElem?_eq_some_iff.1 hb).1]

omit [Good] in
theorem set_ne {K : KM} {b i : Nat} {e' : KB} (h : i ≠ b) : (K.set b e')[i]? = K[i]? := by
  rw [List.getElem?_set]; simp [Ne.symm h]

omit [Good] in
theorem KM.le_loop {b B : Nat} {kl kl' : KL} {t t' : Bool} (hb : K[b]? = some (.l B kl t)) : KM.le K (K.set b (.l B kl' t')) :=
  KM.le_set K b _ _ hb ⟨kl', t', rfl⟩

omit [Good] in
/-- Ownership where a loop's memory is its frame's (lent), in place of its own. -/
theorem lent_own {b B0 : Nat} {kl : KL} {kl0 : KL} {t : Bool} (hb : K[b]? = some (.l B0 kl0 t)) {o : Owner} {B : Nat} (h : OwnBy (K.set b (.l B0 kl true)) kl o B) (h0 : t = false → kl0 = kl) (ht : t = false) : OwnBy K [] (lay b o) B := by
  cases o with
  | loc s =>
    obtain ⟨ver, h1, h2⟩ := h
    rw [ht, h0 ht] at hb
    exact ⟨B0, kl, ver, hb, h1, h2⟩
  | blk b' =>
    rcases h with ⟨g, S, N, k, h1, h2⟩ | h1 | ⟨l, t', h1⟩
    · rcases get_set h1 hb with ⟨_, h3⟩ | ⟨_, h3⟩
      · cases h3
      · exact .inl ⟨g, S, N, k, h3, h2⟩
    · rcases get_set h1 hb with ⟨_, h3⟩ | ⟨_, h3⟩
      · cases h3
      · exact .inr (.inl h3)
    · rcases get_set h1 hb with ⟨rfl, h3⟩ | ⟨_, h3⟩
      · cases h3; exact .inr (.inr ⟨kl0, t, hb⟩)
      · exact .inr (.inr ⟨l, t', h3⟩)
  | lloc b' s =>
    obtain ⟨B', l, ver, h1, h2, h3⟩ := h
    rcases get_set h1 hb with ⟨_, h4⟩ | ⟨hne, h4⟩
    · cases h4
    · simp only [lay, hne, if_false]
      exact ⟨B', l, ver, h4, h2, h3⟩

omit [Good] in
theorem ro_set {b B0 : Nat} {kl : KL} {t : Bool} {e : KB} (hb : K[b]? = some e) {i g B S N : Nat} (h : (K.set b (.l B0 kl t))[i]? = some (.c g B S N false)) : K[i]? = some (.c g B S N false) := by
  rcases get_set h hb with ⟨_, h1⟩ | ⟨_, h1⟩
  · cases h1
  · exact h1

/-- BEHIND THE CALL: the loop is through, its frame's memory is the frame's again. -/
theorem Mem.back {l : Locs} {h : Heap} (hm : Mem K L l h w) {w1 : World} {B0 : Nat} {R : Loop} (hw : Laid w w1 B0 R) {K' : KM} {h' : Heap} {w' : World}
    (hst : Step (K ++ [.l B0 L false]) [] w1 K' [] w') (hm' : Mem K' [] [] h' w') {r : LoopR} (hr : h'[K.length]? = some (.loop r)) (ht : r.lent = false) :
    ∃ kl R', K'[K.length]? = some (.l B0 kl false) ∧ w'.heap[B0]? = some (.loop R') ∧ LoopRel K' kl r R' ∧
      Mem (K'.set K.length (.l B0 kl true)) kl r.l (h'.set K.length (.loop { r with state := 3, lent := true })) (w'.putObj B0 (.loop { R' with state := .exhausted })) ∧
      Step K L w (K'.set K.length (.l B0 kl true)) kl (w'.putObj B0 (.loop { R' with state := .exhausted })) ∧
      ∀ D, D < w1.heap.size → D ≠ B0 → (∀ o, ¬ OwnBy K L o D) → (w'.putObj B0 (.loop { R' with state := .exhausted })).heap[D]? = w1.heap[D]? ∧ ∀ o, ¬ OwnBy (K'.set K.length (.l B0 kl true)) kl o D := by
  obtain ⟨kl, hK, _, hkl⟩ := hst.loops K.length B0 L false (by simp)
  obtain ⟨e, he, hbr⟩ := hm'.hr.2 _ _ hr
  obtain ⟨B1, kl1, heq, R', hR', hrel, hlr⟩ := hbr
  rw [hK, heq] at he
  simp only [Option.some.injEq, KB.l.injEq] at he
  obtain ⟨rfl, rfl, _⟩ := he
  have hle : KM.le K' (K'.set K.length (.l B0 kl true)) := KM.le_loop hK
  have hB0 : B0 < w'.heap.size := (Array.getElem?_eq_some_iff.1 hR').1
  have hownB0 : OwnBy K' [] (.blk K.length) B0 := .inr (.inr ⟨kl, false, hK⟩)
  have hoth : ∀ B, B ≠ B0 → (w'.putObj B0 (.loop { R' with state := .exhausted })).heap[B]? = w'.heap[B]? := fun B hB => World.putObj_heap_other hB
  have hw1sz : w.heap.size ≤ w1.heap.size := by have := hw.lo; have := hw.hi; omega
  refine ⟨kl, R', hK, hR', hrel, ⟨?_, ⟨by simp [hm'.hr.1], fun b x hx => ?_⟩, ?_⟩, ?_, ?_⟩
  · refine (hlr ht).keep hle fun s ver B hB hv => hoth B fun e => ?_
    subst e
    have := hm'.inv.inj (.lloc K.length s) (.blk K.length) B ⟨B, kl, ver, hK, hB, hv⟩ hownB0
    cases this
  · rw [List.getElem?_set] at hx
    by_cases hb : K.length = b
    · subst hb
      simp only [if_true, (List.getElem?_eq_some_iff.1 hr).1] at hx
      cases hx
      refine ⟨_, set_get hK, B0, kl, rfl, _, World.putObj_heap_same hB0, ?_, fun h => by cases h⟩
      exact { hrel with state := rfl, tmps := hrel.tmps.mono hle (KL.le_refl kl) }
    · simp only [hb, if_false] at hx
      obtain ⟨e, he, hbr⟩ := hm'.hr.2 b x hx
      refine ⟨e, by rw [set_ne (Ne.symm hb)]; exact he, hbr.keep hle fun B hB => hoth B fun e' => ?_⟩
      subst e'
      rcases (hm'.inv.uses he hB).1 _ hownB0 with h1 | ⟨s, h1⟩
      · cases h1; exact hb rfl
      · cases h1
  · exact hm'.inv.turn (lay K.length) (lay_inj _) (.blk 0) w'.heap.size (fun o B ho => .inl (lent_own hK ho (fun _ => rfl) rfl)) (by simp) fun b g B S N hb => ro_set hK hb
  · refine ⟨?_, hkl, ?_, fun B hB hn => ?_, fun o B ho => ?_, ?_, ?_, ?_, fun b g B S N hb => ?_, fun b B kl2 t hb => ?_⟩
    · exact KM.le_trans (KM.le_trans (KM.le_append K _) hst.kle) hle
    · have := hst.size; simp; omega
    · rw [hoth B (by have := hw.lo; omega), hst.same B (by omega) (fun o ho => ?_), hw.same B hB]
      rcases laid_own ho with h1 | ⟨_, h1⟩
      · exact hn _ h1
      · have := hw.lo; omega
    · rcases hst.own _ _ (lent_own hK ho (fun _ => rfl) rfl) with h1 | ⟨o', h1⟩
      · exact .inl (by omega)
      · rcases laid_own h1 with h2 | ⟨_, h2⟩
        · exact .inr ⟨_, h2⟩
        · exact .inl (by have := hw.lo; omega)
    · exact hst.os.trans hw.os
    · exact hst.tape.trans hw.tape
    · exact hst.output.trans hw.output
    · rcases getElem?_snoc (hst.ros b g B S N (ro_set hK hb)) with h1 | ⟨_, h1⟩
      · exact h1
      · cases h1
    · have hlt : b < K.length := (List.getElem?_eq_some_iff.1 hb).1
      obtain ⟨k1, h1, h2, h3⟩ := hst.loops b B kl2 t (by rw [List.getElem?_append_left hlt]; exact hb)
      exact ⟨k1, by rw [set_ne (by omega)]; exact h1, h2, h3⟩
  · intro D hD hne hno
    have hno1 : ∀ o, ¬ OwnBy (K ++ [.l B0 L false]) [] o D := fun o ho => by
      rcases laid_own ho with h1 | ⟨_, h1⟩
      · exact hno _ h1
      · exact hne h1
    refine ⟨(hoth D hne).trans (hst.same D hD hno1), fun o ho => ?_⟩
    rcases hst.own _ _ (lent_own hK ho (fun _ => rfl) rfl) with h1 | ⟨o', h1⟩
    · omega
    · exact hno1 _ h1

/-- A ROUND BEGINS: the loop lends its memory. -/
theorem Mem.lend {h : Heap} (hm : Mem K [] [] h w) {b : Nat} {r : LoopR} (hr : h[b]? = some (.loop r)) (ht : r.lent = false) {B0 : Nat} {kl : KL} {R : Loop}
    (hK : K[b]? = some (.l B0 kl false)) (hrel : LoopRel K kl r R) (hR : w.heap[B0]? = some (.loop R)) (hlr : LR K kl r.l w) :
    Mem (K.set b (.l B0 kl true)) kl r.l (h.set b (.loop { r with lent := true })) w := by
  have hle : KM.le K (K.set b (.l B0 kl true)) := KM.le_loop hK
  refine ⟨hlr.keep hle fun _ _ _ _ _ => rfl, ⟨by simp [hm.hr.1], fun b' x hx => ?_⟩, ?_⟩
  · rw [List.getElem?_set] at hx
    by_cases hb : b = b'
    · subst hb
      simp only [if_true, (List.getElem?_eq_some_iff.1 hr).1] at hx
      cases hx
      exact ⟨_, set_get hK, B0, kl, rfl, R, hR, { hrel with tmps := hrel.tmps.mono hle (KL.le_refl kl) }, fun h => by cases h⟩
    · simp only [hb, if_false] at hx
      obtain ⟨e, he, hbr⟩ := hm.hr.2 b' x hx
      exact ⟨e, by rw [set_ne (Ne.symm hb)]; exact he, hbr.keep hle fun _ _ => rfl⟩
  · exact hm.inv.turn (lay b) (lay_inj _) (.blk 0) w.heap.size (fun o B ho => .inl (lent_own hK ho (fun _ => rfl) rfl)) (Nat.le_refl _) fun i g B S N hb => ro_set hK hb

/-- A LENT LOOP'S RECORD IS TURNED. -/
theorem Mem.state {l : Locs} {h : Heap} (hm : Mem K L l h w) {b : Nat} {r r' : LoopR} {R' : Loop} (hr : h[b]? = some (.loop r)) (ht : r'.lent = true) {B0 : Nat} {kl : KL}
    (hK : K[b]? = some (.l B0 kl true)) (hlt : B0 < w.heap.size) (hrel : LoopRel K kl r' R') :
    Mem K L l (h.set b (.loop r')) (w.putObj B0 (.loop R')) ∧ Step K L w K L (w.putObj B0 (.loop R')) := by
  have hownB0 : OwnBy K L (.blk b) B0 := .inr (.inr ⟨kl, true, hK⟩)
  have hoth : ∀ B, B ≠ B0 → (w.putObj B0 (.loop R')).heap[B]? = w.heap[B]? := fun B hB => World.putObj_heap_other hB
  refine ⟨⟨?_, ⟨by simp [hm.hr.1], fun b' x hx => ?_⟩, ?_⟩, ?_⟩
  · refine hm.lr.keep (KM.le_refl K) fun s ver B hB hv => hoth B fun e => ?_
    subst e
    have := hm.inv.inj (.loc s) (.blk b) B ⟨ver, hB, hv⟩ hownB0
    cases this
  · rw [List.getElem?_set] at hx
    by_cases hb : b = b'
    · subst hb
      simp only [if_true, (List.getElem?_eq_some_iff.1 hr).1] at hx
      cases hx
      exact ⟨_, hK, B0, kl, by rw [ht], R', World.putObj_heap_same hlt, hrel, fun h => by rw [ht] at h; cases h⟩
    · simp only [hb, if_false] at hx
      obtain ⟨e, he, hbr⟩ := hm.hr.2 b' x hx
      refine ⟨e, he, hbr.keep (KM.le_refl K) fun B hB => hoth B fun e' => ?_⟩
      subst e'
      rcases (hm.inv.uses he hB).1 _ hownB0 with h1 | ⟨s, h1⟩
      · cases h1; exact hb rfl
      · cases h1
  · exact ⟨hm.inv.inj, fun o B ho => by simpa using hm.inv.lt o B ho, fun b g B S N hb => by simpa using hm.inv.ro b g B S N hb⟩
  · refine ⟨KM.le_refl K, KL.le_refl L, by simp, fun B hB hn => hoth B fun e => hn (.blk b) (e ▸ hownB0), fun o B h => .inr ⟨o, h⟩, rfl, rfl, rfl, fun _ _ _ _ _ h => h, fun _ _ kl _ h => ⟨kl, h, fun _ => rfl, KL.le_refl kl⟩⟩

omit [Good] in
theorem unlend_own {b B0 : Nat} {kl : KL} (hb : K[b]? = some (.l B0 kl true)) {o : Owner} {B : Nat} (h : OwnBy (K.set b (.l B0 L false)) [] o B) : OwnBy K L (lay b o) B := by
  cases o with
  | loc s => exact absurd h own_nil_loc
  | blk b' =>
    rcases h with ⟨g, S, N, k, h1, h2⟩ | h1 | ⟨l, t', h1⟩
    · rcases get_set h1 hb with ⟨_, h3⟩ | ⟨_, h3⟩
      · cases h3
      · exact .inl ⟨g, S, N, k, h3, h2⟩
    · rcases get_set h1 hb with ⟨_, h3⟩ | ⟨_, h3⟩
      · cases h3
      · exact .inr (.inl h3)
    · rcases get_set h1 hb with ⟨rfl, h3⟩ | ⟨_, h3⟩
      · cases h3; exact .inr (.inr ⟨kl, true, hb⟩)
      · exact .inr (.inr ⟨l, t', h3⟩)
  | lloc b' s =>
    obtain ⟨B', l, ver, h1, h2, h3⟩ := h
    rcases get_set h1 hb with ⟨h5, h4⟩ | ⟨hne, h4⟩
    · cases h4
      simp only [lay, h5, if_true]
      exact ⟨ver, h2, h3⟩
    · simp only [lay, hne, if_false]
      exact ⟨B', l, ver, h4, h2, h3⟩

/-- A ROUND ENDS. -/
theorem Mem.unlend {K0 : KM} {w0 : World} {b B0 : Nat} {kl : KL} (hK0 : K0[b]? = some (.l B0 kl false)) {K' : KM} {L' : KL} {l' : Locs} {h' : Heap} {w' : World}
    (hst : Step (K0.set b (.l B0 kl true)) kl w0 K' L' w') (hm' : Mem K' L' l' h' w') {r r' : LoopR} (hr : h'[b]? = some (.loop r)) {R' : Loop} (hrel : LoopRel K' L' r' R')
    (hl : r'.l = l') (ht : r'.lent = false) :
    Mem (K'.set b (.l B0 L' false)) [] [] (h'.set b (.loop r')) (w'.putObj B0 (.loop R')) ∧ Step K0 [] w0 (K'.set b (.l B0 L' false)) [] (w'.putObj B0 (.loop R')) := by
  obtain ⟨kl1, hK, hkl1, _⟩ := hst.loops b B0 kl true (set_get hK0)
  have := hkl1 rfl
  subst this
  have hle : KM.le K' (K'.set b (.l B0 L' false)) := KM.le_loop hK
  have hownB0 : OwnBy K' L' (.blk b) B0 := .inr (.inr ⟨kl1, true, hK⟩)
  have hlt : B0 < w'.heap.size := hm'.inv.lt _ _ hownB0
  have hoth : ∀ B, B ≠ B0 → (w'.putObj B0 (.loop R')).heap[B]? = w'.heap[B]? := fun B hB => World.putObj_heap_other hB
  have hlr : LR (K'.set b (.l B0 L' false)) L' l' (w'.putObj B0 (.loop R')) := by
    refine hm'.lr.keep hle fun s ver B hB hv => hoth B fun e => ?_
    subst e
    have := hm'.inv.inj (.loc s) (.blk b) B ⟨ver, hB, hv⟩ hownB0
    cases this
  refine ⟨⟨⟨rfl, fun s ver c h => by simp at h⟩, ⟨by simp [hm'.hr.1], fun b' x hx => ?_⟩, ?_⟩, ?_⟩
  · rw [List.getElem?_set] at hx
    by_cases hb : b = b'
    · subst hb
      simp only [if_true, (List.getElem?_eq_some_iff.1 hr).1] at hx
      cases hx
      exact ⟨_, set_get hK, B0, L', by rw [ht], R', World.putObj_heap_same hlt, { hrel with tmps := hrel.tmps.mono hle (KL.le_refl L') }, fun _ => by rw [hl]; exact hlr⟩
    · simp only [hb, if_false] at hx
      obtain ⟨e, he, hbr⟩ := hm'.hr.2 b' x hx
      refine ⟨e, by rw [set_ne (Ne.symm hb)]; exact he, hbr.keep hle fun B hB => hoth B fun e' => ?_⟩
      subst e'
      rcases (hm'.inv.uses he hB).1 _ hownB0 with h1 | ⟨s, h1⟩
      · cases h1; exact hb rfl
      · cases h1
  · exact hm'.inv.turn (lay b) (lay_inj _) (.blk 0) w'.heap.size (fun o B ho => .inl (unlend_own hK ho)) (by simp) fun i g B S N hb => ro_set hK hb
  · refine ⟨?_, KL.le_refl [], ?_, fun B hB hn => ?_, fun o B ho => ?_, hst.os, hst.tape, hst.output, fun i g B S N hi => ?_, fun i B kl2 t hi => ?_⟩
    · exact KM.le_trans (KM.le_trans (KM.le_loop hK0) hst.kle) hle
    · simpa using hst.size
    · rw [hoth B fun e => ?_, hst.same B hB fun o ho => hn _ (lent_own hK0 ho (fun _ => rfl) rfl)]
      subst e
      exact hn (.blk b) (.inr (.inr ⟨kl1, false, hK0⟩))
    · rcases hst.own _ _ (unlend_own hK ho) with h1 | ⟨o', h1⟩
      · exact .inl h1
      · exact .inr ⟨_, lent_own hK0 h1 (fun _ => rfl) rfl⟩
    · exact ro_set hK0 (hst.ros _ _ _ _ _ (ro_set hK hi))
    · by_cases hb : i = b
      · subst hb
        rw [hK0] at hi; cases hi
        exact ⟨L', set_get hK, fun h => by (cases h), hst.lle⟩
      · obtain ⟨k2, h1, h2, h3⟩ := hst.loops i B kl2 t (by rw [set_ne hb]; exact hi)
        exact ⟨k2, by rw [set_ne hb]; exact h1, h2, h3⟩

end Go.Ev
