/-
Maps: the interpreter's are the model's.
-/
import Derived.Test.YtgkmfoljhapmiaaOp10
import Derived.Test.YtgkmfoljhapmiaaOp19
import Derived.MapKept
import Derived.RangeFuncRecord
set_option linter.unusedSimpArgs false
set_option linter.unusedVariables false
namespace Go.Ev
variable [Good] {P : Program} {K : KM} {L : KL} {w : World}

/-! Keys. -/
omit [Good] in
theorem plainC_val {k : V} (hp : plainC k = true) {x y : Value} (hx : VR K k x) (hy : VR K k y) : x = y ∧ ∀ n, Instr.sameBits n x x = true := by
  cases k <;> simp only [plainC, Bool.false_eq_true] at hp
  · rw [VR_bool hx, VR_bool hy]; exact ⟨rfl, fun n => by cases n <;> simp [Instr.sameBits]⟩
  · rw [VR_int hx, VR_int hy]; exact ⟨rfl, fun n => by cases n <;> simp [Instr.sameBits]⟩
  · rw [VR_str hx, VR_str hy]; exact ⟨rfl, fun n => by cases n <;> simp [Instr.sameBits, strEq_ok', strEq]⟩

omit [Good] in
theorem plainCs_val : ∀ {cs : List V} {xs ys : List Value}, cs.all plainC = true → VRs K cs xs → VRs K cs ys → xs = ys ∧ ∀ n, ∀ x ∈ xs, Instr.sameBits n x x = true
  | [], xs, ys, _, hx, hy => by
    simp only [VRs] at hx hy; subst hx hy; exact ⟨rfl, fun _ x h => by simp at h⟩
  | c :: cs, xs, ys, hp, hx, hy => by
    simp only [VRs] at hx hy
    obtain ⟨x, xs, rfl, h1, h2⟩ := hx
    obtain ⟨y, ys, rfl, h3, h4⟩ := hy
    simp only [List.all_cons, Bool.and_eq_true] at hp
    obtain ⟨rfl, g1⟩ := plainC_val hp.1 h1 h3
    obtain ⟨rfl, g2⟩ := plainCs_val hp.2 h2 h4
    refine ⟨rfl, fun n z hz => ?_⟩
    rcases List.mem_cons.1 hz with rfl | hz
    · exact g1 n
    · exact g2 n z hz

omit [Good] in
theorem plainV_val {k : V} (hp : plainV k = true) {x y : Value} (hx : VR K k x) (hy : VR K k y) : x = y ∧ ∀ n, Instr.sameBits (n + 1) x x = true := by
  cases k with
  | agg cs =>
    simp only [VR] at hx hy
    obtain ⟨xs, rfl, h1, _⟩ := hx
    obtain ⟨ys, rfl, h2, _⟩ := hy
    obtain ⟨e, g⟩ := plainCs_val hp h1 h2
    have e' : xs = ys := by apply Array.ext'; exact e
    subst e'
    refine ⟨rfl, fun n => ?_⟩
    simp only [Instr.sameBits, beq_self_eq_true, Bool.true_and]
    rw [List.all_eq_true]
    rintro ⟨a, b⟩ hab
    have : a = b ∧ a ∈ xs.toList := by
      have hz : ∀ (l : List Value) (p : Value × Value), p ∈ l.zip l → p.1 = p.2 ∧ p.1 ∈ l := by
        intro l
        induction l with
        | nil => intro p hp; simp at hp
        | cons a l ih =>
          intro p hp
          simp only [List.zip_cons_cons, List.mem_cons] at hp
          rcases hp with rfl | hp
          · exact ⟨rfl, by simp⟩
          · exact ⟨(ih p hp).1, by simp [(ih p hp).2]⟩
      exact hz _ _ hab
    obtain ⟨rfl, hm⟩ := this
    exact g n a hm
  | bool b => obtain ⟨h1, h2⟩ := plainC_val (k := .bool b) hp hx hy; exact ⟨h1, fun n => h2 _⟩
  | int q b => obtain ⟨h1, h2⟩ := plainC_val (k := .int q b) hp hx hy; exact ⟨h1, fun n => h2 _⟩
  | str b => obtain ⟨h1, h2⟩ := plainC_val (k := .str b) hp hx hy; exact ⟨h1, fun n => h2 _⟩
  | _ => simp [plainV, plainC] at hp

omit [Good] in
theorem run_keyStays {k : V} (hp : plainV k = true) {x y : Value} (hx : VR K k x) (hy : VR K k y) : (Instr.keyThatStays x y).run P w = .ok y w := by
  obtain ⟨rfl, h⟩ := plainV_val hp hx hy
  simp [Instr.keyThatStays, h 9999]

omit [Good] in
theorem check_ok (em : Bool) : ∀ (d : Nat) (t : TypeId) (k : V) (x : Value) (D n : Nat), keyTD (tyOf P) d t = true → VR K k x → veq (tyOf P) D t k k = some true → (Instr.checkKey em (n + d) t x).run P w = .ok () w
  | 0, t, k, x, D, n, h, _, _ => by simp [keyTD] at h
  | d + 1, t, k, x, D, n, h, hx, hv => by
    cases D with
    | zero => cases hv
    | succ D =>
    unfold keyTD at h
    unfold veq at hv
    rw [show n + (d + 1) = (n + d) + 1 from rfl]
    split at h <;> first | (cases h; done) | skip
    · rename_i q hd
      simp [Instr.checkKey, run_underlying (desc_int hd)]
    · rename_i hd
      simp [Instr.checkKey, run_underlying (desc_str hd)]
    · rename_i hd
      simp [Instr.checkKey, run_underlying (desc_bool hd)]
    · rename_i fs hd
      cases k <;> simp only [hd] at hv <;> first | (cases hv; done) | skip
      rename_i cs
      rcases cnd_some hv with ⟨_, h1⟩ | ⟨_, h1⟩
      · clear hv
        simp only [VR] at hx
        obtain ⟨xs', rfl, hx1, hx2⟩ := hx
        obtain ⟨gs, hu, hfs⟩ := desc_struct hd
        subst hfs
        rw [Instr.checkKey]
        simp only [Sem.run_bind, run_underlying hu, Result.andThen_ok]
        rw [← Array.forIn_toList]
        clear hu hd
        have ih := check_ok em d
        generalize gs.toList = l at *
        induction l with
        | nil => simp
        | cons f l ihl =>
          simp only [List.map_cons, List.foldr_cons] at h1
          simp only [List.map_cons, List.all_cons, Bool.and_eq_true] at h
          obtain ⟨a, ha, h1⟩ := bnd_some h1
          obtain ⟨c, hc, h1⟩ := bnd_some h1
          rw [ha] at hc; cases hc
          obtain ⟨r, hr, h1⟩ := bnd_some h1
          rcases cnd_some h1 with ⟨rfl, h2⟩ | ⟨_, h2⟩
          · obtain ⟨a', ha', hav⟩ := part_ok (P := P) hx1 hx2 ha w
            simp only [Array.toArray_toList] at ha'
            have hrun := ih f.type a a' D n h.1 hav hr
            simp only [List.forIn_cons, Sem.run_bind]
            split
            · simp only [Sem.run_bind, ha', Result.andThen_ok, hrun, Sem.run_pure]
              exact ihl h.2 h2
            · simp only [Sem.run_pure, Result.andThen_ok]
              exact ihl h.2 h2
          · cases h2
      · cases h1

/-! Finding. -/
def expected (k : V) : List ME → List MapEntry → Nat → Option (Nat × Value)
  | e :: es, m :: l, i => if vsame k e.1 then some (i, m.val) else expected k es l (i + 1)
  | _, _, _ => none

omit [Good] in
theorem sameNow_eq {u : TypeDesc} {t : TypeId} (hu : P.underlying t = some u) {x y : Value} {b : Bool} (h : Instr.sameNow u x y = some b) : (Op.equal t x y).run P w = .ok b w := by
  cases u <;> cases x <;> cases y <;> simp only [Instr.sameNow] at h <;> first | (cases h; done) | skip
  · rename_i a c
    injection h with h
    subst h
    exact run_equalIn_bool w _ t a c hu
  · rename_i q k a k' c
    split at h
    · rename_i e
      subst e
      injection h with h
      subst h
      exact run_equalIn_int w _ t k q a c hu
    · cases h
  · rename_i a c
    injection h with h
    subst h
    rw [beq_toListBytes]
    exact run_equalIn_string w _ t a c hu

omit [Good] in
theorem asking_ok (hT : TypesOk P) {kt : TypeId} {k : V} {x : Value} (hx : VR K k x) : ∀ (es : List ME) (l : List MapEntry) (i : Nat), l.length = es.length →
    (∀ (j : Nat) (e : ME), es[j]? = some e → ∃ m : MapEntry, l[j]? = some m ∧ VR K e.1 m.key) → (∀ e ∈ es, veq (tyOf P) 6 kt k e.1 = some (vsame k e.1)) →
    (Instr.findAsking kt x l i).run P w = .ok (expected k es l i) w ∧ ∀ u, P.underlying kt = some u → ∀ r, Instr.findNow u x l i = some r → r = expected k es l i
  | [], [], i, _, _, _ => ⟨by simp [Instr.findAsking, expected], fun u _ r h => by simp [Instr.findNow] at h; simp [expected, h]⟩
  | [], _ :: _, i, h, _, _ => by simp at h
  | _ :: _, [], i, h, _, _ => by simp at h
  | e :: es, m :: l, i, hl, ha, hv => by
    obtain ⟨m', hm', hr⟩ := ha 0 e rfl
    simp at hm'; subst hm'
    have h1 := run_equal hT (hv e (by simp)) hx hr w
    obtain ⟨ih1, ih2⟩ := asking_ok hT hx es l (i + 1) (by simpa using hl) (fun j e' he => by simpa using ha (j + 1) e' (by simpa using he)) (fun e' he => hv e' (by simp [he]))
    refine ⟨?_, fun u hu r hr' => ?_⟩
    · unfold Instr.findAsking expected
      cases hb : vsame k e.1 with
      | true => rw [hb] at h1; simp [h1]
      | false => rw [hb] at h1; simp [h1, ih1]
    · unfold Instr.findNow at hr'
      unfold expected
      split at hr'
      · rename_i hs
        have := sameNow_eq (w := w) hu hs
        rw [h1] at this
        injection this with this
        rw [if_pos this]
        injection hr' with hr'
        exact hr'.symm
      · rename_i hs
        have := sameNow_eq (w := w) hu hs
        rw [h1] at this
        injection this with this
        rw [if_neg (by simp [this])]
        exact ih2 u hu r hr'
      · cases hr'

omit [Good] in
theorem find_run (hT : TypesOk P) {kt : TypeId} {k : V} {x : Value} (hx : VR K k x) {es : List ME} {ents : Array MapEntry} {clk : Nat} (hm : MapR K es ents clk) (hv : ∀ e ∈ es, veq (tyOf P) 6 kt k e.1 = some (vsame k e.1))
    (hu : ∃ u, P.underlying kt = some u) : (Instr.findKey kt x ents.toList).run P w = .ok (expected k es ents.toList 0) w := by
  obtain ⟨u, hu⟩ := hu
  obtain ⟨h1, h2⟩ := asking_ok (w := w) hT hx es ents.toList 0 (by simpa using hm.size) (fun j e he => let ⟨m, g1, g2, _⟩ := hm.at_ j e he; ⟨m, by simpa using g1, g2⟩) hv
  simp only [Instr.findKey, Sem.run_bind, run_underlying hu, Result.andThen_ok]
  cases hf : Instr.findNow u x ents.toList 0 with
  | none => simpa using h1
  | some r => simp [h2 u hu r hf]

omit [Good] in
/-- What is found. -/
theorem expected_some {k : V} : ∀ {es : List ME} {l : List MapEntry} {i : Nat}, l.length = es.length →
    (∃ j e m, es[j]? = some e ∧ l[j]? = some m ∧ vsame k e.1 = true ∧ findM k es = some e ∧ expected k es l i = some (i + j, m.val)) ∨ (findM k es = none ∧ expected k es l i = none)
  | [], [], i, _ => .inr ⟨rfl, rfl⟩
  | [], _ :: _, i, h => by simp at h
  | _ :: _, [], i, h => by simp at h
  | e :: es, m :: l, i, h => by
    cases hb : vsame k e.1 with
    | true => exact .inl ⟨0, e, m, rfl, rfl, hb, by simp [findM, List.find?, hb], by simp [expected, hb]⟩
    | false =>
      rcases expected_some (k := k) (es := es) (l := l) (i := i + 1) (by simpa using h) with ⟨j, e', m', h1, h2, h3, h4, h5⟩ | ⟨h1, h2⟩
      · refine .inl ⟨j + 1, e', m', by simpa using h1, by simpa using h2, h3, ?_, ?_⟩
        · simp only [findM, List.find?, hb] at h4 ⊢; exact h4
        · simp only [expected, hb, Bool.false_eq_true, if_false]; rw [h5]; simp; omega
      · refine .inr ⟨?_, ?_⟩
        · simp only [findM, List.find?, hb] at h1 ⊢; exact h1
        · simp only [expected, hb, Bool.false_eq_true, if_false]; exact h2

/-! Entries about. -/
omit [Good] in
theorem nodup_inj {α β : Type} {f : α → β} : ∀ {l : List α}, (l.map f).Nodup → ∀ {a b : α}, a ∈ l → b ∈ l → f a = f b → a = b
  | [], _, a, b, ha, _, _ => by simp at ha
  | x :: l, h, a, b, ha, hb, e => by
    simp only [List.map_cons, List.nodup_cons, List.mem_map, not_exists, not_and] at h
    rcases List.mem_cons.1 ha with rfl | ha
    · rcases List.mem_cons.1 hb with rfl | hb
      · rfl
      · exact absurd e.symm (h.1 b hb)
    · rcases List.mem_cons.1 hb with rfl | hb
      · exact absurd e (h.1 a (by assumption))
      · exact nodup_inj h.2 ha hb e
omit [Good] in
theorem nodup_idx {α : Type} : ∀ {l : List α}, l.Nodup → ∀ {i j : Nat} {a : α}, l[i]? = some a → l[j]? = some a → i = j
  | [], _, i, j, a, h, _ => by simp at h
  | x :: l, hn, i, j, a, h1, h2 => by
    simp only [List.nodup_cons] at hn
    cases i with
    | zero =>
      cases j with
      | zero => rfl
      | succ j =>
        simp at h1 h2
        subst h1
        exact absurd (List.mem_of_getElem? h2) hn.1
    | succ i =>
      cases j with
      | zero =>
        simp at h1 h2
        subst h2
        exact absurd (List.mem_of_getElem? h1) hn.1
      | succ j =>
        simp at h1 h2
        rw [nodup_idx hn.2 h1 h2]
omit [Good] in
theorem findM_mem {k : V} {es : List ME} {e : ME} (h : findM k es = some e) : e ∈ es ∧ vsame k e.1 = true := ⟨List.mem_of_find?_eq_some h, by simpa using List.find?_some h⟩

omit [Good] in
theorem findM_perm {k : V} {es es' : List ME} (hp : (es'.map unborn).Perm (es.map unborn)) (hn : (es'.map (·.1)).Nodup) : (findM k es').map unborn = (findM k es).map unborn := by
  have e1 : ∀ l : List ME, (l.map (·.1)) = (l.map unborn).map (·.1) := fun l => by simp [unborn, Function.comp_def]
  have hn' : (es.map (·.1)).Nodup := by rw [e1] at hn ⊢; exact (hp.map _).nodup_iff.1 hn
  have key : ∀ (a b : List ME), (a.map unborn).Perm (b.map unborn) → (b.map (·.1)).Nodup → ∀ e, findM k a = some e → (findM k b).map unborn = some (unborn e) := by
    intro a b hab hnb e he
    obtain ⟨h1, h2⟩ := findM_mem he
    have h3 : unborn e ∈ b.map unborn := hab.mem_iff.1 (List.mem_map.2 ⟨e, h1, rfl⟩)
    obtain ⟨f, hf, hfe⟩ := List.mem_map.1 h3
    have hfk : f.1 = e.1 := congrArg (fun p : V × V => p.1) hfe
    cases hq : findM k b with
    | none =>
      have := List.find?_eq_none.1 hq f hf
      rw [hfk, h2] at this; simp at this
    | some g =>
      obtain ⟨g1, g2⟩ := findM_mem hq
      have : g.1 = f.1 := by rw [hfk, ← vsame_eq _ _ h2, vsame_eq _ _ g2]
      have hgf : g = f := by
        exact nodup_inj hnb g1 hf this
      rw [hgf]; simp [hfe]
  cases h : findM k es' with
  | some e => rw [key es' es hp hn' e h]; rfl
  | none =>
    cases h' : findM k es with
    | none => rfl
    | some e => have := key es es' hp.symm hn e h'; rw [h] at this; cases this

/-! The zero value. -/
omit [Good] in
theorem zeroV_ok (hT : TypesOk P) {t : TypeId} {z : V} (h : zeroV (tyOf P t) = some z) : ∃ zv, (zeroValue t).run P w = .ok zv w ∧ VR K z zv := by
  obtain ⟨⟨h1, h2⟩, h⟩ := grd_some h
  obtain ⟨ag, hk, h⟩ := bnd_some h
  obtain ⟨i, zv, hi, hz, hs, hr, hc⟩ := zero_ok (K := K) hT h1 (info_kind hk) h2
  refine ⟨zv, by simp [zeroValue, typeInfo, hi, hz], ?_⟩
  have hlt : t < P.types.size := by
    rcases Nat.lt_or_ge t P.types.size with hlt | hge
    · exact hlt
    · have : (tyOf P t).zero = [] := by simp [tyOf, Nat.not_lt.2 hge]
      rw [this] at h1; simp at h1; omega
  have hsh := hT.shape t i zv ag hlt hi hz hk
  rcases cnd_some h with ⟨rfl, h⟩ | ⟨rfl, h⟩
  · cases h
    cases zv <;> first | (cases hsh; done) | skip
    simp only [VR]
    exact ⟨_, rfl, hr, hc⟩
  · cases hzz : (tyOf P t).zero with
    | nil => rw [hzz] at h; cases h
    | cons a r =>
      rw [hzz] at h hr
      cases h
      have hcl : zv.cells = #[zv] := by cases zv <;> first | (cases hsh; done) | rfl
      rw [hcl] at hr
      simp only [VRs] at hr
      obtain ⟨y, ys, e, h3, _⟩ := hr
      simp at e
      obtain ⟨rfl, _⟩ := e
      exact h3

omit [Good] in
theorem keyOk_some {kt : TypeId} {k : V} {es : List ME} (h : keyOk (tyOf P) kt k es = true) :
    plainV k = true ∧ keyTD (tyOf P) 3 kt = true ∧ veq (tyOf P) 6 kt k k = some true ∧ ∀ e ∈ es, veq (tyOf P) 6 kt k e.1 = some (vsame k e.1) := by
  unfold keyOk at h
  simp only [Bool.and_eq_true, List.all_eq_true, decide_eq_true_eq] at h
  exact ⟨h.1.1.1, h.1.1.2, h.1.2, h.2⟩

omit [Good] in
theorem keyTD_u {d : Nat} {t : TypeId} (h : keyTD (tyOf P) d t = true) : ∃ u, P.underlying t = some u := by
  cases d with
  | zero => simp [keyTD] at h
  | succ d =>
    have hd : (tyOf P t).desc ≠ .other := by intro e; unfold keyTD at h; rw [e] at h; simp at h
    obtain ⟨u, hu, _⟩ := desc_some rfl hd
    exact ⟨u, hu⟩

/-- A map in memory. -/
theorem map_at {h : Heap} (hm : HR K h w) {r : Nat} {ex : Bool} {es : List ME} {c : Nat} (hr : h[r]? = some (.map ex es c)) {y : Value} (hy : VR K (.map r) y) :
    ∃ B ents clk es', y = .map (some B) ∧ K[r]? = some (.m B) ∧ w.heap[B]? = some (.map ents clk) ∧ MapR K es' ents clk ∧ (ex = true → es' = es ∧ clk = c) ∧ (es'.map unborn).Perm (es.map unborn) := by
  obtain ⟨en, hen, B, rfl, ents, clk, es', h1, h2, h3, h4⟩ := hm.2 r _ hr
  simp only [VR] at hy
  obtain ⟨B', hB, rfl⟩ := hy
  rw [hen] at hB; cases hB
  exact ⟨B, ents, clk, es', rfl, hen, h1, h2, h3, h4⟩

omit [Good] in
theorem keys_perm {kt : TypeId} {k : V} {es es' : List ME} (hp : (es'.map unborn).Perm (es.map unborn)) (h : ∀ e ∈ es, veq (tyOf P) 6 kt k e.1 = some (vsame k e.1)) : ∀ e ∈ es', veq (tyOf P) 6 kt k e.1 = some (vsame k e.1) := by
  intro e he
  obtain ⟨f, hf, hfe⟩ := List.mem_map.1 (hp.mem_iff.1 (List.mem_map.2 ⟨e, he, rfl⟩))
  have hfk : f.1 = e.1 := congrArg (fun p : V × V => p.1) hfe
  rw [← hfk]; exact h f hf

omit [Good] in
/-- What a key finds there. -/
theorem found (hT : TypesOk P) {kt : TypeId} {k : V} {x : Value} (hx : VR K k x) {es es' : List ME} {ents : Array MapEntry} {clk : Nat} (hm : MapR K es' ents clk) (hp : (es'.map unborn).Perm (es.map unborn)) (hk : keyOk (tyOf P) kt k es = true) :
    ∃ r, (Instr.findKey kt x ents.toList).run P w = .ok r w ∧
      ((∃ (j : Nat) (e f : ME) (m : MapEntry), r = some (j, m.val) ∧ es'[j]? = some e ∧ ents[j]? = some m ∧ vsame k e.1 = true ∧ findM k es = some f ∧ findM k es' = some e ∧ unborn f = unborn e ∧ VR K e.2.1 m.val ∧ VR K e.1 m.key ∧ m.born = e.2.2) ∨
       (r = none ∧ findM k es = none ∧ findM k es' = none)) := by
  obtain ⟨h1, h2, h3, h4⟩ := keyOk_some hk
  have hpm := findM_perm (k := k) hp hm.keys
  refine ⟨_, find_run hT hx hm (keys_perm hp h4) (keyTD_u h2), ?_⟩
  rcases expected_some (k := k) (es := es') (l := ents.toList) (i := 0) (by simpa using hm.size) with ⟨j, e, m, g1, g2, g3, g4, g5⟩ | ⟨g1, g2⟩
  · left
    rw [g4] at hpm
    cases hf : findM k es with
    | none => rw [hf] at hpm; cases hpm
    | some f =>
      rw [hf] at hpm
      simp only [Option.map_some, Option.some.injEq] at hpm
      obtain ⟨m', k1, k2, k3, k4⟩ := hm.at_ j e g1
      have : m' = m := by
        have : ents[j]? = some m := by simpa using g2
        rw [k1] at this; exact Option.some.inj this
      subst this
      exact ⟨j, e, f, m', by rw [g5]; simp, g1, k1, g3, rfl, g4, hpm.symm, k3, k2, k4⟩
  · right
    rw [g1] at hpm
    cases hf : findM k es with
    | none => exact ⟨g2, rfl, g1⟩
    | some f => rw [hf] at hpm; cases hpm

omit [Good] in
theorem outV_ok {ok b : Bool} {v : V} {y : Value} (h : VR K v y) : VR K (outV ok v b) (if ok then .tuple #[y, .bool b] else y) := by
  cases ok with
  | false => simpa [outV] using h
  | true =>
    simp only [outV, cond_true, if_true, VR]
    exact ⟨_, rfl, by simp only [VRs]; exact ⟨y, _, rfl, h, .bool b, _, rfl, by simp [VR], rfl⟩⟩

theorem lookup_ok (hT : TypesOk P) {s : St} {t : TypeId} {m k v : TV} {ok : Bool} {mv kv : Value} (h : lookupV (tyOf P) t m k ok s = some v) (hmv : TVR K L m mv) (hkv : TVR K L k kv) (hm : Mem K L s.l s.h w) :
    ∃ z, (Instr.lookup t mv kv ok).run P w = .ok z w ∧ TVR K L v z := by
  unfold lookupV at h
  split at h <;> first | (cases h; done) | skip
  · rename_i kt el k hd
    unfold lookupIn at h
    obtain ⟨z, hz, h⟩ := bnd_some h
    obtain ⟨hk, h⟩ := grd_some h
    obtain ⟨h1, h2, h3, h4⟩ := keyOk_some hk
    obtain ⟨zv, hz1, hz2⟩ := zeroV_ok (w := w) (K := K) hT hz
    simp only [TVR, VR] at hmv
    subst hmv
    have hf : findM k [] = none := rfl
    rw [hf] at h
    cases h
    refine ⟨if ok then .tuple #[zv, .bool false] else zv, ?_, outV_ok (ok := ok) (b := false) hz2⟩
    obtain ⟨u, hu⟩ := keyTD_u h2
    have hch := check_ok (w := w) true 3 kt k kv 6 9997 h2 hkv h3
    simp [Instr.lookup, run_underlying (desc_map hd), hch, Instr.findKey, run_underlying hu, Instr.findNow, hz1]
  · rename_i kt el r k hd
    split at h
    · rename_i ex es c hr
      unfold lookupIn at h
      obtain ⟨z, hz, h⟩ := bnd_some h
      obtain ⟨hk, h⟩ := grd_some h
      obtain ⟨h1, h2, h3, h4⟩ := keyOk_some hk
      obtain ⟨zv, hz1, hz2⟩ := zeroV_ok (w := w) (K := K) hT hz
      obtain ⟨B, ents, clk, es', rfl, hK, hB, hmr, _, hp⟩ := map_at hm.hr hr hmv
      obtain ⟨r', hf, hcase⟩ := found (w := w) hT hkv hmr hp hk
      have hch := check_ok (w := w) ents.isEmpty 3 kt k kv 6 9997 h2 hkv h3
      rcases hcase with ⟨j, e, f, me, rfl, g1, g2, g3, g4, g4', g5, g6, _⟩ | ⟨rfl, g1, _⟩
      · rw [g4] at h
        cases h
        have hfv : f.2.1 = e.2.1 := congrArg (fun p : V × V => p.2) g5
        refine ⟨if ok then .tuple #[me.val, .bool true] else me.val, ?_, outV_ok (ok := ok) (b := true) (by rw [hfv]; exact g6)⟩
        simp [Instr.lookup, run_underlying (desc_map hd), MapKept.run_getObj_map hB, hch, hf]
      · rw [g1] at h
        cases h
        refine ⟨if ok then .tuple #[zv, .bool false] else zv, ?_, outV_ok (ok := ok) (b := false) hz2⟩
        simp [Instr.lookup, run_underlying (desc_map hd), MapKept.run_getObj_map hB, hch, hf, hz1]
    · cases h

/-- A map is turned. -/
theorem Mem.mapSet {l : Locs} {h : Heap} (hm : Mem K L l h w) {r B : Nat} {x : Blk} (hr : ∃ ex es c, h[r]? = some (.map ex es c)) (hK : K[r]? = some (.m B)) {o : Obj} (hbr : BR K (w.putObj B o) x (.m B)) :
    Mem K L l (h.set r x) (w.putObj B o) ∧ Step K L w K L (w.putObj B o) := by
  have hlt : r < h.length := let ⟨_, _, _, hc⟩ := hr; (List.getElem?_eq_some_iff.1 hc).1
  have hown : OwnBy K L (.blk r) B := .inr (.inl hK)
  refine hm.updX r (B2 := B) (e2 := .m B) (x2 := x) (KM.le_refl K) (fun _ _ => rfl) (fun b' hb' => ?_) (by simp [hm.hr.1]) hK (.inr rfl) ?_ hbr ?_ (.inl hown) (fun B' hB' hn => ?_) (by simp [World.putObj]) rfl rfl rfl
  · rw [List.getElem?_set_ne (Ne.symm hb')]
  · rw [List.getElem?_set_self hlt]
  · rintro s B' ⟨B1, l', ver, h1, _⟩
    rw [hK] at h1; cases h1
  · by_cases e : B' = B
    · subst e; exact absurd hown hn
    · exact World.putObj_heap_other e

omit [Good] in
/-- Entries that are related, with one of them turned. -/
theorem MapR.modify {es : List ME} {ents : Array MapEntry} {clk : Nat} (h : MapR K es ents clk) {j : Nat} {e : ME} {m : MapEntry} (he : es[j]? = some e) (hme : ents[j]? = some m) {v : V} {y : Value} (hv : VR K v y) {g : MapEntry → MapEntry}
    (hg : ∀ m' : MapEntry, (g m').val = y ∧ (g m').born = m'.born) (hgk : (g m).key = m.key) {p : ME → Bool} (hp : ∀ (i : Nat) (f : ME), es[i]? = some f → (p f = true ↔ i = j)) :
    MapR K (es.map fun f => cond (p f) (f.1, v, f.2.2) f) (ents.modify j g) clk := by
  have hkeys : (es.map fun f => cond (p f) (f.1, v, f.2.2) f).map (·.1) = es.map (·.1) := by
    rw [List.map_map]; apply List.map_congr_left; intro f _; simp only [Function.comp]; cases p f <;> rfl
  have hborn : (es.map fun f => cond (p f) (f.1, v, f.2.2) f).map (·.2.2) = es.map (·.2.2) := by
    rw [List.map_map]; apply List.map_congr_left; intro f _; simp only [Function.comp]; cases p f <;> rfl
  refine ⟨by simp [h.size], fun i f hf => ?_, by rw [hkeys]; exact h.keys, fun f hf => ?_, by rw [hborn]; exact h.borns, fun f hf => ?_⟩
  · rw [List.getElem?_map] at hf
    cases hx : es[i]? with
    | none => rw [hx] at hf; cases hf
    | some f0 =>
      rw [hx] at hf
      simp only [Option.map_some, Option.some.injEq] at hf
      obtain ⟨m0, k1, k2, k3, k4⟩ := h.at_ i f0 hx
      by_cases hi : i = j
      · have hpt := (hp i f0 hx).2 hi
        rw [hpt] at hf
        subst hf
        subst hi
        rw [he] at hx; cases hx
        rw [hme] at k1; cases k1
        refine ⟨g m, by rw [Array.getElem?_modify, if_pos rfl, hme]; rfl, by rw [hgk]; exact k2, by rw [(hg m).1]; exact hv, by rw [(hg m).2]; exact k4⟩
      · have hpf : p f0 = false := by
          cases hq : p f0 with
          | false => rfl
          | true => exact absurd ((hp i f0 hx).1 hq) hi
        rw [hpf] at hf
        subst hf
        exact ⟨m0, by rw [Array.getElem?_modify, if_neg (Ne.symm hi)]; exact k1, k2, k3, k4⟩
  · obtain ⟨f0, hf0, rfl⟩ := List.mem_map.1 hf
    have := h.plain f0 hf0
    cases p f0 <;> exact this
  · obtain ⟨f0, hf0, rfl⟩ := List.mem_map.1 hf
    have := h.clock f0 hf0
    cases p f0 <;> exact this

omit [Good] in
theorem MapR.push {es : List ME} {ents : Array MapEntry} {clk : Nat} (h : MapR K es ents clk) {k v : V} {x y : Value} (hk : VR K k x) (hv : VR K v y) (hp : plainV k = true) (hn : findM k es = none) (hs : ∀ e ∈ es, e.1 = k → vsame k e.1 = true) :
    MapR K (es ++ [(k, v, clk)]) (ents.push { key := x, val := y, born := clk }) (clk + 1) := by
  refine ⟨by simp [h.size], fun i f hf => ?_, ?_, fun f hf => ?_, ?_, fun f hf => ?_⟩
  · by_cases hi : i < es.length
    · rw [List.getElem?_append_left hi] at hf
      obtain ⟨m, k1, k2⟩ := h.at_ i f hf
      refine ⟨m, ?_, k2⟩
      rw [Array.getElem?_push, if_neg (by rw [h.size]; omega)]; exact k1
    · rw [List.getElem?_append_right (by omega)] at hf
      have hi0 : i = es.length := by
        have := (List.getElem?_eq_some_iff.1 hf).1
        simp at this; omega
      subst hi0
      simp at hf
      subst hf
      exact ⟨_, by rw [Array.getElem?_push, if_pos h.size.symm], hk, hv, rfl⟩
  · rw [List.map_append]
    refine List.nodup_append.2 ⟨h.keys, by simp, ?_⟩
    intro a ha b hb
    simp at hb
    subst hb
    obtain ⟨f, hf, rfl⟩ := List.mem_map.1 ha
    intro e
    have h1 := hs f hf e
    have h2 := List.find?_eq_none.1 hn f hf
    exact h2 h1
  · rcases List.mem_append.1 hf with hf | hf
    · exact h.plain f hf
    · simp at hf; subst hf; exact hp
  · rw [List.map_append]
    refine List.nodup_append.2 ⟨h.borns, by simp, ?_⟩
    intro a ha b hb
    simp at hb
    subst hb
    obtain ⟨f, hf, rfl⟩ := List.mem_map.1 ha
    have := h.clock f hf
    omega
  · rcases List.mem_append.1 hf with hf | hf
    · have := h.clock f hf; omega
    · simp at hf; subst hf; exact Nat.lt_succ_self _

omit [Good] in
theorem vsame_key {kt : TypeId} {k : V} (h3 : veq (tyOf P) 6 kt k k = some true) {es : List ME} (h4 : ∀ e ∈ es, veq (tyOf P) 6 kt k e.1 = some (vsame k e.1)) : ∀ e ∈ es, e.1 = k → vsame k e.1 = true := by
  intro e he hek
  have := h4 e he
  rw [hek, h3] at this
  rw [hek]
  exact (Option.some.inj this).symm

omit [Good] in
/-- Which entry a key is that of. -/
theorem only_key {k : V} {es : List ME} (hn : (es.map (·.1)).Nodup) {j : Nat} {e : ME} (he : es[j]? = some e) (hs : vsame k e.1 = true) : ∀ (i : Nat) (f : ME), es[i]? = some f → (vsame k f.1 = true ↔ i = j) := by
  intro i f hf
  refine ⟨fun h => ?_, fun h => ?_⟩
  · have e1 : f.1 = e.1 := by rw [← vsame_eq _ _ h, vsame_eq _ _ hs]
    have h1 : (es.map (·.1))[i]? = some f.1 := by rw [List.getElem?_map, hf]; rfl
    have h2 : (es.map (·.1))[j]? = some e.1 := by rw [List.getElem?_map, he]; rfl
    exact nodup_idx hn h1 (by rw [e1]; exact h2)
  · subst h; rw [he] at hf; cases hf; exact hs

omit [Good] in
theorem unborn_cond (p : ME → Bool) (v : V) (f : ME) : unborn (cond (p f) (f.1, v, f.2.2) f) = cond (p f) (f.1, v) (unborn f) := by cases p f <;> rfl

omit [Good] in
/-- A key's entry turned, in either row. -/
theorem perm_put {k v : V} {es es' : List ME} (hp : (es'.map unborn).Perm (es.map unborn)) :
    ((es'.map fun e => cond (vsame k e.1) (e.1, v, e.2.2) e).map unborn).Perm ((es.map fun e => cond (vsame k e.1) (e.1, v, e.2.2) e).map unborn) := by
  have e : ∀ l : List ME, (l.map fun e => cond (vsame k e.1) (e.1, v, e.2.2) e).map unborn = (l.map unborn).map fun q => cond (vsame k q.1) (q.1, v) q := by
    intro l
    rw [List.map_map, List.map_map]
    apply List.map_congr_left
    intro f _
    exact unborn_cond (fun e => vsame k e.1) v f
  rw [e, e]
  exact hp.map _

theorem update_ok (hT : TypesOk P) {s s' : St} {t : TypeId} {m k v : TV} {mv kv vv : Value} (h : updateV (tyOf P) t m k v s = some s') (hmv : TVR K L m mv) (hkv : TVR K L k kv) (hvv : TVR K L v vv) (hm : Mem K L s.l s.h w) :
    ∃ w', (Instr.mapUpdate t mv kv vv).run P w = .ok () w' ∧ Mem K L s'.l s'.h w' ∧ Step K L w K L w' ∧ s'.e = s.e := by
  unfold updateV at h
  split at h <;> first | (cases h; done) | skip
  rename_i kt el r k v hd
  split at h
  · rename_i ex es c hr
    obtain ⟨hk, h⟩ := grd_some h
    cases h
    obtain ⟨h1, h2, h3, h4⟩ := keyOk_some hk
    obtain ⟨B, ents, clk, es', rfl, hK, hB, hmr, hex, hp⟩ := map_at hm.hr hr hmv
    obtain ⟨r', hf, hcase⟩ := found (w := w) hT hkv hmr hp hk
    have hch := check_ok (w := w) false 3 kt k kv 6 9997 h2 hkv h3
    have hBlt : B < w.heap.size := (Array.getElem?_eq_some_iff.1 hB).1
    rcases hcase with ⟨j, e, f, me, rfl, g1, g2, g3, g4, g4', g5, g6, g7, g8⟩ | ⟨rfl, g1, g1'⟩
    · have hke : VR K k me.key := by rw [vsame_eq _ _ g3]; exact g7
      have hst := run_keyStays (P := P) (w := w) h1 hke hkv
      obtain ⟨hm', hstep⟩ := hm.mapSet (x := .map ex (putM k v es c).1 (putM k v es c).2) (o := .map (ents.modify j fun e => { e with key := kv, val := vv }) clk) ⟨_, _, _, hr⟩ hK (by
        refine ⟨B, rfl, _, _, es'.map fun e => cond (vsame k e.1) (e.1, v, e.2.2) e, World.putObj_heap_same hBlt, ?_, ?_, ?_⟩
        · refine hmr.modify (g := fun e => { e with key := kv, val := vv }) g1 g2 hvv (fun _ => ⟨rfl, rfl⟩) ?_ (only_key hmr.keys g1 g3)
          exact (plainV_val h1 hke hkv).1.symm
        · intro hx
          obtain ⟨e1, e2⟩ := hex hx
          simp only [putM, g4]
          exact ⟨by rw [e1], e2⟩
        · simp only [putM, g4]
          exact perm_put hp)
      refine ⟨_, ?_, hm', hstep, rfl⟩
      simp [Instr.mapUpdate, run_underlying (desc_map hd), MapKept.run_getObj_map hB, hch, hf, g2, hst, MapKept.run_setObj_map _ hB, World.putObj]
    · obtain ⟨hm', hstep⟩ := hm.mapSet (x := .map ex (putM k v es c).1 (putM k v es c).2) (o := .map (ents.push { key := kv, val := vv, born := clk }) (clk + 1)) ⟨_, _, _, hr⟩ hK (by
        refine ⟨B, rfl, _, _, es' ++ [(k, v, clk)], World.putObj_heap_same hBlt, ?_, ?_, ?_⟩
        · exact hmr.push hkv hvv h1 g1' (vsame_key h3 (keys_perm hp h4))
        · intro hx
          obtain ⟨e1, e2⟩ := hex hx
          simp only [putM, g1]
          exact ⟨by rw [e1, e2], by rw [e2]⟩
        · simp only [putM, g1, List.map_append]
          exact hp.append (by simp [unborn]))
      refine ⟨_, ?_, hm', hstep, rfl⟩
      simp [Instr.mapUpdate, run_underlying (desc_map hd), MapKept.run_getObj_map hB, hch, hf, MapKept.run_setObj_map _ hB, World.putObj]
  · cases h

theorem entry_ok (hT : TypesOk P) {s : St} {t : TypeId} {m k : TV} {q : TV × St} {mv kv : Value} (h : entryV (tyOf P) t m k s = some q) (hmv : TVR K L m mv) (hkv : TVR K L k kv) (hm : Mem K L s.l s.h w) :
    ∃ z w', (Instr.mapEntry t mv kv).run P w = .ok z w' ∧ TVR K L q.1 z ∧ Mem K L q.2.l q.2.h w' ∧ Step K L w K L w' ∧ q.2.e = s.e := by
  unfold entryV at h
  split at h <;> first | (cases h; done) | skip
  rename_i kt el r k hd
  split at h
  · rename_i es c hr
    obtain ⟨z, hz, h⟩ := bnd_some h
    obtain ⟨hk, h⟩ := grd_some h
    obtain ⟨h1, h2, h3, h4⟩ := keyOk_some hk
    obtain ⟨zv, hz1, hz2⟩ := zeroV_ok (w := w) (K := K) hT hz
    obtain ⟨B, ents, clk, es', rfl, hK, hB, hmr, hex, hp⟩ := map_at hm.hr hr hmv
    obtain ⟨rfl, rfl⟩ := hex rfl
    obtain ⟨r', hf, hcase⟩ := found (w := w) hT hkv hmr hp hk
    have hch := check_ok (w := w) false 3 kt k kv 6 9997 h2 hkv h3
    have hBlt : B < w.heap.size := (Array.getElem?_eq_some_iff.1 hB).1
    rcases hcase with ⟨j, e, f, me, rfl, g1, g2, g3, g4, g4', g5, g6, g7, g8⟩ | ⟨rfl, g1, g1'⟩
    · rw [g4'] at g4; cases g4
      rw [g4'] at h
      cases h
      have hke : VR K k me.key := by rw [vsame_eq _ _ g3]; exact g7
      have hst := run_keyStays (P := P) (w := w) h1 hke hkv
      have hsame : ents.modify j (fun e => { e with key := kv }) = ents := by
        apply Array.ext_getElem?
        intro i
        rw [Array.getElem?_modify]
        split
        · rename_i hij
          subst hij
          rw [g2]
          simp only [Option.map_some, Option.some.injEq]
          rw [← (plainV_val h1 hke hkv).1]
        · rfl
      refine ⟨.tuple #[me.val, goInt me.born], w.putObj B (.map ents clk), ?_, ?_, ?_⟩
      · simp [Instr.mapEntry, run_underlying (desc_map hd), MapKept.run_getObj_map hB, hch, hf, g2, hst, MapKept.run_setObj_map _ hB, World.putObj, hsame]
      · simp only [TVR, VR]
        exact ⟨_, rfl, by simp only [VRs]; exact ⟨_, _, rfl, g6, _, _, rfl, by simp [VR, goInt, g8], rfl⟩⟩
      · have hw : w.putObj B (.map ents clk) = w := by
          have : w.heap.setIfInBounds B (.map ents clk) = w.heap := by
            apply Array.ext_getElem?
            intro i
            rw [Array.getElem?_setIfInBounds]
            split
            · rename_i hij
              subst hij
              exact hB.symm
            · rfl
          simp only [World.putObj, this]
        rw [hw]
        exact ⟨hm, Step.refl K L w, rfl⟩
    · rw [g1] at h
      cases h
      obtain ⟨hm', hstep⟩ := hm.mapSet (x := .map true (es' ++ [(k, z, clk)]) (clk + 1)) (o := .map (ents.push { key := kv, val := zv, born := clk }) (clk + 1)) ⟨_, _, _, hr⟩ hK
        ⟨B, rfl, _, _, es' ++ [(k, z, clk)], World.putObj_heap_same hBlt, hmr.push hkv hz2 h1 g1' (vsame_key h3 h4), fun _ => ⟨rfl, rfl⟩, .refl _⟩
      refine ⟨.tuple #[zv, goInt clk], _, ?_, ?_, hm', hstep, rfl⟩
      · simp [Instr.mapEntry, run_underlying (desc_map hd), MapKept.run_getObj_map hB, hch, hf, MapKept.run_setObj_map _ hB, World.putObj, hz1]
      · simp only [TVR, VR]
        exact ⟨_, rfl, by simp only [VRs]; exact ⟨_, _, rfl, hz2, _, _, rfl, by simp [VR, goInt], rfl⟩⟩
  · cases h

theorem entryStore_ok {s s' : St} {t : TypeId} {m st v : TV} {mv sv vv : Value} (h : entryStoreV m st v s = some s') (hmv : TVR K L m mv) (hsv : TVR K L st sv) (hvv : TVR K L v vv) (hm : Mem K L s.l s.h w) :
    ∃ w', (Instr.entryStore t mv sv vv).run P w = .ok () w' ∧ Mem K L s'.l s'.h w' ∧ Step K L w K L w' ∧ s'.e = s.e := by
  unfold entryStoreV at h
  split at h <;> first | (cases h; done) | skip
  rename_i r q n v
  split at h
  · rename_i es c hr
    obtain ⟨hany, h⟩ := grd_some h
    cases h
    obtain ⟨B, ents, clk, es', rfl, hK, hB, hmr, hex, hp⟩ := map_at hm.hr hr hmv
    obtain ⟨rfl, rfl⟩ := hex rfl
    have hBlt : B < w.heap.size := (Array.getElem?_eq_some_iff.1 hB).1
    rw [TVR_int hsv]
    simp only [List.any_eq_true, decide_eq_true_eq] at hany
    obtain ⟨e, he, hen⟩ := hany
    obtain ⟨j, hj⟩ := List.getElem?_of_mem he
    obtain ⟨me, k1, k2, k3, k4⟩ := hmr.at_ j e hj
    have honly : ∀ (i : Nat) (f : ME), es'[i]? = some f → ((f.2.2 : Int) = n ↔ i = j) := by
      intro i f hf
      refine ⟨fun h => ?_, fun h => ?_⟩
      · have e1 : f.2.2 = e.2.2 := by omega
        exact nodup_idx hmr.borns (a := f.2.2) (by rw [List.getElem?_map, hf]; rfl) (by rw [List.getElem?_map, hj, e1]; rfl)
      · subst h; rw [hj] at hf; cases hf; exact hen
    have hidx : ents.findIdx? (fun e => (e.born : Int) == n) = some j := by
      rw [Array.findIdx?_eq_some_iff_getElem]
      have hjlt : j < ents.size := (Array.getElem?_eq_some_iff.1 k1).1
      have hjm : ents[j] = me := by have := (Array.getElem?_eq_some_iff.1 k1).2; exact this
      refine ⟨hjlt, by rw [hjm, k4]; simpa using hen, fun i hi => ?_⟩
      have hilt : i < es'.length := by rw [← hmr.size]; omega
      obtain ⟨mi, l1, l2, l3, l4⟩ := hmr.at_ i es'[i] (by simp [hilt])
      have hmi : ents[i] = mi := (Array.getElem?_eq_some_iff.1 l1).2
      rw [hmi, l4]
      have : ¬ ((es'[i].2.2 : Int) = n) := fun h => absurd ((honly i es'[i] (by simp [hilt])).1 h) (by omega)
      simpa using this
    obtain ⟨hm', hstep⟩ := hm.mapSet (x := .map true (es'.map fun e => cond (decide ((e.2.2 : Int) = n)) (e.1, v, e.2.2) e) clk) (o := .map (ents.modify j fun e => { e with val := vv }) clk) ⟨_, _, _, hr⟩ hK
      ⟨B, rfl, _, _, _, World.putObj_heap_same hBlt, hmr.modify (g := fun e => { e with val := vv }) (p := fun e => decide ((e.2.2 : Int) = n)) hj k1 hvv (fun _ => ⟨rfl, rfl⟩) rfl (fun i f hf => by rw [decide_eq_true_eq]; exact honly i f hf), fun _ => ⟨rfl, rfl⟩, .refl _⟩
    refine ⟨_, ?_, hm', hstep, rfl⟩
    simp [Instr.entryStore, MapKept.run_getObj_map hB, Go.asInt, Go.asIntOf, hidx, MapKept.run_setObj_map _ hB, World.putObj]
  · cases h

/-- A new map. -/
theorem makeMap_ok {s : St} {t : TypeId} {q : TV × St} (h : makeMapV (tyOf P) t s = some q) (hm : Mem K L s.l s.h w) :
    ∃ z w' K', (Instr.makeMap t none).run P w = .ok z w' ∧ TVR K' L q.1 z ∧ Mem K' L q.2.l q.2.h w' ∧ Step K L w K' L w' ∧ q.2.e = s.e := by
  unfold makeMapV at h
  split at h <;> first | (cases h; done) | skip
  rename_i kt el hd
  cases h
  have hl := hm.hr.1
  have hnone : K[K.length]? = none := List.getElem?_eq_none (Nat.le_refl _)
  obtain ⟨hm', hstep⟩ := hm.updX (K' := K ++ [.m w.heap.size]) (h' := s.h ++ [.map true [] 0]) (w' := w.alloc (.map #[] 0)) K.length (B2 := w.heap.size) (e2 := .m w.heap.size) (x2 := .map true [] 0) (KM.le_append K _) (fun b' hb => by
      by_cases h1 : b' < K.length
      · rw [List.getElem?_append_left h1]
      · rw [List.getElem?_eq_none (by simp; omega), List.getElem?_eq_none (by omega)]) (fun b' hb => by
      rw [← hl] at hb
      by_cases h1 : b' < s.h.length
      · rw [List.getElem?_append_left h1]
      · rw [List.getElem?_eq_none (by simp; omega), List.getElem?_eq_none (by omega)]) (by simp [hl]) (by simp) (.inr rfl) (by rw [← hl]; simp)
    ⟨_, rfl, #[], 0, [], by show (w.heap.push _)[w.heap.size]? = _; simp, ⟨rfl, fun i e h => by simp at h, by simp, fun e h => by simp at h, by simp, fun e h => by simp at h⟩, fun _ => ⟨rfl, rfl⟩, .refl _⟩
    (by rintro s B ⟨B', l', ver, h1, _⟩; rw [hnone] at h1; cases h1) (.inr ⟨Nat.le_refl _, by simp⟩) (fun B hB _ => RowKit.Below.heap_alloc _ _ _ hB) (by simp) rfl rfl rfl
  refine ⟨.map (some w.heap.size), _, _, ?_, ?_, hm', hstep, rfl⟩
  · simp [Instr.makeMap, newObj, Sem.run]
  · simp only [TVR, VR]
    exact ⟨w.heap.size, by rw [hl]; simp, rfl⟩

omit [Good] in
theorem filter_all {α : Type} {p : α → Bool} {l : List α} (h : ∀ x ∈ l, p x = true) : l.filter p = l := List.filter_eq_self.2 h

omit [Good] in
theorem filter_one {α : Type} {p : α → Bool} : ∀ {l : List α} {j : Nat}, (∀ i x, l[i]? = some x → (p x = false ↔ i = j)) → j < l.length → l.filter p = l.eraseIdx j
  | [], j, _, h => by simp at h
  | x :: l, 0, h, _ => by
    have h0 := (h 0 x rfl).2 rfl
    rw [List.filter_cons_of_neg (by simp [h0]), List.eraseIdx_cons_zero]
    refine filter_all fun y hy => ?_
    obtain ⟨i, hi⟩ := List.getElem?_of_mem hy
    cases hp : p y with
    | true => rfl
    | false => have := (h (i + 1) y (by simpa using hi)).1 hp; omega
  | x :: l, j + 1, h, hl => by
    have h0 : p x = true := by
      cases hp : p x with
      | true => rfl
      | false => have := (h 0 x rfl).1 hp; omega
    rw [List.filter_cons_of_pos h0, List.eraseIdx_cons_succ]
    congr 1
    refine filter_one (fun i y hy => ?_) (by simpa using hl)
    exact (h (i + 1) y (by simpa using hy)).trans ⟨fun e => by omega, fun e => by omega⟩

omit [Good] in
theorem MapR.erase {es : List ME} {ents : Array MapEntry} {clk : Nat} (h : MapR K es ents clk) (j : Nat) : MapR K (es.eraseIdx j) (ents.eraseIdxIfInBounds j) clk := by
  have hsub := List.eraseIdx_sublist es j
  have harr : (ents.eraseIdxIfInBounds j).toList = ents.toList.eraseIdx j := by
    unfold Array.eraseIdxIfInBounds
    split
    · simp
    · rename_i hj
      rw [List.eraseIdx_of_length_le (by simpa using hj)]
  have hl : ents.toList.length = es.length := by simpa using h.size
  refine ⟨?_, fun i f hf => ?_, h.keys.sublist (hsub.map _), fun f hf => h.plain f (hsub.subset hf), h.borns.sublist (hsub.map _), fun f hf => h.clock f (hsub.subset hf)⟩
  · have := congrArg List.length harr
    simp only [Array.length_toList] at this
    rw [this, List.length_eraseIdx, List.length_eraseIdx, hl]
  · rw [List.getElem?_eraseIdx] at hf
    have hk : ∀ q : Nat, es[q]? = some f → ∃ m : MapEntry, ents.toList[q]? = some m ∧ VR K f.1 m.key ∧ VR K f.2.1 m.val ∧ m.born = f.2.2 := fun q hq => let ⟨m, k1, k2⟩ := h.at_ q f hq; ⟨m, by simpa using k1, k2⟩
    have goal : ∃ m : MapEntry, (ents.toList.eraseIdx j)[i]? = some m ∧ VR K f.1 m.key ∧ VR K f.2.1 m.val ∧ m.born = f.2.2 := by
      rw [List.getElem?_eraseIdx]
      split at hf
      · rename_i hij; rw [if_pos hij]; exact hk _ hf
      · rename_i hij; rw [if_neg hij]; exact hk _ hf
    obtain ⟨m, k1, k2⟩ := goal
    rw [← harr, Array.getElem?_toList] at k1
    exact ⟨m, k1, k2⟩

omit [Good] in
theorem perm_drop {k : V} {es es' : List ME} (hp : (es'.map unborn).Perm (es.map unborn)) :
    ((es'.filter fun e => !vsame k e.1).map unborn).Perm ((es.filter fun e => !vsame k e.1).map unborn) := by
  have e : ∀ l : List ME, (l.filter fun e => !vsame k e.1).map unborn = (l.map unborn).filter fun q => !vsame k q.1 := by
    intro l
    rw [List.filter_map]
    rfl
  rw [e, e]
  exact hp.filter _

theorem delete_ok (hT : TypesOk P) {s : St} {t kt' ty : TypeId} {m k : TV} {q : TV × St} {mv kv : Value} (h : deleteV (tyOf P) t m k s = some q) (hmv : TVR K L m mv) (hkv : TVR K L k kv) (hm : Mem K L s.l s.h w) :
    ∃ z w', (Builtin.delete_ #[t, kt'] ty #[mv, kv]).run P w = .ok z w' ∧ TVR K L q.1 z ∧ Mem K L q.2.l q.2.h w' ∧ Step K L w K L w' ∧ q.2.e = s.e := by
  unfold deleteV at h
  split at h <;> first | (cases h; done) | skip
  · rename_i kt el k hd
    obtain ⟨hk, h⟩ := grd_some h
    cases h
    obtain ⟨h1, h2, h3, h4⟩ := keyOk_some hk
    simp only [TVR, VR] at hmv
    subst hmv
    have hch := check_ok (w := w) true 3 kt k kv 6 9997 h2 hkv h3
    refine ⟨.tuple #[], w, ?_, by simp [TVR, VR, VRs], hm, Step.refl K L w, rfl⟩
    simp [Builtin.delete_, run_underlying (desc_map hd), hch]
  · rename_i kt el r k hd
    split at h
    · rename_i ex es c hr
      obtain ⟨hk, h⟩ := grd_some h
      cases h
      obtain ⟨h1, h2, h3, h4⟩ := keyOk_some hk
      obtain ⟨B, ents, clk, es', rfl, hK, hB, hmr, hex, hp⟩ := map_at hm.hr hr hmv
      obtain ⟨r', hf, hcase⟩ := found (w := w) hT hkv hmr hp hk
      have hch := check_ok (w := w) ents.isEmpty 3 kt k kv 6 9997 h2 hkv h3
      have hBlt : B < w.heap.size := (Array.getElem?_eq_some_iff.1 hB).1
      rcases hcase with ⟨j, e, f, me, rfl, g1, g2, g3, g4, g4', g5, g6, g7, g8⟩ | ⟨rfl, g1, g1'⟩
      · have hfil : (es'.filter fun e => !vsame k e.1) = es'.eraseIdx j := filter_one (fun i x hx => by rw [Bool.not_eq_false']; exact only_key hmr.keys g1 g3 i x hx) (List.getElem?_eq_some_iff.1 g1).1
        obtain ⟨hm', hstep⟩ := hm.mapSet (x := .map ex (es.filter fun e => !vsame k e.1) c) (o := .map (ents.eraseIdxIfInBounds j) clk) ⟨_, _, _, hr⟩ hK (by
          refine ⟨B, rfl, _, _, es'.filter fun e => !vsame k e.1, World.putObj_heap_same hBlt, by rw [hfil]; exact hmr.erase j, ?_, perm_drop hp⟩
          intro hx
          obtain ⟨e1, e2⟩ := hex hx
          exact ⟨by rw [e1], e2⟩)
        refine ⟨.tuple #[], _, ?_, by simp [TVR, VR, VRs], hm', hstep, rfl⟩
        simp [Builtin.delete_, run_underlying (desc_map hd), MapKept.run_getObj_map hB, hch, hf, MapKept.run_setObj_map _ hB, World.putObj]
      · have hfil' : (es'.filter fun e => !vsame k e.1) = es' := filter_all fun x hx => by
          have := List.find?_eq_none.1 g1' x hx
          simpa using this
        obtain ⟨hm', hstep⟩ := hm.mapSet (x := .map ex (es.filter fun e => !vsame k e.1) c) (o := .map ents clk) ⟨_, _, _, hr⟩ hK (by
          refine ⟨B, rfl, _, _, es', World.putObj_heap_same hBlt, hmr, ?_, ?_⟩
          · intro hx
            obtain ⟨e1, e2⟩ := hex hx
            subst e1
            exact ⟨hfil'.symm, e2⟩
          · have := perm_drop (k := k) hp
            rw [hfil'] at this
            exact this)
        refine ⟨.tuple #[], _, ?_, by simp [TVR, VR, VRs], hm', hstep, rfl⟩
        simp [Builtin.delete_, run_underlying (desc_map hd), MapKept.run_getObj_map hB, hch, hf, MapKept.run_setObj_map _ hB, World.putObj]
    · cases h

omit [Good] in
theorem cap_ok {t : TypeId} {x : TV} {n : Int} {xv : Value} (h : capV (tyOf P) t x = some n) (hx : TVR K L x xv) (ty : TypeId) (ats : Array TypeId) (hat : ats[0]? = some t) :
    (Builtin.cap_ ats ty #[xv]).run P w = .ok (.int .i64 n) w := by
  unfold capV at h
  split at h <;> first | (cases h; done) | skip
  rename_i e sa len cap hd
  cases h
  have hx' : SlR K sa len cap 0 xv := by simpa only [TVR, VR] using hx
  obtain ⟨a', cap', rfl, hcc, hz0⟩ := hx'.shape
  rw [hz0 rfl]
  simp [Builtin.cap_, hat, run_underlying (desc_slice hd), goInt]

omit [Good] in
theorem run_append_zeros {t u el ty : TypeId} {k : IntKind} {n : Nat} {zv : Value} {i : TypeInfo} (ht : P.underlying t = some (.slice el)) (hu : P.underlying u = some (.int k))
    (hi : P.info? el = some i) (hzv : i.zero = some zv) (hn : 0 < n) (hb : n * i.bytes ≤ 35184372088832) (hl : n ≤ 35184372088832) (hz : 0 < i.size) :
    ∃ newCap, n ≤ newCap ∧ (Builtin.append_ #[t, u] ty #[.slice none 0 0, .int .i64 n]).run P w =
      .ok (.slice (some ⟨w.heap.size, 0, none⟩) n newCap) (w.drew.alloc (.cells (Builtin.zeroCells zv.cells n ++ Builtin.zeroCells zv.cells (newCap - n)) el)) := by
  have h1 : ¬ (0 + n ≤ 0) := by omega
  have h3 : ¬ (Builtin.nextslicecap (0 + n) 0 * i.bytes > 281474976710656) := by
    have := growslice_fits (need := 0 + n) (old := 0) (bytes := i.bytes) (by omega) (by rw [Nat.zero_add]; omega)
    omega
  have hw : IntKind.i64.wrap (n : Int) = n := by
    simp only [IntKind.wrap, IntKind.signed, IntKind.bits]; simp; omega
  have h4 : ¬ ((n : Int) < 0) := by omega
  have h5 : ¬ ((n : Int) * (i.bytes : Int) > 281474976710656) := by
    have : ((n * i.bytes : Nat) : Int) ≤ 35184372088832 := by omega
    rw [Int.natCast_mul] at this
    omega
  have h6 : ¬ (IntKind.i64.max < (n : Int)) := by
    have : IntKind.i64.max = 9223372036854775807 := by decide
    omega
  have h6' : ¬ (9223372036854775807 < (n : Int)) := by omega
  have h7 : ¬ (n * i.size = 0) := by have := Nat.mul_pos hn hz; omega
  refine ⟨Question.cut (.appendCap (0 + n) 0 el) (w.tape w.drawn (.appendCap (0 + n) 0 el)), by simp only [Question.cut]; omega, ?_⟩
  have h3' : ¬ (281474976710656 < Builtin.nextslicecap n 0 * i.bytes) := by rw [Nat.zero_add] at h3; omega
  have h8 : ¬ (n = 0) := by omega
  have h5' : ¬ (281474976710656 < (n : Int) * (i.bytes : Int)) := by omega
  simp [Builtin.append_, run_underlying ht, run_underlying hu, run_sizeOf hi, Go.asInt, Go.asIntOf, hw, h4, h5', typeInfo, hi, h8, h6, h6', h3', zeroValue, hzv, Question.forced, Builtin.firstCells, h7, newRow]

theorem appendZ_ok (hT : TypesOk P) {s : St} {t u : TypeId} {k : IntKind} {x y : TV} {r : TV × St} {xv yv : Value} (h : appendZ (tyOf P) t s x y = some r) (hu : (tyOf P u).desc = .int k) (hx : TVR K L x xv) (hy : TVR K L y yv) (hm : Mem K L s.l s.h w) {ty : TypeId} :
    ∃ z w' K', (Builtin.append_ #[t, u] ty #[xv, yv]).run P w = .ok z w' ∧ TVR K' L r.1 z ∧ Mem K' L r.2.l r.2.h w' ∧ Step K L w K' L w' ∧ r.2.e = s.e := by
  unfold appendZ at h
  split at h <;> first | (cases h; done) | skip
  rename_i el n hd
  have ht := desc_slice hd
  have hie := hT.elem t el (desc_lt hd (by simp)) (.inl ht)
  obtain ⟨⟨g1, g2, g3, g4, g5⟩, h⟩ := grd_some h
  obtain ⟨i, zv, hi, hzv, hzs, hzr, hzc⟩ := zero_ok (K := K) hT g4 hie g5
  have hsz := size_of hi
  have hbytes : (tyOf P el).bytes = i.bytes := by simp [tyOf, Program.bytesOf, hi]
  obtain ⟨m, rfl⟩ : ∃ m : Nat, n = m := ⟨n.toNat, by omega⟩
  have hx' : SlR K .nil 0 0 0 xv := by simpa only [TVR, VR] using hx
  obtain ⟨_, _, _, rfl⟩ := hx'
  rw [TVR_int hy]
  have hb : m * i.bytes ≤ 35184372088832 := by rw [hbytes] at g2; omega
  obtain ⟨newCap, hge, hrun⟩ := run_append_zeros (w := w) (ty := ty) ht (desc_int hu) hi hzv (by omega) hb (by omega) (by rw [← hsz]; exact g5)
  rw [Int.toNat_natCast] at h
  cases h
  obtain ⟨hmd, hstd⟩ := hm.drew
  have hz0 : 0 < (tyOf P el).zero.length := by rw [g4]; exact g5
  obtain ⟨hv, hc⟩ := reps_ok hzr hzc hz0 m
  have hsize : (Builtin.zeroCells zv.cells m ++ Builtin.zeroCells zv.cells (newCap - m)).size = newCap * (tyOf P el).size := by
    rw [Array.size_append, size_zero, size_zero, hzs, ← Nat.add_mul]
    congr 1; omega
  have hcr : CR K (reps m (tyOf P el).zero) (Builtin.zeroCells zv.cells m ++ Builtin.zeroCells zv.cells (newCap - m)) 0 := by
    have := newRow_cells (K := K) (old := reps m (tyOf P el).zero) (new := []) (o' := Builtin.zeroCells zv.cells m) (n' := #[]) (zs := Builtin.zeroCells zv.cells (newCap - m)) hv (by simp [VRs]) hc rfl
    simpa using this
  obtain ⟨hm', hst'⟩ := hmd.alloc (ty := el) hcr (by rw [hsize, reps_length, g4]; exact Nat.mul_le_mul_right _ hge) (0, 0) (.inr (Nat.le_refl 0))
  refine ⟨_, _, _, hrun, ?_, hm', hstd.trans hst', rfl⟩
  simp only [TVR, VR, SlR]
  refine ⟨_, newCap, rfl, by rw [hm.hr.1]; exact new_at _, hge, fun e => by omega, fun _ => ?_⟩
  intro g' B S N k hK _
  rw [hm.hr.1] at hK
  simp at hK
  obtain ⟨_, rfl, rfl, rfl, _⟩ := hK
  have := hsize
  simp only [Array.size_append] at this ⊢
  omega
end Go.Ev
