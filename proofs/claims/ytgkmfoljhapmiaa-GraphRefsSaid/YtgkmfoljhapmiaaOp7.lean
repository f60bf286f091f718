/-
Building; the least and the greatest; what makes or writes memory.
-/
import Derived.Test.YtgkmfoljhapmiaaOp6
import Derived.Laws.MakeOwn
import Derived.Lib.ConvBytes
set_option linter.unusedSimpArgs false
set_option linter.unusedVariables false
namespace Go.Ev
variable [Good] {P : Program} {K : KM} {L : KL} {w : World}

omit [Good] in
theorem mapM_info {l : List Field} (h : ∀ f ∈ l, (P.info? f.type).isSome = true) :
    l.mapM (fun f => (P.info? f.type).map fun i => (f.offset, i.size)) = some (l.map fun f => (f.offset, (tyOf P f.type).size)) := by
  induction l with
  | nil => rfl
  | cons f l ih =>
    obtain ⟨i, hi⟩ := Option.isSome_iff_exists.1 (h f (by simp))
    rw [List.mapM_cons, hi, ih fun g hg => h g (by simp [hg])]
    simp [size_of hi]

omit [Good] in
theorem build_ok (hT : TypesOk P) {e : List TV} {a : Act} (he : ER K L e a.tmps) {t : TypeId} {parts : List (Nat × Operand)} {v : V} (h : buildV (tyOf P) e t parts = some v) :
    ∃ z, (Instr.build t (parts.map fun p => (p.1, a.eval p.2)).toArray).run P w = .ok z w ∧ VR K v z := by
  unfold buildV at h
  split at h <;> first | (cases h; done) | skip
  · rename_i fs hd
    obtain ⟨⟨hz, h0⟩, h⟩ := grd_some h
    obtain ⟨c, hc, h⟩ := bnd_some h
    cases h
    obtain ⟨gs, hu, hfs⟩ := desc_struct hd
    obtain ⟨i, hi⟩ := info_of hu
    · obtain ⟨i', z, hi', hzz, hzs, hzr, hzc⟩ := zero_ok (K := K) hT hz (by simp [hi]) h0
      have hpl : ∀ (j : Nat) (q : Nat × Nat), (bnd fs[j]? fun p => some (p.1, (tyOf P p.2).size)) = some q → ((gs.toList.map fun f => (f.offset, (tyOf P f.type).size)).toArray[·]?) j = some q := by
        intro j q hq
        obtain ⟨p, hp, hq⟩ := bnd_some hq
        cases hq
        subst hfs
        rw [List.getElem?_map] at hp
        cases hg : gs.toList[j]? with
        | none => rw [hg] at hp; cases hp
        | some f =>
          rw [hg] at hp; cases hp
          simp only [List.getElem?_toArray, List.getElem?_map, hg, Option.map_some]
      obtain ⟨cells', hf, hr, hc', _⟩ := fill_ok he hpl parts (tyOf P t).zero c z.cells hc hzr hzc
      refine ⟨.agg cells', run_build w t _ cells' ?_, by simp only [VR]; exact ⟨_, rfl, hr, hc'⟩⟩
      have hm := mapM_info (P := P) (l := gs.toList) fun f hf => hT.field t gs f (desc_lt hd (by simp)) hu hf
      simp only [Program.built, hu, hi', hzz, hm, List.toList_toArray]
      exact hf
  · rename_i n el hd
    obtain ⟨⟨hz, h0⟩, h⟩ := grd_some h
    obtain ⟨c, hc, h⟩ := bnd_some h
    cases h
    have hu := desc_arr hd
    obtain ⟨i, hi⟩ := info_of hu
    · obtain ⟨i', z, hi', hzz, hzs, hzr, hzc⟩ := zero_ok (K := K) hT hz (by simp [hi]) h0
      obtain ⟨ie, hie⟩ := Option.isSome_iff_exists.1 (hT.elem t el (desc_lt hd (by simp)) (.inr ⟨n, hu⟩))
      obtain ⟨cells', hf, hr, hc', _⟩ := fill_ok he (pl' := fun i => some (i * ie.size, ie.size)) (fun j q hq => by rw [size_of hie] at hq; exact hq) parts (tyOf P t).zero c z.cells hc hzr hzc
      refine ⟨.agg cells', run_build w t _ cells' ?_, by simp only [VR]; exact ⟨_, rfl, hr, hc'⟩⟩
      simp only [Program.built, hu, hi', hzz, hie, List.toList_toArray]
      exact hf

omit [Good] in
theorem minmax_ok {mx : Bool} : ∀ (l : List TV) (ys : List Value) (a : Int) (k : IntKind) (v : V), minmax mx a k l = some v → (∀ (i : Nat) (x : TV), l[i]? = some x → ∃ y, ys[i]? = some y ∧ TVR K L x y) → ys.length = l.length →
    ∃ z, (ys.foldlM (fun x y => if mx then Builtin.max2 x y else Builtin.min2 x y) (.int k a) : Sem Value).run P w = .ok z w ∧ VR K v z
  | [], ys, a, k, v, h, _, hl => by
    simp only [minmax] at h; cases h
    cases ys with
    | nil => exact ⟨.int k a, rfl, by simp [VR]⟩
    | cons _ _ => simp at hl
  | x :: l, ys, a, k, v, h, hr, hl => by
    cases ys with
    | nil => simp at hl
    | cons y ys =>
      obtain ⟨y', hy, hxy⟩ := hr 0 x (by simp)
      simp at hy; subst hy
      cases x with
      | v xv =>
        cases xv with
        | int k' b =>
          simp only [minmax] at h
          obtain ⟨hk, h'⟩ := grd_some h
          subst hk
          obtain ⟨z, hz, hv⟩ := minmax_ok l ys _ k v h' (fun i x hi => by simpa using hr (i + 1) x (by simpa using hi)) (by simpa using hl)
          refine ⟨z, ?_, hv⟩
          rw [TVR_int hxy]
          have : (if mx then Builtin.max2 (.int k a) (.int k b) else Builtin.min2 (.int k a) (.int k b) : Sem Value).run P w = .ok (.int k (cond mx (if a < b then b else a) (if b < a then b else a))) w := by
            cases mx <;> simp [Builtin.max2, Builtin.min2]
          rw [List.foldlM_cons, Sem.run_bind, this, Result.andThen_ok]
          exact hz
        | _ => cases h
      | _ => cases h

omit [Good] in
theorem allV_ok : ∀ {l : List TV} {ys : List Value} {vs : List V}, allV l = some vs → (∀ (i : Nat) (x : TV), l[i]? = some x → ∃ y, ys[i]? = some y ∧ TVR K L x y) → ys.length = l.length → VRs K vs ys
  | [], ys, vs, h, _, hl => by
    simp only [allV] at h; cases h
    simp only [VRs]; simpa using hl
  | x :: l, ys, vs, h, hr, hl => by
    cases ys with
    | nil => simp at hl
    | cons y ys =>
      obtain ⟨y', hy, hxy⟩ := hr 0 x (by simp)
      simp at hy; subst hy
      cases x with
      | v xv =>
        simp only [allV] at h
        obtain ⟨us, hu, h'⟩ := bnd_some h
        cases h'
        simp only [VRs]
        exact ⟨y, ys, rfl, hxy, allV_ok hu (fun i x hi => by simpa using hr (i + 1) x (by simpa using hi)) (by simpa using hl)⟩
      | _ => cases h

/-- A new block of cells. -/
theorem Mem.alloc {l : Locs} {h : Heap} (hm : Mem K L l h w) {c : List V} {c' : Array Value} {ty : TypeId} (hc : CR K c c' 0) (hlen : c.length ≤ c'.size) (fr : Nat × Nat) (hfr : c'.size ≤ fr.1 ∨ fr.2 ≤ fr.1) :
    Mem (K ++ [.c 0 w.heap.size 0 c'.size true]) L l (h ++ [.cells 0 true c]) (w.alloc (.cells c' ty fr)) ∧
    Step K L w (K ++ [.c 0 w.heap.size 0 c'.size true]) L (w.alloc (.cells c' ty fr)) := by
  have hl := hm.hr.1
  have hnone : K[K.length]? = none := List.getElem?_eq_none (Nat.le_refl _)
  refine hm.upd K.length (g2 := 0) (B2 := w.heap.size) (S2 := 0) (N2 := c'.size) (k2 := true) (c2 := c) (KM.le_append K _) (fun b' hb => ?_) (fun b' hb => ?_) (by simp [hl]) (by simp) rfl (by rw [← hl]; simp) ?_ ?_ (.inr ⟨Nat.le_refl _, by simp⟩) (fun B hB _ => RowKit.Below.heap_alloc _ _ _ hB) (by simp) rfl rfl rfl
  · by_cases h1 : b' < K.length
    · rw [List.getElem?_append_left h1]
    · rw [List.getElem?_eq_none (by simp; omega), List.getElem?_eq_none (by omega)]
  · rw [← hl] at hb
    by_cases h1 : b' < h.length
    · rw [List.getElem?_append_left h1]
    · rw [List.getElem?_eq_none (by simp; omega), List.getElem?_eq_none (by omega)]
  · refine ⟨_, _, _, rfl, c', ty, fr, ?_, rfl, by omega, hc.mono (KM.le_append K _), fun _ => hfr⟩
    show (w.heap.push _)[w.heap.size]? = _
    simp
  · rintro s B ⟨B', l', ver, h1, _⟩
    rw [hnone] at h1; cases h1

omit [Good] in
theorem new_at (N : Nat) : AtR (K ++ [.c 0 w.heap.size 0 N true]) K.length 0 0 ⟨w.heap.size, 0, none⟩ :=
  ⟨0, w.heap.size, 0, N, true, by simp, Nat.le_refl _, fun _ => rfl⟩

end Go.Ev
