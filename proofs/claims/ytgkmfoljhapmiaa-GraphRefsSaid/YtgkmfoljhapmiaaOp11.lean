/-
Every operation of the interpreter that is no call of a function is the model's.
-/
import Derived.Test.YtgkmfoljhapmiaaOp10
import Derived.Test.YtgkmfoljhapmiaaOpM
set_option linter.unusedSimpArgs false
set_option linter.unusedVariables false
namespace Go.Ev
variable [Good] {P : Program} {K : KM} {L : KL} {w : World}

theorem Gives.mem {s : St} {m : Sem Value} {r : TV × St} (h : ∃ z w' K' L', m.run P w = .ok z w' ∧ TVR K' L' r.1 z ∧ Mem K' L' r.2.l r.2.h w' ∧ Step K L w K' L' w' ∧ r.2.e = s.e) :
    Gives P K L s w (do pure (.value (← m))) r := by
  obtain ⟨z, w', K', L', h1, h2, h3, h4, h5⟩ := h
  exact ⟨_, z, w', K', L', by simp [h1], .inl rfl, h2, h3, h4, h5⟩

omit [Good] in
theorem opds_ok {e : List TV} {a : Act} (he : ER K L e a.tmps) (args : Array Operand) :
    (∀ (i : Nat) (x : TV), (args.toList.map (opd e))[i]? = some x → ∃ y, (args.map a.eval).toList[i]? = some y ∧ TVR K L x y) ∧ (args.map a.eval).toList.length = (args.toList.map (opd e)).length := by
  refine ⟨fun i x hi => ?_, by simp⟩
  rw [List.getElem?_map] at hi
  cases ho : args.toList[i]? with
  | none => rw [ho] at hi; cases hi
  | some o =>
    rw [ho] at hi; cases hi
    have : args[i]? = some o := by simpa using ho
    exact ⟨a.eval o, by simp [this], opd_ok he o⟩

omit [Good] in
theorem parts_eq (a : Act) (parts : Array (Nat × Operand)) : (parts.map fun (i, x) => (i, a.eval x)) = (parts.toList.map fun p => (p.1, a.eval p.2)).toArray := by
  apply Array.ext'
  simp

theorem builtin_ok (hT : TypesOk P) {s : St} {a : Act} (he : ER K L s.e a.tmps) (hm : Mem K L s.l s.h w) {b : Builtin} {ats : Array TypeId} {args : Array Operand} {r : TV × St} {ty : TypeId} {cs : Array Bool}
    (h : builtinV (tyOf P) b ats.toList (args.toList.map (opd s.e)) s = some r) : Gives P K L s w (builtin b ats ty cs (args.map a.eval)) r := by
  have ho := opds_ok he args
  unfold builtinV at h
  split at h <;> first | (cases h; done) | skip
  · rename_i t x hats hargs
    obtain ⟨n, hn, h⟩ := bnd_some h
    cases h
    have hat : ats[0]? = some t := by rw [← Array.getElem?_toList, hats]; rfl
    obtain ⟨o, rfl⟩ : ∃ o, args = #[o] := by
      obtain ⟨l⟩ := args
      cases l with
      | nil => cases hargs
      | cons o l => cases l with
        | nil => exact ⟨o, rfl⟩
        | cons _ _ => cases hargs
    simp at hargs; subst hargs
    have := len_ok (P := P) hn (opd_ok he o) hm.hr ty ats hat
    exact .val hm ⟨_, by simpa using this, by simp only [TVR, VR]⟩
  · rename_i t u x y hats hargs
    obtain ⟨o1, o2, rfl⟩ : ∃ o1 o2, args = #[o1, o2] := by
      obtain ⟨l⟩ := args
      match l, hargs with
      | [o1, o2], _ => exact ⟨o1, o2, rfl⟩
    simp at hargs
    obtain ⟨rfl, rfl⟩ := hargs
    obtain ⟨l⟩ := ats
    simp at hats; subst hats
    have key : appendV (tyOf P) t s (opd s.e o1) (opd s.e o2) = some r → ((∃ e, (tyOf P u).desc = .slice e) ∨ (tyOf P u).desc = .str) → Gives P K L s w (builtin .append #[t, u] ty cs #[a.eval o1, a.eval o2]) r := by
      intro h hu
      obtain ⟨z, w', K', h1, h2, h3, h4, h5⟩ := append_ok hT h (opd_ok he o1) (opd_ok he o2) hm hu ty
      exact .mem ⟨z, w', K', L, h1, h2, h3, h4, h5⟩
    split at h <;> first | (cases h; done) | skip
    · rename_i e hd; simpa using key h (.inl ⟨e, hd⟩)
    · rename_i hd; simpa using key h (.inr hd)
    · rename_i k hd
      obtain ⟨z, w', K', h1, h2, h3, h4, h5⟩ := appendZ_ok (u := u) (ty := ty) hT h hd (opd_ok he o1) (opd_ok he o2) hm
      have : Gives P K L s w (builtin .append #[t, u] ty cs #[a.eval o1, a.eval o2]) r := .mem ⟨z, w', K', L, h1, h2, h3, h4, h5⟩
      simpa using this
  · rename_i t u x y hats hargs
    obtain ⟨o1, o2, rfl⟩ : ∃ o1 o2, args = #[o1, o2] := by
      obtain ⟨l⟩ := args
      match l, hargs with
      | [o1, o2], _ => exact ⟨o1, o2, rfl⟩
    simp at hargs
    obtain ⟨rfl, rfl⟩ := hargs
    obtain ⟨l⟩ := ats
    simp at hats; subst hats
    obtain ⟨z, w', h1, h2, h3, h4, h5⟩ := copy_ok (u := u) hT h (opd_ok he o1) (opd_ok he o2) hm ty
    have : Gives P K L s w (builtin .copy #[t, u] ty cs #[a.eval o1, a.eval o2]) r := .mem ⟨z, w', K, L, h1, h2, h3, h4, h5⟩
    simpa using this
  · rename_i t x hats hargs
    obtain ⟨o1, rfl⟩ : ∃ o1, args = #[o1] := by
      obtain ⟨l⟩ := args
      match l, hargs with
      | [o1], _ => exact ⟨o1, rfl⟩
    simp at hargs
    subst hargs
    obtain ⟨l⟩ := ats
    simp at hats; subst hats
    obtain ⟨z, w', h1, h2, h3, h4, h5⟩ := clear_ok hT h (opd_ok he o1) hm ty
    have : Gives P K L s w (builtin .clear #[t] ty cs #[a.eval o1]) r := .mem ⟨z, w', K, L, h1, h2, h3, h4, h5⟩
    simpa using this
  · rename_i t u x y hats hargs
    obtain ⟨o1, o2, rfl⟩ : ∃ o1 o2, args = #[o1, o2] := by
      obtain ⟨l⟩ := args
      match l, hargs with
      | [o1, o2], _ => exact ⟨o1, o2, rfl⟩
    simp at hargs
    obtain ⟨rfl, rfl⟩ := hargs
    obtain ⟨l⟩ := ats
    simp at hats; subst hats
    obtain ⟨z, w', h1, h2, h3, h4, h5⟩ := delete_ok (kt' := u) (ty := ty) hT h (opd_ok he o1) (opd_ok he o2) hm
    have : Gives P K L s w (builtin .delete #[t, u] ty cs #[a.eval o1, a.eval o2]) r := .mem ⟨z, w', K, L, h1, h2, h3, h4, h5⟩
    simpa using this
  · rename_i t x hats hargs
    obtain ⟨n, hn, h⟩ := bnd_some h
    cases h
    have hat : ats[0]? = some t := by rw [← Array.getElem?_toList, hats]; rfl
    obtain ⟨o, rfl⟩ : ∃ o, args = #[o] := by
      obtain ⟨l⟩ := args
      match l, hargs with
      | [o], _ => exact ⟨o, rfl⟩
    simp at hargs; subst hargs
    have := cap_ok (P := P) (w := w) hn (opd_ok he o) ty ats hat
    exact .val hm ⟨_, by simpa using this, by simp only [TVR, VR]⟩
  · obtain ⟨v, hv, h⟩ := bnd_some h
    cases h
    unfold minmaxV at hv
    split at hv
    · rename_i k n l hargs
      obtain ⟨lo⟩ := args
      cases lo with
      | nil => cases hargs
      | cons o lo =>
        simp at hargs
        obtain ⟨h1, h2⟩ := hargs
        have ho1 := opd_ok he o
        rw [h1] at ho1
        have hh := opds_ok he lo.toArray
        simp only [List.toList_toArray, h2] at hh
        obtain ⟨z, hz, hvz⟩ := minmax_ok (P := P) (w := w) (K := K) (L := L) l _ n k v hv hh.1 hh.2
        refine .val hm ⟨z, ?_, hvz⟩
        simpa [Builtin.max_, TVR_int ho1] using hz
    · cases hv
  · obtain ⟨v, hv, h⟩ := bnd_some h
    cases h
    unfold minmaxV at hv
    split at hv
    · rename_i k n l hargs
      obtain ⟨lo⟩ := args
      cases lo with
      | nil => cases hargs
      | cons o lo =>
        simp at hargs
        obtain ⟨h1, h2⟩ := hargs
        have ho1 := opd_ok he o
        rw [h1] at ho1
        have hh := opds_ok he lo.toArray
        simp only [List.toList_toArray, h2] at hh
        obtain ⟨z, hz, hvz⟩ := minmax_ok (P := P) (w := w) (K := K) (L := L) l _ n k v hv hh.1 hh.2
        refine .val hm ⟨z, ?_, hvz⟩
        simpa [Builtin.min_, TVR_int ho1] using hz
    · cases hv

theorem exPure_ok (hT : TypesOk P) {s : St} {a : Act} (hs : SR K L s a w) (o : Oper) {sl : Option Nat} {r : TV × St} (h : exPure (tyOf P) sl o.op s = some r) :
    Gives P K L s w (execOp a.eval o) r := by
  have he := hs.env
  have hm := hs.mem
  unfold exPure at h
  split at h <;> first | (cases h; done) | skip
  case h_1 x ho => cases h; exact .same hm (by simp [execOp, ho]) (opd_ok he x)
  case h_2 x ho => cases h; exact .same hm (by simp [execOp, ho]) (opd_ok he x)
  case h_3 c x y ho =>
    split at h
    · rename_i t hc
      cases h
      have h1 := opd_ok he c
      rw [hc] at h1
      have h2 := TVR_bool h1
      refine .same (y := if t then a.eval x else a.eval y) hm (by simp [execOp, ho, h2, asBool]) ?_
      cases t
      · exact opd_ok he y
      · exact opd_ok he x
    · cases h
  case h_4 el x ho =>
    split at h
    · rename_i v hv
      obtain ⟨c, hc, h⟩ := bnd_some h
      have h1 := opd_ok he x
      rw [hv] at h1
      obtain ⟨h2, h3⟩ := cellsV_ok (K := K) h1 hc
      obtain ⟨K', L', g1, g2, g3, g4⟩ := newVar_ok h hm el h2 h3
      refine ⟨_, _, _, K', L', ?_, .inl rfl, g1, g2, g3, g4⟩
      simp [execOp, ho, Instr.box, Go.newVar, newRow]
    · cases h
  case h_5 el ho =>
    obtain ⟨⟨h1, h2⟩, h⟩ := grd_some h
    have hie : (P.info? el).isSome = true := by
      cases hi : P.info? el with
      | some i => rfl
      | none => simp [tyOf, Program.cellsOf, hi] at h2
    obtain ⟨i, zv, hi, hzv, hzs, hzr, hzc⟩ := zero_ok (K := K) hT h1 hie h2
    obtain ⟨K', L', g1, g2, g3, g4⟩ := newVar_ok h hm el hzr hzc
    refine ⟨_, _, _, K', L', ?_, .inl rfl, g1, g2, g3, g4⟩
    simp [execOp, ho, Instr.alloc, zeroValue, typeInfo, hi, hzv, Go.newVar, newRow]
  case h_6 t parts ho =>
    obtain ⟨v, hv, h⟩ := bnd_some h
    cases h
    obtain ⟨z, hz, hvz⟩ := build_ok (w := w) hT he hv
    have := Gives.val (s := s) (v := .v v) hm ⟨z, hz, hvz⟩
    simpa only [execOp, ho, parts_eq] using this
  case h_7 t n parts ho =>
    obtain ⟨z, w', K', L', h1, h2, h3, h4, h5⟩ := buildSlice_ok (w := w) hT he h hm
    have := Gives.mem (s := s) (r := r) ⟨z, w', K', L', h1, h2, h3, h4, h5⟩
    simpa only [execOp, ho, parts_eq] using this
  case h_8 t x ho =>
    obtain ⟨v, hv, h⟩ := bnd_some h
    cases h
    obtain ⟨y, hy, hr⟩ := load_ok hv (opd_ok he x) hm
    have := Gives.val (s := s) (v := .v v) hm ⟨y, hy, hr⟩
    simpa only [execOp, ho] using this
  case h_9 t x y ho =>
    split at h
    · rename_i v hv
      obtain ⟨s', hs', h⟩ := bnd_some h
      cases h
      have h1 := opd_ok he y
      rw [hv] at h1
      obtain ⟨w', g1, g2, g3, g4⟩ := store_ok hs' (opd_ok he x) h1 hm
      exact ⟨.skip, undef, w', K, L, by simp [execOp, ho, g1], .inr ⟨rfl, rfl⟩, rfl, g2, g3, g4⟩
    · cases h
  case h_10 x ho =>
    obtain ⟨v, hv, h⟩ := bnd_some h
    cases h
    obtain ⟨z, hz, hr⟩ := nilCheck_ok (P := P) (w := w) hv (opd_ok he x) o x ho rfl
    exact .same hm hz hr
  case h_11 op t x y t2 ho =>
    split at h
    · rename_i u v hu hv
      obtain ⟨z, hz, h⟩ := bnd_some h
      cases h
      have h1 := opd_ok he x
      have h2 := opd_ok he y
      rw [hu] at h1
      rw [hv] at h2
      obtain ⟨q, hq, hr⟩ := binOp_ok (w := w) hT hz h1 h2 x y
      have := Gives.val (s := s) (v := .v z) hm ⟨q, hq, hr⟩
      simpa only [execOp, ho] using this
    · cases h
  case h_12 op t x ho =>
    split at h
    · rename_i u hu
      obtain ⟨z, hz, h⟩ := bnd_some h
      cases h
      have h1 := opd_ok he x
      rw [hu] at h1
      obtain ⟨q, hq, hr⟩ := unOp_ok (P := P) (w := w) hz h1
      have := Gives.val (s := s) (v := .v z) hm ⟨q, hq, hr⟩
      simpa only [execOp, ho] using this
    · cases h
  case h_13 src dst x ho =>
    obtain ⟨z, w', K', h1, h2, h3, h4, h5⟩ := conv_ok (w := w) hT h (opd_ok he x) hm
    have := Gives.mem (s := s) (r := r) ⟨z, w', K', L, h1, h2, h3, h4, h5⟩
    simpa only [execOp, ho] using this
  case h_14 f first cap ho =>
    rcases cnd_some h with ⟨hf, h⟩ | ⟨_, h⟩
    · obtain ⟨vs, hvs, h⟩ := bnd_some h
      cases h
      have hh := opds_ok he cap
      have hv := allV_ok hvs hh.1 hh.2
      have hfe : first = #[] := by simpa using hf
      subst hfe
      refine .same (y := .func (.func f) #[] (cap.map a.eval)) hm (by simp [execOp, ho, Instr.makeFunc]) ?_
      simp only [TVR, VR]
      exact ⟨_, rfl, hv⟩
    · cases h
  case h_15 t l c ho =>
    obtain ⟨z, w', K', h1, h2, h3, h4, h5⟩ := makeSlice_ok (w := w) hT h (opd_ok he l) (opd_ok he c) hm
    have := Gives.mem (s := s) (r := r) ⟨z, w', K', L, h1, h2, h3, h4, h5⟩
    simpa only [execOp, ho] using this
  case h_16 t ho =>
    obtain ⟨z, w', K', h1, h2, h3, h4, h5⟩ := makeMap_ok (w := w) h hm
    have := Gives.mem (s := s) (r := r) ⟨z, w', K', L, h1, h2, h3, h4, h5⟩
    simpa only [execOp, ho, Option.map_none] using this
  case h_17 t m k ok ho =>
    obtain ⟨v, hv, h⟩ := bnd_some h
    cases h
    obtain ⟨z, hz, hr⟩ := lookup_ok (w := w) hT hv (opd_ok he m) (opd_ok he k) hm
    have := Gives.val (s := s) (v := v) hm ⟨z, hz, hr⟩
    simpa only [execOp, ho] using this
  case h_18 t m k x ho =>
    obtain ⟨s', hs', h⟩ := bnd_some h
    cases h
    obtain ⟨w', g1, g2, g3, g4⟩ := update_ok hT hs' (opd_ok he m) (opd_ok he k) (opd_ok he x) hm
    exact ⟨.skip, undef, w', K, L, by simp [execOp, ho, g1], .inr ⟨rfl, rfl⟩, rfl, g2, g3, g4⟩
  case h_19 t m k x ho =>
    obtain ⟨s', hs', h⟩ := bnd_some h
    cases h
    obtain ⟨w', g1, g2, g3, g4⟩ := update_ok hT hs' (opd_ok he m) (opd_ok he k) (opd_ok he x) hm
    exact ⟨.skip, undef, w', K, L, by simp [execOp, ho, g1], .inr ⟨rfl, rfl⟩, rfl, g2, g3, g4⟩
  case h_20 t m k ho =>
    obtain ⟨z, w', h1, h2, h3, h4, h5⟩ := entry_ok hT h (opd_ok he m) (opd_ok he k) hm
    have := Gives.mem (s := s) (r := r) ⟨z, w', K, L, h1, h2, h3, h4, h5⟩
    simpa only [execOp, ho] using this
  case h_21 t m st x ho =>
    obtain ⟨s', hs', h⟩ := bnd_some h
    cases h
    obtain ⟨w', g1, g2, g3, g4⟩ := entryStore_ok (P := P) (t := t) hs' (opd_ok he m) (opd_ok he st) (opd_ok he x) hm
    exact ⟨.skip, undef, w', K, L, by simp [execOp, ho, g1], .inr ⟨rfl, rfl⟩, rfl, g2, g3, g4⟩
  case h_22 t x lo hi mx ho =>
    obtain ⟨v, hv, h⟩ := bnd_some h
    cases h
    obtain ⟨z, hz, hr⟩ := slice_ok (P := P) (w := w) hT he hv (opd_ok he x)
    have := Gives.val (s := s) (v := v) hm ⟨z, hz, hr⟩
    simpa only [execOp, ho] using this
  case h_23 t x f ho =>
    obtain ⟨v, hv, h⟩ := bnd_some h
    cases h
    obtain ⟨z, hz, hr⟩ := fieldAddr_ok (P := P) (w := w) hT hv (opd_ok he x)
    have := Gives.val (s := s) (v := v) hm ⟨z, hz, hr⟩
    simpa only [execOp, ho] using this
  case h_24 t x f ho =>
    split at h
    · rename_i cs hx
      obtain ⟨p, hp, h⟩ := bnd_some h
      obtain ⟨v, hv, h⟩ := bnd_some h
      cases h
      have h1 := opd_ok he x
      rw [hx] at h1
      obtain ⟨cs', hcs, h2, h3⟩ : ∃ cs', a.eval x = .agg cs' ∧ VRs K cs cs'.toList ∧ cs.all isCell = true := by simpa only [TVR, VR] using h1
      obtain ⟨gs, fd, hu, hf, rfl, hi⟩ := fieldOff_ok hT hp
      obtain ⟨z, hz, hr⟩ := part_ok (P := P) h2 h3 hv w
      have hrun : (Instr.field t (a.eval x) f).run P w = .ok z w := by
        simp only [Array.toArray_toList] at hz
        simp [Instr.field, run_underlying hu, hf, hcs, asAgg, hz]
      have := Gives.val (s := s) (v := .v v) hm ⟨z, hrun, hr⟩
      simpa only [execOp, ho] using this
    · cases h
  case h_25 t x i ho =>
    obtain ⟨v, hv, h⟩ := bnd_some h
    cases h
    obtain ⟨z, hz, hr⟩ := indexAddr_ok (P := P) (w := w) hT hv (opd_ok he x) (opd_ok he i)
    have := Gives.val (s := s) (v := v) hm ⟨z, hz, hr⟩
    simpa only [execOp, ho] using this
  case h_26 t x i ho =>
    obtain ⟨v, hv, h⟩ := bnd_some h
    cases h
    obtain ⟨z, hz, hr⟩ := index_ok (P := P) (w := w) hT hv (opd_ok he x) (opd_ok he i)
    have := Gives.val (s := s) (v := .v v) hm ⟨z, hz, hr⟩
    simpa only [execOp, ho] using this
  case h_27 x i ho =>
    split at h
    · rename_i vs hx
      obtain ⟨v, hv, h⟩ := bnd_some h
      cases h
      have h1 := opd_ok he x
      rw [hx] at h1
      obtain ⟨z, hz, hr⟩ := extract_ok (P := P) (w := w) h1 hv
      have := Gives.val (s := s) (v := .v v) hm ⟨z, hz, hr⟩
      simpa only [execOp, ho] using this
    · cases h
  case h_28 c ho =>
    split at h
    · rename_i b hc
      have := builtin_ok (ty := o.type) (cs := c.args.map fun | .const _ => true | _ => false) hT he hm h
      obtain ⟨n, y, w', K', L', h1, h2⟩ := this
      refine ⟨n, y, w', K', L', ?_, h2⟩
      simp [execOp, ho, resolve, hc, invoke]
      exact h1
    · cases h

end Go.Ev
