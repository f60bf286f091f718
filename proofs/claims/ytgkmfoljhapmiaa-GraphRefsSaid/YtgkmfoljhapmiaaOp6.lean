/-
Slicing, building, conversions, the least and the greatest.
-/
import Derived.Test.YtgkmfoljhapmiaaOp5
set_option linter.unusedSimpArgs false
set_option linter.unusedVariables false
namespace Go.Ev
variable [Good] {P : Program} {K : KM} {L : KL} {w : World}

omit [Good] in
theorem asInt_ok {x : TV} {i : Int} {xv : Value} (h : asInt x = some i) (hx : TVR K L x xv) : ∃ k, xv = .int k i := by
  unfold asInt at h
  split at h
  · cases h; exact ⟨_, TVR_int hx⟩
  · cases h

omit [Good] in
theorem idxLe_some {i : Int} {n m : Nat} (h : idxLe i n = some m) : 0 ≤ i ∧ i ≤ n ∧ m = i.toNat := by
  obtain ⟨⟨h1, h2⟩, h3⟩ := grd_some h
  cases h3; exact ⟨h1, h2, rfl⟩

omit [Good] in
theorem bound_ok {e : List TV} {a : Act} (he : ER K L e a.tmps) {n : Nat} {o : Operand} {d m : Nat} (h : bound e n (some o) d = some m) (code : BoundsCode) :
    (Instr.sliceBound (a.eval o) n code).run P w = .ok m w ∧ m ≤ n := by
  simp only [bound] at h
  obtain ⟨i, hi, h⟩ := bnd_some h
  obtain ⟨h1, h2, rfl⟩ := idxLe_some h
  obtain ⟨k, hk⟩ := asInt_ok hi (opd_ok he o)
  rw [hk, run_sliceBound w k i n code h1 h2]
  exact ⟨rfl, by omega⟩

omit [Good] in
/-- The bounds of a slice expression, worked out by the model (the capacity told is the true one). -/
theorem bounds_ok {e : List TV} {a : Act} (he : ER K L e a.tmps) {len cap cap' m h l : Nat} (lo hi mx : Option Operand) (isS : Bool)
    (hm : bound e cap mx cap = some m) (hh : bound e m hi len = some h) (hl : bound e h lo 0 = some l) (hc : cap ≤ cap') (hmx : mx = none ∨ hi ≠ none) :
    (Instr.sliceBounds isS len cap' (lo.map a.eval) (hi.map a.eval) (mx.map a.eval)).run P w = .ok (l, h, if mx.isSome then m else cap') w := by
  have up : ∀ {o : Operand} {n n' d q : Nat} (code : BoundsCode), bound e n (some o) d = some q → n ≤ n' → (Instr.sliceBound (a.eval o) n' code).run P w = .ok q w := by
    intro o n n' d q code hb hle
    simp only [bound] at hb
    obtain ⟨i, hi, hb⟩ := bnd_some hb
    obtain ⟨h1, h2, rfl⟩ := idxLe_some hb
    obtain ⟨k, hk⟩ := asInt_ok hi (opd_ok he o)
    rw [hk, run_sliceBound w k i n' code h1 (by omega)]
  have hlo : ∀ code, (match lo.map a.eval with | some v => Instr.sliceBound v h code | none => pure 0 : Sem Nat).run P w = .ok l w := by
    intro code
    cases lo with
    | none => simp only [bound] at hl; cases hl; rfl
    | some o => exact up code hl (Nat.le_refl _)
  cases mx with
  | none =>
    simp only [bound] at hm; cases hm
    cases hi with
    | none =>
      simp only [bound] at hh; cases hh
      cases lo with
      | none => simp only [bound] at hl; cases hl; simp [Instr.sliceBounds]
      | some o => simp [Instr.sliceBounds, up _ hl (Nat.le_refl _)]
    | some oh =>
      have h1 := fun code => up code hh hc
      cases lo with
      | none => simp only [bound] at hl; cases hl; simp [Instr.sliceBounds, h1]
      | some o => simp [Instr.sliceBounds, h1, up _ hl (Nat.le_refl _)]
  | some om =>
    have h0 := fun code => up code hm hc
    cases hi with
    | none => simp at hmx
    | some oh =>
      have h1 := fun code => up code hh (Nat.le_refl _)
      cases lo with
      | none => simp only [bound] at hl; cases hl; simp [Instr.sliceBounds, h0, h1]
      | some o => simp [Instr.sliceBounds, h0, h1, up _ hl (Nat.le_refl _)]

omit [Good] in
theorem bound_le {e : List TV} {n d m : Nat} {o : Option Operand} (h : bound e n o d = some m) (hd : d ≤ n) : m ≤ n := by
  cases o with
  | none => simp only [bound] at h; cases h; exact hd
  | some o =>
    simp only [bound] at h
    obtain ⟨i, hi, h⟩ := bnd_some h
    obtain ⟨h1, h2, rfl⟩ := idxLe_some h
    omega


omit [Good] in
theorem SlR.shape {a : SA} {n c z : Nat} {x : Value} (h : SlR K a n c z x) : ∃ a' c', x = .slice a' n c' ∧ c ≤ c' ∧ (z = 0 → c' = c) := by
  cases a <;> simp only [SlR] at h
  · obtain ⟨rfl, rfl, rfl, rfl⟩ := h; exact ⟨_, _, rfl, Nat.le_refl _, fun _ => rfl⟩
  · obtain ⟨a1, c1, rfl, _, h1, h2, _⟩ := h; exact ⟨_, _, rfl, h1, h2⟩
  · obtain ⟨rfl, rfl, h0, a1, c1, rfl⟩ := h; exact ⟨_, _, rfl, Nat.zero_le _, fun e => by omega⟩

omit [Good] in
theorem slice_ok (hT : TypesOk P) {e : List TV} {a : Act} (he : ER K L e a.tmps) {t : TypeId} {x v : TV} {lo hi mx : Option Operand} {xv : Value}
    (h : sliceV (tyOf P) e t x lo hi mx = some v) (hx : TVR K L x xv) :
    ∃ z, (Instr.sliceAt t xv (lo.map a.eval) (hi.map a.eval) (mx.map a.eval)).run P w = .ok z w ∧ TVR K L v z := by
  unfold sliceV at h
  split at h <;> first | (cases h; done) | skip
  · rename_i s hd
    rcases cnd_some h with ⟨_, h⟩ | ⟨hmx, h⟩
    · cases h
    · obtain ⟨q, hq, h⟩ := bnd_some h
      obtain ⟨l, hl, h⟩ := bnd_some h
      cases h
      have hmx' : mx = none := by
        cases mx with
        | none => rfl
        | some _ => simp at hmx
      subst hmx'
      rw [TVR_str hx]
      have hu := desc_str hd
      have hb := bounds_ok (P := P) (w := w) he (len := s.size) (cap := s.size) (cap' := s.size) lo hi none false rfl hq hl (Nat.le_refl _) (.inl rfl)
      refine ⟨.string (s.extract l q), ?_, by simp [TVR, VR]⟩
      rw [run_sliceAt_string w t _ _ _ _ hu]
      simp only [Option.map_none] at hb ⊢
      simp [Instr.slice, run_underlying hu, hb]
  · rename_i el sa len cap z hd
    rcases cnd_some h with ⟨hmh, h⟩ | ⟨_, h⟩
    · obtain ⟨m, hm, h⟩ := bnd_some h
      obtain ⟨q, hq, h⟩ := bnd_some h
      obtain ⟨l, hl, h⟩ := bnd_some h
      have hu := desc_slice hd
      have hs := run_size (P := P) (hT.elem t el (desc_lt hd (by simp)) (.inl hu)) w
      have hx' : SlR K sa len cap z xv := by simpa only [TVR, VR] using hx
      obtain ⟨a', cap', rfl, hcc, hz0⟩ := hx'.shape
      have hmx : mx = none ∨ hi ≠ none := by
        cases mx with
        | none => exact .inl rfl
        | some _ => right; intro e; simp [e] at hmh
      have hb := bounds_ok (P := P) (w := w) he lo hi mx true hm hq hl hcc hmx
      have hrun : (Instr.sliceAt t (.slice a' len cap') (lo.map a.eval) (hi.map a.eval) (mx.map a.eval)).run P w =
          .ok (.slice (if (if mx.isSome then m else cap') = l then a' else a'.map (·.add (l * (tyOf P el).size))) (q - l) ((if mx.isSome then m else cap') - l)) w := by
        simp [Instr.sliceAt, run_underlying hu, Instr.slice, hb, hs]
      rw [hrun]
      refine ⟨_, rfl, ?_⟩
      have hmcap : m ≤ cap := bound_le hm (Nat.le_refl _)
      have hlq : l ≤ q := bound_le hl (Nat.zero_le _)
      rcases cnd_some h with ⟨hany, h⟩ | ⟨hany, h⟩
      · cases h
        have : sa = .any := by simpa using hany
        subst this
        obtain ⟨rfl, rfl, h0, a1, c1, e1⟩ := hx'
        cases e1
        have hm0 : m = 0 := by omega
        subst hm0
        have hq0 : q = 0 := by have := bound_le hq (Nat.le_refl 0); omega
        subst hq0
        have hl0 : l = 0 := by omega
        subst hl0
        have e6 : ∃ a2, (if (if mx.isSome = true then 0 else cap') = 0 then some a1 else (some a1).map (·.add (0 * (tyOf P el).size))) = some a2 := by (repeat' split) <;> exact ⟨_, rfl⟩
        obtain ⟨a2, e6⟩ := e6
        rw [e6]
        simp only [TVR, VR, SlR, Nat.sub_zero]
        exact ⟨trivial, trivial, by decide, _, _, rfl⟩
      · have hnany : sa ≠ .any := by simpa using hany
        rcases cnd_some h with ⟨hex, h⟩ | ⟨hex, h⟩
        · -- the capacity is known
          have hmm : (if mx.isSome then m else cap') = m := by
            cases hms : mx with
            | some _ => simp
            | none =>
              subst hms
              simp only [bound] at hm; cases hm
              simp at hex
              simp [hz0 hex]
          rw [hmm]
          cases sa with
          | any => exact absurd rfl hnany
          | nil =>
            obtain ⟨rfl, rfl, rfl, e1⟩ := hx'
            cases e1
            have hm0 : m = 0 := by omega
            subst hm0
            have hq0 : q = 0 := by have := bound_le hq (Nat.le_refl 0); omega
            subst hq0
            have hl0 : l = 0 := by omega
            subst hl0
            rcases cnd_some h with ⟨_, h⟩ | ⟨hne, h⟩
            · cases h; simp [TVR, VR, SlR]
            · simp at hne
          | «at» b g o =>
            obtain ⟨a1, c1, e1, hat, _, _, _⟩ := hx'
            cases e1
            rcases cnd_some h with ⟨hml, h⟩ | ⟨hml, h⟩
            · cases h
              have : m = l := by simpa using hml
              simp only [TVR, VR, SlR, this, if_true]
              exact ⟨a1, _, rfl, hat, Nat.le_refl _, fun _ => rfl, fun h => by omega⟩
            · cases h
              have : ¬ m = l := by simpa using hml
              simp only [TVR, VR, SA.add, SlR, this, if_false, Option.map_some]
              exact ⟨_, _, rfl, hat.add _, Nat.le_refl _, fun _ => rfl, fun h => by omega⟩
        · have hz : 0 < z := by
            rcases Nat.eq_zero_or_pos z with e | e
            · simp [e] at hex
            · exact e
          have hmx0 : mx = none := by
            cases mx with
            | none => rfl
            | some _ => simp at hex
          have hmc : m = cap := by rw [hmx0] at hm; simpa [bound] using hm.symm
          have hno : (if mx.isSome = true then m else cap') = cap' := by rw [hmx0]; rfl
          rw [hno]
          cases sa with
          | any => exact absurd rfl hnany
          | nil => obtain ⟨_, _, rfl, _⟩ := hx'; omega
          | «at» b g o =>
            obtain ⟨a1, c1, e1, hat, hle, _, hroom⟩ := hx'
            cases e1
            rcases cnd_some h with ⟨hl0, h⟩ | ⟨hl0, h⟩
            · cases h
              have : l = 0 := by simpa using hl0
              subst this
              have e2 : (if cap' = 0 then some a1 else (some a1).map (·.add (0 * (tyOf P el).size))) = some a1 := by
                split <;> simp [Addr.add]
              rw [e2]
              simp only [TVR, VR, SlR, Nat.sub_zero]
              exact ⟨a1, _, rfl, hat, by omega, fun h => by omega, hroom⟩
            · rcases cnd_some h with ⟨hlm, h⟩ | ⟨hlm, h⟩
              · obtain ⟨hzs, h⟩ := grd_some h
                cases h
                have hlm' : l < m := by simpa using hlm
                have : ¬ cap' = l := by omega
                simp only [TVR, VR, SA.add, SlR, this, if_false, Option.map_some]
                refine ⟨_, _, rfl, hat.add _, by omega, fun h => by omega, fun _ => ?_⟩
                intro g' B S N k hK e
                have := hroom hz g' B S N k hK e
                have e3 : (cap' - l) * z = cap' * z - l * z := Nat.sub_mul _ _ _
                have e4 : l * z ≤ cap' * z := Nat.mul_le_mul_right z (by omega)
                rw [← hzs]
                omega
              · obtain ⟨hql, h⟩ := grd_some h
                cases h
                have e5 : q - l = 0 := by omega
                rw [e5]
                have e6 : ∃ a2, (if cap' = l then some a1 else (some a1).map (·.add (l * (tyOf P el).size))) = some a2 := by split <;> exact ⟨_, rfl⟩
                obtain ⟨a2, e6⟩ := e6
                rw [e6]
                simp only [TVR, VR, SlR]
                exact ⟨trivial, trivial, by decide, _, _, rfl⟩
    · cases h


omit [Good] in
/-- The cells behind a value is laid over a row. -/
theorem fill_get (vc : Array Value) (off : Nat) (cells : Array Value) :
    ((vc.zipIdx.foldl (fun cs (p : Value × Nat) => cs.setIfInBounds (off + p.2) p.1) cells)).size = cells.size ∧
    ∀ i, (vc.zipIdx.foldl (fun cs (p : Value × Nat) => cs.setIfInBounds (off + p.2) p.1) cells)[i]? = if off ≤ i ∧ i < off + vc.size ∧ i < cells.size then vc[i - off]? else cells[i]? := by
  rw [← Array.foldl_toList, Array.toList_zipIdx]
  have key : ∀ (l : List Value) (k : Nat) (cs : Array Value), ((l.zipIdx k).foldl (fun cs (p : Value × Nat) => cs.setIfInBounds (off + p.2) p.1) cs).size = cs.size ∧
      ∀ i : Nat, ((l.zipIdx k).foldl (fun cs (p : Value × Nat) => cs.setIfInBounds (off + p.2) p.1) cs)[i]? = if off + k ≤ i ∧ i < off + k + l.length ∧ i < cs.size then l[i - (off + k)]? else cs[i]? := by
    intro l
    induction l with
    | nil => intro k cs; refine ⟨rfl, fun i => ?_⟩; rw [if_neg (by simp; omega)]; rfl
    | cons v l ih =>
      intro k cs
      obtain ⟨h1, h2⟩ := ih (k + 1) (cs.setIfInBounds (off + k) v)
      refine ⟨by simpa using h1, fun i => ?_⟩
      have := h2 i
      simp only [List.zipIdx_cons, List.foldl_cons]
      rw [this]
      simp only [Array.size_setIfInBounds, Array.getElem?_setIfInBounds, List.length_cons]
      by_cases hc : off + (k + 1) ≤ i ∧ i < off + (k + 1) + l.length ∧ i < cs.size
      · rw [if_pos hc, if_pos (by omega)]
        have : i - (off + k) = (i - (off + (k + 1))) + 1 := by omega
        rw [this, List.getElem?_cons_succ]
      · rw [if_neg hc]
        by_cases hk : off + k = i
        · subst hk
          by_cases hs : off + k < cs.size
          · simp [hs]
          · rw [if_pos rfl, if_neg hs, if_neg (by omega), Array.getElem?_eq_none (by omega)]
        · rw [if_neg hk, if_neg (by omega)]
  have := key vc.toList 0 cells
  simpa using this

omit [Good] in
theorem splice_some {c c' : List V} {off : Nat} {vs : List V} (h : splice c off vs = some c') : off + vs.length ≤ c.length ∧ c'.length = c.length ∧
    ∀ i : Nat, c'[i]? = if off ≤ i ∧ i < off + vs.length then vs[i - off]? else c[i]? := by
  obtain ⟨hle, h⟩ := grd_some h
  cases h
  refine ⟨hle, by simp; omega, fun i => ?_⟩
  by_cases h1 : i < off
  · rw [if_neg (by omega), List.append_assoc, List.getElem?_append_left (by simp; omega), List.getElem?_take, if_pos h1]
  · by_cases h2 : i < off + vs.length
    · rw [if_pos (by omega), List.append_assoc, List.getElem?_append_right (by simp; omega), List.getElem?_append_left (by simp; omega)]
      congr 1; simp; omega
    · rw [if_neg (by omega), List.append_assoc, List.getElem?_append_right (by simp; omega), List.getElem?_append_right (by simp; omega), List.getElem?_drop]
      congr 1; simp; omega

omit [Good] in
/-- Parts are laid into a row. -/
theorem fill_ok {e : List TV} {a : Act} (he : ER K L e a.tmps) {pl pl' : Nat → Option (Nat × Nat)} (hpl : ∀ i q, pl i = some q → pl' i = some q) :
    ∀ (parts : List (Nat × Operand)) (c c' : List V) (cells : Array Value), fillV pl e c parts = some c' → VRs K c cells.toList → c.all isCell = true →
    ∃ cells', Instr.fill pl' cells (parts.map fun p => (p.1, a.eval p.2)) = some cells' ∧ VRs K c' cells'.toList ∧ c'.all isCell = true ∧ c'.length = c.length
  | [], c, c', cells, h, hr, hc => by
    simp only [fillV] at h; cases h
    exact ⟨cells, rfl, hr, hc, rfl⟩
  | p :: r, c, c', cells, h, hr, hc => by
    simp only [fillV] at h
    obtain ⟨q, hq, h⟩ := bnd_some h
    have hop := opd_ok he p.2
    split at h
    · rename_i x hx
      rw [hx] at hop
      obtain ⟨cs, hcs, h⟩ := bnd_some h
      obtain ⟨hlen, h⟩ := grd_some h
      obtain ⟨c1, hc1, h⟩ := bnd_some h
      obtain ⟨hv1, hv2⟩ := cellsV_ok (K := K) hop hcs
      obtain ⟨hle, hl1, hget⟩ := splice_some hc1
      have hsz : cells.size = c.length := by simpa using hr.length
      have hvs : (a.eval p.2).cells.size = cs.length := by simpa using hv1.length
      obtain ⟨f1, f2⟩ := fill_get (a.eval p.2).cells q.1 cells
      have hr1 : VRs K c1 ((a.eval p.2).cells.zipIdx.foldl (fun cs (p : Value × Nat) => cs.setIfInBounds (q.1 + p.2) p.1) cells).toList := by
        refine VRs.of_get (by simp only [Array.length_toList]; omega) fun i v hi => ?_
        rw [Array.getElem?_toList, f2 i]
        rw [hget i] at hi
        by_cases hin : q.1 ≤ i ∧ i < q.1 + cs.length
        · rw [if_pos hin] at hi
          rw [if_pos (by omega)]
          simpa using hv1.get _ v hi
        · rw [if_neg hin] at hi
          rw [if_neg (by omega)]
          simpa using hr.get i v hi
      have hc1c : c1.all isCell = true := by
        rw [List.all_eq_true] at hc hv2 ⊢
        intro v hv
        obtain ⟨i, hi⟩ := List.mem_iff_getElem?.1 hv
        rw [hget i] at hi
        split at hi
        · exact hv2 v (List.mem_of_getElem? hi)
        · exact hc v (List.mem_of_getElem? hi)
      obtain ⟨cells', hf, hr', hc', hl'⟩ := fill_ok he hpl r c1 c' _ h hr1 hc1c
      refine ⟨cells', ?_, hr', hc', by omega⟩
      simp only [List.map_cons, Instr.fill]
      rw [hpl p.1 q hq]
      simp only
      rw [if_neg (by simp; omega)]
      exact hf
    · cases h

omit [Good] in
/-- The zero value's cells. -/
theorem zero_ok (hT : TypesOk P) {t : TypeId} (h : (tyOf P t).zero.length = (tyOf P t).size) (hi : (P.info? t).isSome = true) (h0 : 0 < (tyOf P t).size) :
    ∃ i z, P.info? t = some i ∧ i.zero = some z ∧ z.cells.size = (tyOf P t).size ∧ VRs K (tyOf P t).zero z.cells.toList ∧ (tyOf P t).zero.all isCell = true := by
  obtain ⟨i, hi⟩ := Option.isSome_iff_exists.1 hi
  have hlt : t < P.types.size := by
    rcases Nat.lt_or_ge t P.types.size with hlt | hge
    · exact hlt
    · have : (tyOf P t).zero = [] := by simp [tyOf, Nat.not_lt.2 hge]
      rw [this] at h; simp at h; omega
  have hz : (tyOf P t).zero = zeroOf i.zero := by simp [tyOf, hi, hlt]
  have hs := size_of hi
  rw [hz] at h ⊢
  cases hzz : i.zero with
  | none => rw [hzz] at h; simp [zeroOf] at h; omega
  | some z =>
    rw [hzz] at h
    have hcs := hT.zero t i z hlt hi hzz
    have agg : ∀ cs : Array Value, z.cells = cs → (cs.toList.filterMap ofValue).length = cs.size → VRs K (cs.toList.filterMap ofValue) cs.toList ∧ (cs.toList.filterMap ofValue).all isCell = true := by
      intro cs _ hl
      have hall : ∀ l : List Value, (l.filterMap ofValue).length = l.length → VRs K (l.filterMap ofValue) l ∧ (l.filterMap ofValue).all isCell = true := by
        intro l
        induction l with
        | nil => intro _; simp [VRs]
        | cons x l ih =>
          intro hl
          cases hx : ofValue x with
          | none =>
            rw [List.filterMap_cons_none hx] at hl
            have := List.length_filterMap_le ofValue l
            simp at hl; omega
          | some v =>
            rw [List.filterMap_cons_some hx] at hl ⊢
            obtain ⟨h1, h2⟩ := ih (by simpa using hl)
            refine ⟨?_, ?_⟩
            · simp only [VRs]; exact ⟨x, l, rfl, ofValue_ok hx, h1⟩
            · have : isCell v = true := by
                unfold ofValue at hx
                split at hx <;> first | (cases hx; done) | (cases hx; rfl)
              simp [this, h2]
      exact hall cs.toList (by simpa using hl)
    refine ⟨i, z, hi, hzz, by rw [hcs, hs], ?_⟩
    have one : ∀ v, ofValue z = some v → z.cells = #[z] → VRs K [v] z.cells.toList ∧ [v].all isCell = true := by
      intro v hv hc
      rw [hc]
      refine ⟨by simp only [VRs]; exact ⟨z, [], rfl, ofValue_ok hv, rfl⟩, ?_⟩
      have : isCell v = true := by
        unfold ofValue at hv
        split at hv <;> first | (cases hv; done) | (cases hv; rfl)
      simp [this]
    cases z with
    | agg cs =>
      simp only [zeroOf, Value.cells] at h hcs ⊢
      exact agg cs rfl (by omega)
    | _ =>
      simp only [zeroOf] at h ⊢
      cases hv : ofValue _ with
      | none => rw [hv] at h; simp at h; omega
      | some v => exact one v hv rfl

end Go.Ev
