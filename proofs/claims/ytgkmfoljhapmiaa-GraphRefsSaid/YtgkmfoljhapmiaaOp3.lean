/-
The interpreter's operations that turn no memory are the model's.
-/
import Derived.Test.YtgkmfoljhapmiaaOp2
import Derived.Laws.StructEq
import Derived.Laws.BytesArg
import Derived.Laws.Append
import Derived.Laws.BytesString
import Derived.ChangeKeysEq
set_option linter.unusedSimpArgs false
set_option linter.unusedVariables false
namespace Go.Ev
variable [Good] {P : Program}

omit [Good] in
theorem ofValue_ok {K : KM} {v : Value} {x : V} (h : ofValue v = some x) : VR K x v := by
  unfold ofValue at h
  split at h <;> first | (cases h; done) | (cases h; simp [VR, SlR])

omit [Good] in
theorem opd_ok {K : KM} {L : KL} {e : List TV} {a : Act} (he : ER K L e a.tmps) (o : Operand) : TVR K L (opd e o) (a.eval o) := by
  cases o with
  | tmp t =>
    show TVR K L (getT e t) (a.tmps.getD t undef)
    unfold getT
    by_cases ht : t < e.length
    · obtain ⟨y, hy, hr⟩ := he.2 t e[t] (by simp [ht])
      simpa [List.getD, ht, Array.getD_eq_getD_getElem?, hy] using hr
    · have h3 : a.tmps.size ≤ t := he.1 ▸ Nat.le_of_not_lt ht
      have h1 : e.getD t .u = .u := by simp [List.getD, List.getElem?_eq_none (Nat.le_of_not_lt ht)]
      have h2 : a.tmps.getD t undef = undef := by
        rw [Array.getD_eq_getD_getElem?, Array.getElem?_eq_none h3]; rfl
      rw [h1, h2]; rfl
  | const v =>
    show TVR K L (constT v) v
    unfold constT
    cases h : ofValue v with
    | none => trivial
    | some x => exact ofValue_ok h
  | func f =>
    show TVR K L (.v (.fn f [])) (.func (.func f) #[] #[])
    simp [TVR, VR, VRs]
  | global g => trivial

/-- What an operation that is no call comes to. -/
def Gives (P : Program) (K : KM) (L : KL) (s : St) (w : World) (m : Sem Next) (r : TV × St) : Prop :=
  ∃ n y w' K' L', m.run P w = .ok n w' ∧ (n = .value y ∨ (n = .skip ∧ y = undef)) ∧ TVR K' L' r.1 y ∧ Mem K' L' r.2.l r.2.h w' ∧ Step K L w K' L' w' ∧ r.2.e = s.e

theorem Gives.same {K : KM} {L : KL} {s : St} {w : World} {m : Sem Next} {v : TV} {y : Value} (hm : Mem K L s.l s.h w) (h : m.run P w = .ok (.value y) w) (hv : TVR K L v y) : Gives P K L s w m (v, s) :=
  ⟨_, y, w, K, L, h, .inl rfl, hv, hm, Step.refl K L w, rfl⟩

/-- An operation whose value is worked out, and that is all. -/
theorem Gives.val {K : KM} {L : KL} {s : St} {w : World} {m : Sem Value} {v : TV} (hm : Mem K L s.l s.h w) (h : ∃ y, m.run P w = .ok y w ∧ TVR K L v y) :
    Gives P K L s w (do pure (.value (← m))) (v, s) := by
  obtain ⟨y, hy, hv⟩ := h
  exact .same hm (by simp [hy]) hv

omit [Good] in
theorem VR_bool {K : KM} {b : Bool} {y : Value} (h : VR K (.bool b) y) : y = .bool b := by simpa [VR] using h
omit [Good] in
theorem VR_int {K : KM} {k : IntKind} {n : Int} {y : Value} (h : VR K (.int k n) y) : y = .int k n := by simpa [VR] using h
omit [Good] in
theorem VR_str {K : KM} {s : ByteArray} {y : Value} (h : VR K (.str s) y) : y = .string s := by simpa [VR] using h

omit [Good] in
theorem cellsV_ok {K : KM} {v : V} {y : Value} {cs : List V} (h : VR K v y) (hc : cellsV v = some cs) : VRs K cs y.cells.toList ∧ cs.all isCell = true := by
  have one : isCell v = true → y.oneCell' = true → cs = [v] → VRs K cs y.cells.toList ∧ cs.all isCell = true := by
    intro h1 h2 h3
    subst h3
    refine ⟨?_, by simp [h1]⟩
    have : y.cells = #[y] := by cases y <;> simp_all [Value.cells, Value.oneCell']
    rw [this]
    simp only [VRs]
    exact ⟨y, [], rfl, h, rfl⟩
  cases v with
  | agg cs' =>
    simp only [cellsV] at hc; cases hc
    simp only [VR] at h
    obtain ⟨ys, rfl, h1, h2⟩ := h
    exact ⟨h1, h2⟩
  | tup vs => cases hc
  | _ =>
    simp only [cellsV] at hc; cases hc
    exact one rfl (isCell_of h rfl) rfl

omit [Good] in
theorem CR_of_list {K : KM} {cs : List V} {xs : List Value} (h : VRs K cs xs) (hc : cs.all isCell = true) : CR K cs xs.toArray 0 := by
  intro j v hj
  obtain ⟨x, hx, hr⟩ := h.get j v hj
  refine ⟨List.all_eq_true.1 hc v (List.mem_of_getElem? hj), x, by simpa using hx, hr⟩

omit [Good] in
theorem VRs.isCell_one {K : KM} {cs : List V} {xs : List Value} (h : VRs K cs xs) (hc : cs.all isCell = true) : ∀ x ∈ xs, x.oneCell' = true := by
  intro x hx
  obtain ⟨i, hi⟩ := List.mem_iff_getElem?.1 hx
  have hlt : i < cs.length := by rw [← h.length]; exact (List.getElem?_eq_some_iff.1 hi).1
  obtain ⟨y, hy, hr⟩ := h.get i cs[i] (by simp [hlt])
  rw [hi] at hy; cases hy
  exact isCell_of hr (List.all_eq_true.1 hc _ (List.getElem_mem hlt))

omit [Good] in
/-- What is read out of a value of several cells. -/
theorem part_ok {K : KM} {cs : List V} {ys : List Value} (h : VRs K cs ys) (hc : cs.all isCell = true) {off : Nat} {t : TypeId} {v : V} (hr : rd cs off (tyOf P t) = some v) (w : World) :
    ∃ y, (part t ys.toArray off).run P w = .ok y w ∧ VR K v y := by
  unfold rd at hr
  obtain ⟨ag, hk, hr⟩ := bnd_some hr
  have hag := run_isAgg (P := P) hk w
  rcases cnd_some hr with ⟨rfl, hr⟩ | ⟨rfl, hr⟩
  · obtain ⟨hle, hr⟩ := grd_some hr
    cases hr
    have hs := run_size (P := P) (info_kind hk) w
    refine ⟨.agg (ys.toArray.extract off (off + (tyOf P t).size)), by simp [part, hag, hs], ?_⟩
    simp only [VR]
    refine ⟨_, rfl, ?_, ?_⟩
    · have : (ys.toArray.extract off (off + (tyOf P t).size)).toList = (ys.drop off).take (tyOf P t).size := by
        simp [List.extract_eq_drop_take', List.drop_take]
      rw [this]
      exact (h.drop off).take _
    · rw [List.all_eq_true] at hc ⊢
      exact fun x hx => hc x (List.mem_of_mem_drop (List.mem_of_mem_take hx))
  · obtain ⟨x, hx, hv⟩ := h.get off v hr
    exact ⟨x, by simp [part, hag, hx], hv⟩

omit [Good] in
theorem strEq_ok (a b : ByteArray) : (a.toList == b.toList) = strEq a b := by
  rw [ByteArray.toList_eq, ByteArray.toList_eq]
  unfold strEq
  rw [Bool.eq_iff_iff]
  simp

omit [Good] in
theorem strEq_ok' (a b : ByteArray) : (a == b) = strEq a b := by rw [beq_toListBytes, strEq_ok]

section
variable {K : KM} {w : World}

omit [Good] in
theorem run_intOp {op : BinOp} {k : IntKind} {a b : Int} {v : V} (h : intOp op k a b = some v) (t : TypeId) : ∃ y, (Go.binOp op t (.int k a) (.int k b)).run P w = .ok y w ∧ VR K v y := by
  cases op <;> simp only [intOp] at h <;> first | (cases h; done) | skip
  case quo => obtain ⟨h0, h⟩ := grd_some h; cases h; simp [Go.binOp, Op.intDiv, h0, VR]
  case rem => obtain ⟨h0, h⟩ := grd_some h; cases h; simp [Go.binOp, Op.intDiv, h0, VR]
  all_goals (cases h; simp [Go.binOp, Op.intArith, Op.intBits, Op.intCmp, VR]; try rfl)
  all_goals first | done | (rw [Bool.eq_iff_iff]; simp)

omit [Good] in
theorem run_shift {op : BinOp} {k yk : IntKind} {a b : Int} {v : V} (h : shift op k a b = some v) (t : TypeId) : ∃ y, (Go.binOp op t (.int k a) (.int yk b)).run P w = .ok y w ∧ VR K v y := by
  cases op <;> simp only [shift] at h <;> first | (cases h; done) | skip
  all_goals
    obtain ⟨h0, h⟩ := grd_some h; cases h
    have : ¬ b < 0 := by omega
    simp [Go.binOp, Op.shift, this, VR]

end


section
variable {K : KM} {w : World}

omit [Good] in
theorem fieldsOf_eq {t : TypeId} {gs : Array Field} (h : P.underlying t = some (.struct gs)) : P.fieldsOf t = gs := by simp [Program.fieldsOf, h]

omit [Good] in
/-- '==' -/
theorem veq_ok (hT : TypesOk P) : ∀ (d : Nat) (t : TypeId) (x y : V) (xv yv : Value) (b : Bool), veq (tyOf P) d t x y = some b → VR K x xv → VR K y yv →
    ∀ D, d ≤ D → (Op.equalIn D t xv yv).run P w = .ok b w := by
  intro d
  induction d with
  | zero => intro t x y xv yv b h; cases h
  | succ d ih =>
    intro t x y xv yv b h hx hy D hD
    obtain ⟨D, rfl⟩ : ∃ D', D = D' + 1 := ⟨D - 1, by omega⟩
    unfold veq at h
    split at h <;> first | (cases h; done) | skip
    case h_1 k k1 a k2 c hd => 
      obtain ⟨hk, h'⟩ := grd_some h; subst hk; clear h; cases h'
      rw [VR_int hx, VR_int hy, run_equalIn_int w D t _ _ a c (desc_int hd)]
      rfl
    case h_2 a c hd =>
      cases h
      rw [VR_str hx, VR_str hy, run_equalIn_string w D t a c (desc_str hd), strEq_ok]
    case h_3 a c hd =>
      cases h
      rw [VR_bool hx, VR_bool hy, run_equalIn_bool w D t a c (desc_bool hd)]
    case h_4 e hd => cases h; simp only [VR] at hx hy; subst hx hy; simp [Op.equalIn, run_underlying (desc_ptr hd)]
    case h_5 e _ _ _ hd => cases h; simp only [VR] at hx hy; obtain ⟨a, rfl, _⟩ := hy; subst hx; simp [Op.equalIn, run_underlying (desc_ptr hd)]
    case h_6 e _ _ _ hd => cases h; simp only [VR] at hx hy; obtain ⟨a, rfl, _⟩ := hx; subst hy; simp [Op.equalIn, run_underlying (desc_ptr hd)]
    case h_7 e _ _ _ _ _ _ hd => cases h; simp only [VR, SlR] at hx hy; obtain ⟨_, _, _, rfl⟩ := hx; obtain ⟨_, _, _, rfl⟩ := hy; simp [Op.equalIn, run_underlying (desc_slice hd)]
    case h_8 e _ _ _ _ _ _ _ _ _ hd => cases h; simp only [VR, SlR] at hx hy; obtain ⟨_, _, _, rfl⟩ := hx; obtain ⟨_, _, rfl, _⟩ := hy; simp [Op.equalIn, run_underlying (desc_slice hd)]
    case h_9 e _ _ _ _ _ _ hd => cases h; simp only [VR, SlR] at hx hy; obtain ⟨_, _, _, rfl⟩ := hx; obtain ⟨_, _, _, _, _, rfl⟩ := hy; simp [Op.equalIn, run_underlying (desc_slice hd)]
    case h_10 e _ _ _ _ _ _ _ _ _ hd => cases h; simp only [VR, SlR] at hx hy; obtain ⟨_, _, _, rfl⟩ := hy; obtain ⟨_, _, rfl, _⟩ := hx; simp [Op.equalIn, run_underlying (desc_slice hd)]
    case h_11 e _ _ _ _ _ _ hd => cases h; simp only [VR, SlR] at hx hy; obtain ⟨_, _, _, rfl⟩ := hy; obtain ⟨_, _, _, _, _, rfl⟩ := hx; simp [Op.equalIn, run_underlying (desc_slice hd)]
    case h_12 k e hd => cases h; simp only [VR] at hx hy; subst hx hy; simp [Op.equalIn, run_underlying (desc_map hd)]
    case h_13 k e _ hd => cases h; simp only [VR] at hx hy; obtain ⟨_, _, rfl⟩ := hy; subst hx; simp [Op.equalIn, run_underlying (desc_map hd)]
    case h_14 k e _ hd => cases h; simp only [VR] at hx hy; obtain ⟨_, _, rfl⟩ := hx; subst hy; simp [Op.equalIn, run_underlying (desc_map hd)]
    case h_15 hd => cases h; simp only [VR] at hx hy; subst hx hy; obtain ⟨_, _, _, hu⟩ := desc_func hd; simp [Op.equalIn, run_underlying hu]
    case h_16 _ _ hd => cases h; simp only [VR] at hx hy; obtain ⟨_, rfl, _⟩ := hy; subst hx; obtain ⟨_, _, _, hu⟩ := desc_func hd; simp [Op.equalIn, run_underlying hu]
    case h_17 _ _ hd => cases h; simp only [VR] at hx hy; obtain ⟨_, rfl, _⟩ := hx; subst hy; obtain ⟨_, _, _, hu⟩ := desc_func hd; simp [Op.equalIn, run_underlying hu]
    case h_18 fs xs ys hd =>
      rcases cnd_some h with ⟨hok, h1⟩ | ⟨_, h1⟩
      · clear h
        simp only [VR] at hx hy
        obtain ⟨xs', rfl, hx1, hx2⟩ := hx
        obtain ⟨ys', rfl, hy1, hy2⟩ := hy
        obtain ⟨gs, hu, hfs⟩ := desc_struct hd
        have hst : P.stoodInHeld t = false := by simp [tyOf] at hok; exact hok.1.2
        rw [run_equalIn_struct w D t xs' ys' (by rw [fieldsOf_eq hu]; exact hu) hst, fieldsOf_eq hu]
        have hfld : ∀ f ∈ gs.toList, f.name ≠ "_" := fun f hf => by
          have h2 : (gs.toList.all (·.name != "_")) = true := by
            simp only [tyOf, hu, Bool.and_eq_true] at hok
            exact hok.2
          simpa using List.all_eq_true.1 h2 f hf
        subst hfs
        clear hu hd hok hst
        generalize gs.toList = l at *
        revert h1
        induction l generalizing b with
        | nil => intro h; simp at h; subst h; simp [Op.eqFields]
        | cons f l ihl =>
          intro h
          simp only [List.map_cons, List.foldr_cons] at h
          obtain ⟨a, ha, h⟩ := bnd_some h
          obtain ⟨c, hc, h⟩ := bnd_some h
          obtain ⟨r, hr, h⟩ := bnd_some h
          obtain ⟨a', ha', hav⟩ := part_ok (P := P) hx1 hx2 ha w
          obtain ⟨c', hc', hcv⟩ := part_ok (P := P) hy1 hy2 hc w
          have hrun := ih f.type a c a' c' r hr hav hcv D (by omega)
          simp only [Array.toArray_toList] at ha' hc'
          simp only [Op.eqFields, if_pos (hfld f (by simp)), Sem.run_bind, ha', hc', hrun, Result.andThen_ok]
          rcases cnd_some h with ⟨hr1, h'⟩ | ⟨hr1, h'⟩
          · subst hr1; simpa using ihl b (fun g hg => hfld g (by simp [hg])) h'
          · subst hr1; clear h; cases h'; simp
      · cases h1
    case h_19 n e xs ys hd =>
      rcases cnd_some h with ⟨hok, h1⟩ | ⟨_, h1⟩
      · clear h
        simp only [VR] at hx hy
        obtain ⟨xs', rfl, hx1, hx2⟩ := hx
        obtain ⟨ys', rfl, hy1, hy2⟩ := hy
        have hu := desc_arr hd
        obtain ⟨i, hi⟩ := Option.isSome_iff_exists.1 (hT.elem t e (desc_lt hd (by simp)) (.inr ⟨n, hu⟩))
        rw [run_equalIn_array w D xs' ys' hu hi]
        have hsz : P.cellsOf e = (tyOf P e).size := rfl
        rw [hsz]
        clear hu hd hok
        generalize List.range n = l at *
        revert h1
        induction l generalizing b with
        | nil => intro h; simp at h; subst h; simp [Op.eqItems]
        | cons j l ihl =>
          intro h
          simp only [List.foldr_cons] at h
          obtain ⟨a, ha, h⟩ := bnd_some h
          obtain ⟨c, hc, h⟩ := bnd_some h
          obtain ⟨r, hr, h⟩ := bnd_some h
          obtain ⟨a', ha', hav⟩ := part_ok (P := P) hx1 hx2 ha w
          obtain ⟨c', hc', hcv⟩ := part_ok (P := P) hy1 hy2 hc w
          have hrun := ih e a c a' c' r hr hav hcv D (by omega)
          simp only [Array.toArray_toList] at ha' hc'
          simp only [Op.eqItems, Sem.run_bind, ha', hc', hrun, Result.andThen_ok]
          rcases cnd_some h with ⟨hr1, h'⟩ | ⟨hr1, h'⟩
          · subst hr1; simpa using ihl b h'
          · subst hr1; clear h; cases h'; simp
      · cases h1

end

end Go.Ev
