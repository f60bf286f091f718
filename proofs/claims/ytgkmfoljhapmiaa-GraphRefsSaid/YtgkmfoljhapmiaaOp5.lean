/-
The interpreter's operations that turn no memory are the model's (the rest).
-/
import Derived.Test.YtgkmfoljhapmiaaOp4
set_option linter.unusedSimpArgs false
set_option linter.unusedVariables false
namespace Go.Ev
variable [Good] {P : Program} {K : KM} {L : KL} {w : World}

omit [Good] in
theorem TVR_int {k : IntKind} {n : Int} {y : Value} (h : TVR K L (.v (.int k n)) y) : y = .int k n := VR_int (K := K) h
omit [Good] in
theorem TVR_str {s : ByteArray} {y : Value} (h : TVR K L (.v (.str s)) y) : y = .string s := VR_str (K := K) h
omit [Good] in
theorem TVR_bool {b : Bool} {y : Value} (h : TVR K L (.v (.bool b)) y) : y = .bool b := VR_bool (K := K) h

omit [Good] in
theorem unOp_ok {op : UnOp} {x v : V} {xv : Value} (h : unOp op x = some v) (hx : VR K x xv) : ∃ z, (Op.unary op xv).run P w = .ok z w ∧ VR K v z := by
  unfold unOp at h
  split at h <;> first | (cases h; done) | skip
  · cases h; rw [VR_bool hx]; exact ⟨_, rfl, by simp [VR]⟩
  · cases h; rw [VR_int hx]; exact ⟨_, rfl, by simp [VR]⟩
  · cases h; rw [VR_int hx]; exact ⟨_, rfl, by simp [VR]⟩

omit [Good] in
theorem run_sureAddr (a : Addr) : (Instr.sureAddr (.pointer (some a))).run P w = .ok a w := rfl

omit [Good] in
theorem AtR.add {b g o : Nat} {a : Addr} (h : AtR K b g o a) (n : Nat) : AtR K b g (o + n) (a.add n) := by
  obtain ⟨g', B, S, N, k, h1, h2, h3⟩ := h
  refine ⟨g', B, S, N, k, h1, h2, fun e => ?_⟩
  rw [h3 e, add_addr, Nat.add_assoc]

omit [Good] in
theorem lp_add {s ver o n : Nat} {a : Addr} (h : TVR K L (.lp s ver o) (.pointer (some a))) : TVR K L (.lp s ver (o + n)) (.pointer (some (a.add n))) := by
  obtain ⟨h0, cur, B, h1, h2, a', ha, h3⟩ := h
  cases ha
  refine ⟨h0, cur, B, h1, h2, _, rfl, fun e => ?_⟩
  rw [h3 e, add_addr]

omit [Good] in
theorem fieldOff_ok (hT : TypesOk P) {t : TypeId} {f : Nat} {p : Nat × TypeId} (h : fieldOff (tyOf P) t f = some p) :
    ∃ gs fd, P.underlying t = some (.struct gs) ∧ gs[f]? = some fd ∧ p = (fd.offset, fd.type) ∧ (P.info? fd.type).isSome = true := by
  unfold fieldOff at h
  split at h
  · rename_i fs hd
    obtain ⟨gs, hu, hfs⟩ := desc_struct hd
    subst hfs
    rw [List.getElem?_map] at h
    cases hg : gs.toList[f]? with
    | none => rw [hg] at h; cases h
    | some fd =>
      rw [hg] at h; cases h
      exact ⟨gs, fd, hu, by simpa using hg, rfl, hT.field t gs fd (desc_lt hd (by simp)) hu (List.mem_of_getElem? hg)⟩
  · cases h

omit [Good] in
theorem fieldAddr_ok (hT : TypesOk P) {t : TypeId} {x v : TV} {f : Nat} {xv : Value} (h : fieldAddrV (tyOf P) t x f = some v) (hx : TVR K L x xv) :
    ∃ z, (Instr.fieldAt t xv f).run P w = .ok z w ∧ TVR K L v z := by
  unfold fieldAddrV at h
  obtain ⟨p, hp, h⟩ := bnd_some h
  obtain ⟨h0, h⟩ := grd_some h
  obtain ⟨gs, fd, hu, hf, rfl, hi⟩ := fieldOff_ok hT hp
  have hs := run_size (P := P) hi w
  have key : ∀ a, xv = .pointer (some a) → (Instr.fieldAt t xv f).run P w = .ok (.pointer (some (a.add fd.offset))) w := by
    intro a e
    subst e
    simp [Instr.fieldAt, run_underlying hu, hf, run_sureAddr, fieldPlace, hs, Nat.ne_of_gt h0]
  split at h
  · cases h
    obtain ⟨a, rfl, ha⟩ : ∃ a, xv = .pointer (some a) ∧ AtR K _ _ _ a := by simpa only [TVR, VR] using hx
    exact ⟨_, key a rfl, by simp only [TVR, VR]; exact ⟨_, rfl, ha.add _⟩⟩
  · cases h
    obtain ⟨a, rfl⟩ : ∃ a, xv = .pointer (some a) := let ⟨_, _, _, _, _, a, h, _⟩ := hx; ⟨a, h⟩
    exact ⟨_, key a rfl, lp_add hx⟩
  · cases h

omit [Good] in
theorem idx_some {i : Int} {n m : Nat} (h : idx i n = some m) : 0 ≤ i ∧ i < n ∧ m = i.toNat := by
  obtain ⟨⟨h1, h2⟩, h3⟩ := grd_some h
  cases h3; exact ⟨h1, h2, rfl⟩

omit [Good] in
theorem indexAddr_ok (hT : TypesOk P) {t : TypeId} {x i v : TV} {xv iv : Value} (h : indexAddrV (tyOf P) t x i = some v) (hx : TVR K L x xv) (hi : TVR K L i iv) :
    ∃ z, (Instr.indexAt t xv iv).run P w = .ok z w ∧ TVR K L v z := by
  unfold indexAddrV at h
  split at h <;> first | (cases h; done) | skip
  · rename_i el b g o n c z k m hd
    obtain ⟨j, hj, h⟩ := bnd_some h
    cases h
    obtain ⟨h1, h2, rfl⟩ := idx_some hj
    rw [TVR_int hi]
    obtain ⟨a, cap', rfl, ha, _⟩ : SlR K _ _ _ _ xv := by simpa only [TVR, VR] using hx
    have hu := desc_slice hd
    have hs := run_size (P := P) (hT.elem t el (desc_lt hd (by simp)) (.inl hu)) w
    refine ⟨.pointer (some (a.add (m.toNat * (tyOf P el).size))), ?_, by simp only [TVR, VR]; exact ⟨_, rfl, ha.add _⟩⟩
    simp [Instr.indexAt, asIntOf, run_underlying hu, h1, h2, hs]
  · rename_i el b g o n k m hd
    obtain ⟨j, hj, h⟩ := bnd_some h
    cases h
    obtain ⟨h1, h2, rfl⟩ := idx_some hj
    rw [TVR_int hi]
    have hu := desc_slice hd
    have hs := run_size (P := P) (hT.elem t el (desc_lt hd (by simp)) (.inl hu)) w
    obtain ⟨h0, cur, B, h3, h4, a, cap, rfl, h5⟩ := hx
    refine ⟨.pointer (some (a.add (m.toNat * (tyOf P el).size))), ?_, lp_add ⟨h0, cur, B, h3, h4, a, rfl, h5⟩⟩
    simp [Instr.indexAt, asIntOf, run_underlying hu, h1, h2, hs]
  · rename_i n el b g o k m hd
    obtain ⟨j, hj, h⟩ := bnd_some h
    cases h
    obtain ⟨h1, h2, rfl⟩ := idx_some hj
    rw [TVR_int hi]
    have hu := desc_arr hd
    have hs := run_size (P := P) (hT.elem t el (desc_lt hd (by simp)) (.inr ⟨n, hu⟩)) w
    obtain ⟨a, rfl, ha⟩ : ∃ a, xv = .pointer (some a) ∧ AtR K _ _ _ a := by simpa only [TVR, VR] using hx
    refine ⟨.pointer (some (a.add (m.toNat * (tyOf P el).size))), ?_, by simp only [TVR, VR]; exact ⟨_, rfl, ha.add _⟩⟩
    simp [Instr.indexAt, asIntOf, run_underlying hu, run_sureAddr, h1, h2, hs]
  · rename_i n el s ver o k m hd
    obtain ⟨j, hj, h⟩ := bnd_some h
    cases h
    obtain ⟨h1, h2, rfl⟩ := idx_some hj
    rw [TVR_int hi]
    have hu := desc_arr hd
    have hs := run_size (P := P) (hT.elem t el (desc_lt hd (by simp)) (.inr ⟨n, hu⟩)) w
    obtain ⟨a, rfl⟩ : ∃ a, xv = .pointer (some a) := let ⟨_, _, _, _, _, a, h, _⟩ := hx; ⟨a, h⟩
    refine ⟨.pointer (some (a.add (m.toNat * (tyOf P el).size))), ?_, lp_add hx⟩
    simp [Instr.indexAt, asIntOf, run_underlying hu, run_sureAddr, h1, h2, hs]

omit [Good] in
theorem index_ok (hT : TypesOk P) {t : TypeId} {x i : TV} {v : V} {xv iv : Value} (h : indexV (tyOf P) t x i = some v) (hx : TVR K L x xv) (hi : TVR K L i iv) :
    ∃ z, (Instr.index t xv iv).run P w = .ok z w ∧ VR K v z := by
  unfold indexV at h
  split at h <;> first | (cases h; done) | skip
  · rename_i n el cs k m hd
    obtain ⟨j, hj, h⟩ := bnd_some h
    obtain ⟨h1, h2, rfl⟩ := idx_some hj
    rw [TVR_int hi]
    have hu := desc_arr hd
    have hs := run_size (P := P) (hT.elem t el (desc_lt hd (by simp)) (.inr ⟨n, hu⟩)) w
    obtain ⟨cs', rfl, hc1, hc2⟩ : ∃ cs', xv = .agg cs' ∧ VRs K cs cs'.toList ∧ cs.all isCell = true := by simpa only [TVR, VR] using hx
    obtain ⟨y, hy, hv⟩ := part_ok (P := P) hc1 hc2 h w
    refine ⟨y, ?_, hv⟩
    simp only [Array.toArray_toList] at hy
    simp [Instr.index, asIntOf, run_underlying hu, h1, h2, hs, hy]
  · rename_i s k m hd
    obtain ⟨j, hj, h⟩ := bnd_some h
    obtain ⟨c, hc, h⟩ := bnd_some h
    cases h
    obtain ⟨h1, h2, rfl⟩ := idx_some hj
    rw [TVR_int hi, TVR_str hx]
    have hu := desc_str hd
    have hlt : m.toNat < s.size := by omega
    have hg : s[m.toNat]? = some c := by
      rw [getElem?_pos s m.toNat hlt]
      have : s.data.toList[m.toNat]? = some (s[m.toNat]) := by
        rw [Array.getElem?_toList, Array.getElem?_eq_getElem (by simpa using hlt)]; rfl
      rw [this] at hc; exact hc
    refine ⟨.int .u8 c.toNat, ?_, by simp [VR]⟩
    simp [Instr.index, asIntOf, run_underlying hu, h1, hg]

omit [Good] in
theorem nilCheck_ok {x v : TV} {xv : Value} (h : nilCheckV x = some v) (hx : TVR K L x xv) (o : Oper) (x' : Operand) (ho : o.op = .nilCheck x') {a : Act} (hv : a.eval x' = xv) :
    ∃ z, (execOp a.eval o).run P w = .ok (.value z) w ∧ TVR K L v z := by
  unfold nilCheckV at h
  split at h <;> first | (cases h; done) | skip
  · cases h
    obtain ⟨b, rfl, ha⟩ : ∃ a, xv = .pointer (some a) ∧ AtR K _ _ _ a := by simpa only [TVR, VR] using hx
    exact ⟨_, by simp [execOp, ho, hv], hx⟩
  · cases h
    obtain ⟨cs, rfl, ha⟩ : ∃ cs, xv = .func (.func _) #[] cs ∧ VRs K _ cs.toList := by simpa only [TVR, VR] using hx
    exact ⟨_, by simp [execOp, ho, hv], hx⟩
  · cases h
    have hx' := hx
    simp only [TVR, VR] at hx'
    obtain ⟨B, kl, _, _, rfl⟩ := hx'
    exact ⟨_, by simp [execOp, ho, hv], hx⟩
  · cases h
    obtain ⟨b, rfl⟩ : ∃ a, xv = .pointer (some a) := let ⟨_, _, _, _, _, a, h, _⟩ := hx; ⟨a, h⟩
    exact ⟨_, by simp [execOp, ho, hv], hx⟩

omit [Good] in
theorem extract_ok {vs : List V} {i : Nat} {v : V} {xv : Value} (hx : VR K (.tup vs) xv) (h : vs[i]? = some v) : ∃ z, (Instr.extract xv i).run P w = .ok z w ∧ VR K v z := by
  simp only [VR] at hx
  obtain ⟨vs', rfl, hv⟩ := hx
  obtain ⟨y, hy, hr⟩ := hv.get i v h
  exact ⟨y, by simp at hy; simp [Instr.extract, hy], hr⟩

theorem len_ok {t : TypeId} {s : St} {x : TV} {n : Int} {xv : Value} (h : lenV (tyOf P) t s x = some n) (hx : TVR K L x xv) (hm : HR K s.h w) (ty : TypeId) (ats : Array TypeId) (hat : ats[0]? = some t) :
    (Builtin.len_ ats ty #[xv]).run P w = .ok (.int .i64 n) w := by
  unfold lenV at h
  split at h <;> first | (cases h; done) | skip
  · rename_i n hd
    cases h
    simp [Builtin.len_, hat, run_underlying (desc_arr hd), goInt]
  · rename_i s hd
    cases h
    rw [TVR_str hx]
    simp [Builtin.len_, hat, run_underlying (desc_str hd), goInt]
  · rename_i a n c z hd
    cases h
    have : ∃ a' c', xv = .slice a' n c' := by
      simp only [TVR, VR] at hx
      cases a <;> simp only [SlR] at hx
      · obtain ⟨rfl, _, _, rfl⟩ := hx; exact ⟨_, _, rfl⟩
      · obtain ⟨_, _, rfl, _⟩ := hx; exact ⟨_, _, rfl⟩
      · obtain ⟨rfl, _, _, _, _, rfl⟩ := hx; exact ⟨_, _, rfl⟩
    obtain ⟨a', c', rfl⟩ := this
    simp [Builtin.len_, hat, run_underlying (desc_slice hd), goInt]
  · rename_i a b o n hd
    cases h
    obtain ⟨_, _, _, _, _, a, c, rfl, _⟩ := hx
    simp [Builtin.len_, hat, run_underlying (desc_slice hd), goInt]
  · rename_i k e hd
    cases h
    simp only [TVR, VR] at hx
    subst hx
    simp [Builtin.len_, hat, run_underlying (desc_map hd), goInt]
  · rename_i k e r hd
    split at h
    · rename_i ex es c he
      obtain ⟨en, hen, B, rfl, ents, clk, es', h1, h2, h3, h4⟩ := hm.2 r _ he
      cases h
      simp only [TVR, VR] at hx
      obtain ⟨B', hB, rfl⟩ := hx
      rw [hen] at hB; cases hB
      have hsz : ents.size = es.length := by rw [h2.size]; simpa using h4.length_eq
      simp [Builtin.len_, hat, run_underlying (desc_map hd), goInt, getObj, Sem.run, h1, hsz, Result.andThen]
    · cases h

end Go.Ev
