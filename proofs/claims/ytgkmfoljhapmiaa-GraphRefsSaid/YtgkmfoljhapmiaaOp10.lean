/-
Rows that are made; copies; conversions.
-/
import Derived.Test.YtgkmfoljhapmiaaOp9
set_option linter.unusedSimpArgs false
set_option linter.unusedVariables false
namespace Go.Ev
open Go.Lib
variable [Good] {P : Program} {K : KM} {L : KL} {w : World}

omit [Good] in
theorem reps_get {z : List V} (hz : 0 < z.length) : ∀ (n j : Nat), (reps n z)[j]? = if j < n * z.length then z[j % z.length]? else none
  | 0, j => by simp [reps]
  | n + 1, j => by
    have e : reps (n + 1) z = z ++ reps n z := by simp [reps, List.replicate_succ]
    rw [e]
    have hm : (n + 1) * z.length = n * z.length + z.length := Nat.succ_mul _ _
    by_cases h : j < z.length
    · rw [List.getElem?_append_left h, if_pos (by omega), Nat.mod_eq_of_lt h]
    · rw [List.getElem?_append_right (by omega), reps_get hz n]
      have : j % z.length = (j - z.length) % z.length := by
        rw [← Nat.mod_eq_sub_mod (by omega)]
      by_cases h2 : j - z.length < n * z.length
      · rw [if_pos h2, if_pos (by omega), this]
      · rw [if_neg h2, if_neg (by omega)]

omit [Good] in
theorem reps_length {z : List V} (n : Nat) : (reps n z).length = n * z.length := by
  induction n with
  | zero => simp [reps]
  | succ n ih =>
    have e : reps (n + 1) z = z ++ reps n z := by simp [reps, List.replicate_succ]
    rw [e, List.length_append, ih, Nat.succ_mul]; omega

omit [Good] in
theorem reps_ok {z : List V} {zs : Array Value} (h : VRs K z zs.toList) (hc : z.all isCell = true) (hz : 0 < z.length) (n : Nat) :
    VRs K (reps n z) ((Array.range (n * zs.size)).map (zs[· % zs.size]!)).toList ∧ (reps n z).all isCell = true := by
  have hl : zs.size = z.length := h.list
  refine ⟨VRs.of_get (by rw [reps_length, hl]; simp) fun i v hi => ?_, ?_⟩
  · rw [reps_get hz] at hi
    split at hi
    · rename_i hlt
      obtain ⟨x, hx, hr⟩ := h.get _ v hi
      refine ⟨x, ?_, hr⟩
      rw [hl]
      simp [hlt]
      rw [Array.getElem?_toList] at hx
      rw [getElem!_def, hx]
    · cases hi
  · rw [List.all_eq_true] at hc ⊢
    intro v hv
    obtain ⟨i, hi⟩ := List.mem_iff_getElem?.1 hv
    rw [reps_get hz] at hi
    split at hi
    · exact hc v (List.mem_of_getElem? hi)
    · cases hi

theorem makeSlice_ok (hT : TypesOk P) {s : St} {t : TypeId} {l c : TV} {r : TV × St} {lv cv : Value} (h : makeSliceV (tyOf P) t l c s = some r) (hl : TVR K L l lv) (hc : TVR K L c cv) (hm : Mem K L s.l s.h w) :
    ∃ z w' K', (Instr.makeSlice t lv cv).run P w = .ok z w' ∧ TVR K' L r.1 z ∧ Mem K' L r.2.l r.2.h w' ∧ Step K L w K' L w' ∧ r.2.e = s.e := by
  unfold makeSliceV at h
  split at h <;> first | (cases h; done) | skip
  rename_i el l c hd
  obtain ⟨⟨h0, h1, h2, h3, h4, h5⟩, hR⟩ := grd_some h
  cases hR
  have hu := desc_slice hd
  have hie := hT.elem t el (desc_lt hd (by simp)) (.inl hu)
  obtain ⟨i, zv, hi, hzv, hzs, hzr, hzc⟩ := zero_ok (K := K) hT h4 hie h5
  have hb : (tyOf P el).bytes = i.bytes := by simp [tyOf, Program.bytesOf, hi]
  rw [hb] at h2
  rw [TVR_int hl, TVR_int hc]
  have hrun := run_make (P := P) w t el i zv hu hi hzv .i64 .i64 l c h0 h1 (by rw [Int.mul_comm]; exact h2) (by omega)
  obtain ⟨hr1, hr2⟩ := reps_ok hzr hzc (by rw [h4]; exact h5) c.toNat
  have hms : madeCells zv.cells (c.toNat * i.size) = (Array.range (c.toNat * zv.cells.size)).map (zv.cells[· % zv.cells.size]!) := by
    have e : i.size = zv.cells.size := by rw [hzs, size_of hi]
    rw [e]; rfl
  rw [← hms] at hr1
  obtain ⟨hm', hst⟩ := hm.alloc (ty := el) (c := reps c.toNat (tyOf P el).zero) (c' := madeCells zv.cells (c.toNat * i.size)) (by simpa using CR_of_list hr1 hr2) (by rw [hr1.list]; exact Nat.le_refl _) (0, 0) (.inr (Nat.le_refl 0))
  refine ⟨_, _, _, hrun, ?_, hm', hst, rfl⟩
  simp only [TVR, VR, SlR]
  exact ⟨_, _, rfl, by rw [hm.hr.1]; exact new_at _, Nat.le_refl _, fun _ => rfl, fun e => by omega⟩

theorem buildSlice_ok (hT : TypesOk P) {s : St} {a : Act} (he : ER K L s.e a.tmps) {sl : Option Nat} {t : TypeId} {n : Nat} {parts : List (Nat × Operand)} {r : TV × St}
    (h : buildSliceV (tyOf P) sl t n parts s = some r) (hm : Mem K L s.l s.h w) :
    ∃ z w' K' L', (Instr.buildSlice t n (parts.map fun p => (p.1, a.eval p.2)).toArray).run P w = .ok z w' ∧ TVR K' L' r.1 z ∧ Mem K' L' r.2.l r.2.h w' ∧ Step K L w K' L' w' ∧ r.2.e = s.e := by
  unfold buildSliceV at h
  split at h <;> first | (cases h; done) | skip
  rename_i el hd
  obtain ⟨⟨h0, h4, h5⟩, hR⟩ := grd_some h
  obtain ⟨c, hc, hR⟩ := bnd_some hR
  have hu := desc_slice hd
  have hie := hT.elem t el (desc_lt hd (by simp)) (.inl hu)
  obtain ⟨i, zv, hi, hzv, hzs, hzr, hzc⟩ := zero_ok (K := K) hT h4 hie h5
  obtain ⟨hr1, hr2⟩ := reps_ok hzr hzc (by rw [h4]; exact h5) n
  obtain ⟨cells', hf, hv, hv1, _⟩ := fill_ok he (pl' := fun j => some (j * i.size, i.size)) (fun j q hq => by rw [size_of hi] at hq; exact hq) parts _ c _ hc hr1 hr2
  have hrun : (Instr.buildSlice t n (parts.map fun p => (p.1, a.eval p.2)).toArray).run P w = .ok (.slice (some ⟨w.heap.size, 0, none⟩) n n) (w.alloc (.cells cells' el)) := by
    have hsz := size_of hi
    have hzs' : zv.cells.size = i.size := by rw [hzs, hsz]
    have hn1 : ¬ (16777216 < n * i.size) := by rw [← hsz]; omega
    rw [hzs'] at hf
    by_cases hn0 : n * i.size = 0
    · have hf' : Instr.fill (fun j => some (j * i.size, i.size)) ((Array.range (n * i.size)).map ((#[] : Array Value)[· % (#[] : Array Value).size]!)) (parts.map fun p => (p.1, a.eval p.2)) = some cells' := by
        rw [← hf]; congr 1
        rw [hn0]; simp
      have hn2 : n = 0 ∨ i.size = 0 := Nat.mul_eq_zero.1 hn0
      simp only [hn0] at hf'
      simp [Instr.buildSlice, run_underlying hu, sizeOf, typeInfo, hi, hn1, hn0, hn2, newRow]
      simp at hf'
      simp [hf']
    · simp [Instr.buildSlice, run_underlying hu, sizeOf, typeInfo, hi, hn1, hn0, zeroValue, hzv, newRow, hzs', hf]
  split at hR
  · rename_i k
    obtain ⟨p, hp, hR⟩ := bnd_some hR
    cases hR
    obtain ⟨L', g1, g2, g3⟩ := hm.newLoc (ty := el) hp hv hv1
    refine ⟨_, _, K, L', hrun, ⟨by omega, _, _, g1, Nat.le_refl _, _, _, rfl, fun _ => rfl⟩, g2, g3, rfl⟩
  · cases hR
    obtain ⟨hm', hst⟩ := hm.alloc (ty := el) (c := c) (c' := cells') (by simpa using CR_of_list hv hv1) (by rw [hv.list]; exact Nat.le_refl _) (0, 0) (.inr (Nat.le_refl 0))
    refine ⟨_, _, _, L, hrun, ?_, hm', hst, rfl⟩
    simp only [TVR, VR, SlR]
    exact ⟨_, _, rfl, by rw [hm.hr.1]; exact new_at _, Nat.le_refl _, fun _ => rfl, fun e => by omega⟩

/-- The first elements of a row. -/
theorem sliceCells_le {s : St} {z n m : Nat} {x : TV} {cs : List V} {xv : Value} (h : sliceCells z s x = some (n, cs)) (hx : TVR K L x xv) (hm : Mem K L s.l s.h w) (hle : m ≤ n) :
    ∃ arr : Array Value, (Builtin.firstCells z m xv).run P w = .ok arr w ∧ VRs K (cs.take (m * z)) arr.toList := by
  unfold sliceCells at h
  split at h <;> first | (cases h; done) | skip
  · obtain ⟨rfl, h⟩ := grd_some h
    cases h
    obtain ⟨_, _, _, rfl⟩ : SlR K .nil _ _ _ xv := by simpa only [TVR, VR] using hx
    exact ⟨#[], by simp [Builtin.firstCells], by simp [VRs]⟩
  · obtain ⟨rfl, h⟩ := grd_some h
    cases h
    obtain ⟨_, _, _, a, c, rfl⟩ : SlR K .any _ _ _ xv := by simpa only [TVR, VR] using hx
    have : m = 0 := by omega
    subst this
    refine ⟨#[], ?_, by simp [VRs]⟩
    simp [Builtin.firstCells, loadCells, loadCellsFrom]
  · rename_i b g o n' c zz
    obtain ⟨a, cap', rfl, hat, _⟩ : SlR K _ _ _ _ xv := by simpa only [TVR, VR] using hx
    rcases cnd_some h with ⟨h0, h⟩ | ⟨_, h⟩
    · cases h
      have : n' = 0 := by simpa using h0
      have : m = 0 := by omega
      subst this
      refine ⟨#[], ?_, by simp [VRs]⟩
      simp [Builtin.firstCells, loadCells, loadCellsFrom]
    · obtain ⟨p, hp, h⟩ := bnd_some h
      obtain ⟨hlen, h⟩ := grd_some h
      cases h
      obtain ⟨_, B, S, N, hK, c', ty, fr, h1, _, _, h4, _⟩ := hcells_ok hm.hr hp
      have ha := hat.addr_of hK
      have hmz : m * z ≤ n * z := Nat.mul_le_mul_right z hle
      obtain ⟨s1, s2, s3, s4⟩ := seg_ok h4 o (m * z) (by omega)
      rw [ha]
      refine ⟨_, by simp only [Builtin.firstCells]; exact run_seg h1 h4 (by omega), ?_⟩
      rw [List.take_take, Nat.min_eq_left hmz]
      simpa using s2
  · rename_i sl ver o n'
    obtain ⟨c, hc, h⟩ := bnd_some h
    obtain ⟨hlen, h⟩ := grd_some h
    cases h
    obtain ⟨h0, _, B, hB, c', e, h1, _, h3⟩ := lcells_ok hm.lr hc
    obtain ⟨_, cur, B', hs, _, a, cap, rfl, ha⟩ := hx
    rw [hB] at hs; cases hs
    rw [ha rfl]
    have hmz : m * z ≤ n * z := Nat.mul_le_mul_right z hle
    obtain ⟨s1, s2, s3, s4⟩ := seg_ok h3 o (m * z) (by omega)
    refine ⟨((c'.toList.drop o).take (m * z)).toArray, ?_, ?_⟩
    · have := run_seg (P := P) (n := m * z) h1 h3 (o := o) (by omega)
      rw [Nat.zero_add] at this
      simpa only [Builtin.firstCells] using this
    · rw [List.take_take, Nat.min_eq_left hmz]
      simpa using s2
  · rename_i b
    obtain ⟨hz, h⟩ := grd_some h
    cases h
    rw [TVR_str hx]
    refine ⟨_, rfl, ?_⟩
    have hall : ∀ l : List UInt8, VRs K (l.map fun u => V.int .u8 u.toNat) (l.map fun u => Value.int .u8 u.toNat) := by
      intro l
      induction l with
      | nil => simp [VRs]
      | cons u l ih => simp only [List.map_cons, VRs]; exact ⟨_, _, rfl, by simp [VR], ih⟩
    have e : ((b.extract 0 m).data.map fun u => Value.int .u8 u.toNat).toList = ((b.data.toList.map fun u => Value.int .u8 u.toNat)).take (m * z) := by
      simp [hz, List.extract_eq_drop_take']
    rw [e]
    exact (hall b.data.toList).take _

theorem copy_ok (hT : TypesOk P) {s : St} {t u : TypeId} {x y : TV} {r : TV × St} {xv yv : Value} (h : copyV (tyOf P) t s x y = some r) (hx : TVR K L x xv) (hy : TVR K L y yv) (hm : Mem K L s.l s.h w) (ty : TypeId) :
    ∃ z w', (Builtin.copy_ #[t, u] ty #[xv, yv]).run P w = .ok z w' ∧ TVR K L r.1 z ∧ Mem K L r.2.l r.2.h w' ∧ Step K L w K L w' ∧ r.2.e = s.e := by
  unfold copyV at h
  split at h <;> first | (cases h; done) | skip
  rename_i el sa len cap z hd
  have ht := desc_slice hd
  have hs := run_size (P := P) (hT.elem t el (desc_lt hd (by simp)) (.inl ht)) w
  obtain ⟨q, hq, hR⟩ := bnd_some h
  obtain ⟨n, new⟩ := q
  obtain ⟨hn, _, _, _, hv1, hlen, _⟩ := sliceCells_ok (P := P) hq hy hm
  obtain ⟨arr, hfc, hv⟩ := sliceCells_le (P := P) (m := min n len) hq hy hm (Nat.min_le_left _ _)
  have hx' : SlR K sa len cap z xv := by simpa only [TVR, VR] using hx
  obtain ⟨a', cap', rfl, hcc, hz0⟩ := hx'.shape
  have hv1' : (new.take (min n len * (tyOf P el).size)).all isCell = true := by
    rw [List.all_eq_true] at hv1 ⊢
    exact fun v h => hv1 v (List.mem_of_mem_take h)
  have hmin : Nat.min n len = min n len := rfl
  rcases cnd_some hR with ⟨h0, hR⟩ | ⟨_, hR⟩
  · cases hR
    have h0' : min n len = 0 := by simpa using h0
    have harr : arr = #[] := by
      have := hv.list; rw [h0'] at this; simpa using this
    subst harr
    refine ⟨.int .i64 0, w, ?_, by simp [TVR, VR], hm, Step.refl K L w, rfl⟩
    rw [h0'] at hfc
    cases a' with
    | none => simp [Builtin.copy_, run_underlying ht, hn, hs, hmin, h0', hfc, goInt]
    | some a => simp [Builtin.copy_, run_underlying ht, hn, hs, hmin, h0', hfc, goInt, storeCells]
  · cases sa with
    | nil => cases hR
    | any => cases hR
    | «at» b g o =>
      obtain ⟨s', hs', hR⟩ := bnd_some hR
      cases hR
      obtain ⟨a, c1, e1, hat, _⟩ := hx'
      cases e1
      obtain ⟨w', hrun, hm', hst, he⟩ := putBlk_ok (P := P) (o := o) hs' (fun c c1 hc => hc) hm hv hv1' hat
      refine ⟨.int .i64 (min n len : Nat), w', ?_, by simp [TVR, VR], hm', hst, he⟩
      simp [Builtin.copy_, run_underlying ht, hn, hs, hmin, hfc, goInt, hrun]

theorem clear_ok (hT : TypesOk P) {s : St} {t : TypeId} {x : TV} {r : TV × St} {xv : Value} (h : clearV (tyOf P) t s x = some r) (hx : TVR K L x xv) (hm : Mem K L s.l s.h w) (ty : TypeId) :
    ∃ z w', (Builtin.clear_ #[t] ty #[xv]).run P w = .ok z w' ∧ TVR K L r.1 z ∧ Mem K L r.2.l r.2.h w' ∧ Step K L w K L w' ∧ r.2.e = s.e := by
  unfold clearV at h
  split at h <;> first | (cases h; done) | skip
  rename_i el sa len cap z hd
  have ht := desc_slice hd
  have hie := hT.elem t el (desc_lt hd (by simp)) (.inl ht)
  have hx' : SlR K sa len cap z xv := by simpa only [TVR, VR] using hx
  obtain ⟨a', cap', rfl, hcc, hz0⟩ := hx'.shape
  rcases cnd_some h with ⟨h0, hR⟩ | ⟨h0, hR⟩
  · cases hR
    have h0' : len = 0 := by simpa using h0
    subst h0'
    refine ⟨.tuple #[], w, ?_, by simp [TVR, VR, VRs], hm, Step.refl K L w, rfl⟩
    cases a' <;> simp [Builtin.clear_, run_underlying ht]
  · cases sa with
    | nil => cases hR
    | any => cases hR
    | «at» b g o =>
      obtain ⟨⟨h4, h5⟩, hR⟩ := grd_some hR
      obtain ⟨s', hs', hR⟩ := bnd_some hR
      cases hR
      obtain ⟨i, zv, hi, hzv, hzs, hzr, hzc⟩ := zero_ok (K := K) hT h4 hie h5
      obtain ⟨hr1, hr2⟩ := reps_ok hzr hzc (by rw [h4]; exact h5) len
      obtain ⟨a, c1, e1, hat, _⟩ := hx'
      cases e1
      obtain ⟨w', hrun, hm', hst, he⟩ := putBlk_ok (P := P) (o := o) hs' (fun c c1 hc => hc) hm hr1 hr2 hat
      refine ⟨.tuple #[], w', ?_, by simp [TVR, VR, VRs], hm', hst, he⟩
      have hl : len ≠ 0 := by simpa using h0
      obtain ⟨k, rfl⟩ : ∃ k, len = k + 1 := ⟨len - 1, by omega⟩
      have hz : (zeroValue el).run P w = .ok zv w := by simp [zeroValue, typeInfo, hi, hzv]
      have hcl : Builtin.zeroCells zv.cells (k + 1) = (Array.range ((k + 1) * zv.cells.size)).map (zv.cells[· % zv.cells.size]!) := rfl
      rw [← hcl] at hrun
      simp [Builtin.clear_, run_underlying ht, hz, hrun]

omit [Good] in
theorem toBytes_ok : ∀ {l : List V} {ys : List Value} {bs : List UInt8}, toBytes l = some bs → VRs K l ys → ∃ ns : List Int, ys = ns.map (Value.int .u8) ∧ bs = ns.map fun n => UInt8.ofNat n.toNat
  | [], ys, bs, h, hv => by
    simp only [toBytes] at h; cases h
    simp only [VRs] at hv; subst hv
    exact ⟨[], rfl, rfl⟩
  | v :: l, ys, bs, h, hv => by
    simp only [VRs] at hv
    obtain ⟨y, ys', rfl, hy, hv⟩ := hv
    cases v with
    | int k n =>
      cases k with
      | u8 =>
        simp only [toBytes] at h
        obtain ⟨bs', hb, h⟩ := bnd_some h
        cases h
        obtain ⟨ns, rfl, rfl⟩ := toBytes_ok hb hv
        exact ⟨n :: ns, by simp [VR_int hy], rfl⟩
      | _ => cases h
    | _ => cases h

theorem conv_ok (hT : TypesOk P) {s : St} {src dst : TypeId} {x : TV} {r : TV × St} {xv : Value} (h : convV (tyOf P) src dst s x = some r) (hx : TVR K L x xv) (hm : Mem K L s.l s.h w) :
    ∃ z w' K', (Go.convert src dst xv).run P w = .ok z w' ∧ TVR K' L r.1 z ∧ Mem K' L r.2.l r.2.h w' ∧ Step K L w K' L w' ∧ r.2.e = s.e := by
  unfold convV at h
  split at h <;> first | (cases h; done) | skip
  · rename_i k1 k2 k3 n hd1 hd2
    cases h
    rw [TVR_int hx]
    refine ⟨.int k2 (k2.wrap n), w, K, ?_, by simp only [TVR, VR], hm, Step.refl K L w, rfl⟩
    simp [Go.convert, run_underlying (desc_int hd1), run_underlying (desc_int hd2), Conv.intToInt]
  · rename_i b hd1 hd2
    cases h
    rw [TVR_str hx]
    refine ⟨.string b, w, K, ?_, by simp only [TVR, VR], hm, Step.refl K L w, rfl⟩
    simp [Go.convert, run_underlying (desc_str hd1), run_underlying (desc_str hd2)]
  · rename_i el sa n c z hd1 hd2
    split at h
    · rename_i hd3
      obtain ⟨q, hq, hR⟩ := bnd_some h
      obtain ⟨l, hl, hR⟩ := bnd_some hR
      cases hR
      obtain ⟨n', cs⟩ := q
      obtain ⟨hn, arr, hfc, hv, hv1, hlen, _⟩ := sliceCells_ok (P := P) hq hx hm
      obtain ⟨ns, hys, rfl⟩ := toBytes_ok hl hv
      have hx' : SlR K sa n c z xv := by simpa only [TVR, VR] using hx
      obtain ⟨a', cap', rfl, _, _⟩ := hx'.shape
      have hnn : n' = n := by simpa [Builtin.lenOf] using hn.symm
      subst hnn
      refine ⟨.string ⟨(ns.map fun n => UInt8.ofNat n.toNat).toArray⟩, w, K, ?_, by simp only [TVR, VR], hm, Step.refl K L w, rfl⟩
      cases a' with
      | none =>
        have : arr = #[] := by simpa [Builtin.firstCells] using hfc.symm
        subst this
        have : ns = [] := by simpa using hys.symm
        subst this
        simp [Go.convert, run_underlying (desc_slice hd1), run_underlying (desc_str hd2), run_underlying (desc_int hd3), Conv.bytesToString]
        rfl
      | some a =>
        simp only [Builtin.firstCells, Nat.mul_one] at hfc
        have harr : arr = (ns.map (Value.int .u8)).toArray := by rw [← hys]
        rw [harr] at hfc
        have hrun := run_bytesToString (P := P) w a n' cap' ns hfc
        rw [foldl_push_bytes] at hrun
        simp [Go.convert, run_underlying (desc_slice hd1), run_underlying (desc_str hd2), run_underlying (desc_int hd3), hrun]
    · cases h
  · rename_i el b hd1 hd2
    split at h
    · rename_i hd3
      cases h
      rw [TVR_str hx]
      have hrun := run_convert_string_bytes (P := P) w src dst el b (desc_str hd1) (desc_slice hd2) (desc_int hd3)
      have hge : b.size ≤ grownCap w b.size 0 el := by simp only [grownCap, Question.cut]; omega
      have hnew := bytesWorld_at_new w el b
      have hcsz : (bytesCells w el b).size = grownCap w b.size 0 el := by simp [bytesCells]; omega
      have hcr : CR K (bytesV b) (bytesCells w el b) 0 := by
        intro j v hj
        have hlt : j < b.size := by
          have := (List.getElem?_eq_some_iff.1 hj).1
          simpa [bytesV] using this
        simp only [bytesV, List.getElem?_map] at hj
        cases hb : b.data.toList[j]? with
        | none => rw [hb] at hj; cases hj
        | some u =>
          rw [hb] at hj; cases hj
          refine ⟨rfl, .int .u8 u.toNat, ?_, by simp only [VR]⟩
          have hb' : b.data[j]? = some u := by simpa using hb
          rw [Nat.zero_add]
          simp only [bytesCells]
          rw [Array.getElem?_append_left (by simpa using hlt), Array.getElem?_map, hb']; rfl
      have hnone : K[K.length]? = none := List.getElem?_eq_none (Nat.le_refl _)
      have hl := hm.hr.1
      obtain ⟨hm', hst⟩ := hm.upd K.length (K' := K ++ [.c 0 w.heap.size 0 (bytesCells w el b).size true]) (h' := s.h ++ [.cells 0 true (bytesV b)]) (w' := bytesWorld w el b) (g2 := 0) (B2 := w.heap.size) (S2 := 0) (N2 := (bytesCells w el b).size) (k2 := true) (c2 := bytesV b) (KM.le_append K _)
        (fun b' hb => by
          by_cases h1 : b' < K.length
          · rw [List.getElem?_append_left h1]
          · rw [List.getElem?_eq_none (by simp; omega), List.getElem?_eq_none (by omega)])
        (fun b' hb => by
          rw [← hl] at hb
          by_cases h1 : b' < s.h.length
          · rw [List.getElem?_append_left h1]
          · rw [List.getElem?_eq_none (by simp; omega), List.getElem?_eq_none (by omega)])
        (by simp [hl]) (by simp) rfl (by rw [← hl]; simp)
        ⟨_, _, _, rfl, _, el, _, hnew, rfl, by rw [hcsz]; simp [bytesV]; omega, hcr.mono (KM.le_append K _), fun _ => .inl (Nat.le_refl _)⟩
        (by
          rintro s' B ⟨B', l', ver, h1, _⟩
          rw [hnone] at h1; cases h1)
        (.inr ⟨Nat.le_refl _, by rw [bytesWorld_size]; omega⟩) (fun B hB _ => bytesWorld_at_old w el b B hB) (by rw [bytesWorld_size]; omega) rfl rfl rfl
      refine ⟨_, _, _, hrun, ?_, hm', hst, rfl⟩
      simp only [TVR, VR, SlR]
      refine ⟨_, _, rfl, by rw [hl]; exact new_at _, hge, fun e => by omega, fun _ => ?_⟩
      intro g' B S N' k hK _
      rw [hl] at hK
      simp at hK
      obtain ⟨_, rfl, rfl, rfl, _⟩ := hK
      rw [hcsz]; omega
    · cases h

end Go.Ev
