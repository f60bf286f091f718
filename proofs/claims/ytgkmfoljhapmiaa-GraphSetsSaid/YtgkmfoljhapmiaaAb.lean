/-
Texts of this claim, one behind the other.
-/
import Derived.Test.YtgkmfoljhapmiaaAa
import Derived.MapKept
import Derived.RangeFuncRecord
import Derived.TacticsIn
import Derived.RangeFuncNested
import Derived.LoopNIn
import Derived.Below
import Derived.OpenShut
import Derived.ChangeOld
import Derived.ProofKit
import Derived.Carry
import Derived.ChangeCalls
set_option linter.unusedSimpArgs false
set_option linter.unusedVariables false
set_option linter.unusedSectionVars false
set_option maxRecDepth 100000
namespace Go.Ev
open Go.Lib
variable [Good] {P : Program} {K : KM} {L : KL} {w : World}
omit [Good] in
theorem reps_get {z : List V} (hz : 0 < z.length) : ∀ (n j : Nat), (reps n z)[j]? = if j < n * z.length then z[j % z.length]? else none
 | 0, j => by simp [reps]
 | n + 1, j => by
  have e : reps (n + 1) z = z ++ reps n z := by simp [reps, List.replicate_succ]
  rw [e]
  have hm : (n + 1) * z.length = n * z.length + z.length := Nat.succ_mul _ _
  by_cases h : j < z.length
  ·rw [List.getElem?_append_left h, if_pos (by omega), Nat.mod_eq_of_lt h]
  ·rw [List.getElem?_append_right (by omega), reps_get hz n]
   have : j % z.length = (j - z.length) % z.length := by
    rw [<- Nat.mod_eq_sub_mod (by omega)]
   by_cases h2 : j - z.length < n * z.length
   ·rw [if_pos h2, if_pos (by omega), this]
   ·rw [if_neg h2, if_neg (by omega)]
omit [Good] in
theorem reps_length {z : List V} (n : Nat) : (reps n z).length = n * z.length := by
 induction n with
 | zero => simp [reps]
 | succ n ih =>
  have e : reps (n + 1) z = z ++ reps n z := by simp [reps, List.replicate_succ]
  rw [e, List.length_append, ih, Nat.succ_mul]; omega
omit [Good] in
theorem reps_ok {z : List V} {zs : Array Value} (h : VRs K z zs.toList) (hc : z.all isCell = true) (hz : 0 < z.length) (n : Nat) :
  VRs K (reps n z) ((Array.range (n * zs.size)).map (zs[· % zs.size]!)).toList /\ (reps n z).all isCell = true := by
 have hl : zs.size = z.length := h.list
 refine ⟨VRs.of_get (by rw [reps_length, hl]; simp) fun i v hi => ?_, ?_⟩
 ·rw [reps_get hz] at hi
  split at hi
  ·rename_i hlt
   obtain ⟨x, hx, hr⟩ := h.get _ v hi
   refine ⟨x, ?_, hr⟩
   rw [hl]
   simp [hlt]
   rw [Array.getElem?_toList] at hx
   rw [getElem!_def, hx]
  ·cases hi
 ·rw [List.all_eq_true] at hc ⊢
  intro v hv
  obtain ⟨i, hi⟩ := List.mem_iff_getElem?.1 hv
  rw [reps_get hz] at hi
  split at hi
  ·exact hc v (List.mem_of_getElem? hi)
  ·cases hi
theorem makeSlice_ok (hT : TypesOk P) {s : St} {t : TypeId} {l c : TV} {r : TV × St} {lv cv : Value} (h : makeSliceV (tyOf P) t l c s = some r) (hl : TVR K L l lv) (hc : TVR K L c cv) (hm : Mem K L s.l s.h w) :
  ∃ z w' K', (Instr.makeSlice t lv cv).run P w = .ok z w' /\ TVR K' L r.1 z /\ Mem K' L r.2.l r.2.h w' /\ Step K L w K' L w' /\ r.2.e = s.e := by
 unfold makeSliceV at h
 split at h <;> first | (cases h; done) | skip
 rename_i el l c hd
 obtain ⟨⟨h0, h1, h2, h3, h4, h5⟩, hR⟩ := grd_some h
 cases hR
 have hu := desc_slice hd
 have hie := hT.elem t el (desc_lt hd (by simp)) (.inl hu)
 obtain ⟨i, zv, hi, hzv, hzs, hzr, hzc⟩ := zero_ok (K := K) hT h4 hie h5
 have hb : (tyOf P el).bytes = i.bytes := by simp [tyOf, Program.bytesOf, hi]
 rw [hb] at h2
 rw [TVR_int hl, TVR_int hc]
 have hrun := run_make (P := P) w t el i zv hu hi hzv .i64 .i64 l c h0 h1 (by rw [Int.mul_comm]; exact h2) (by omega)
 obtain ⟨hr1, hr2⟩ := reps_ok hzr hzc (by rw [h4]; exact h5) c.toNat
 have hms : madeCells zv.cells (c.toNat * i.size) = (Array.range (c.toNat * zv.cells.size)).map (zv.cells[· % zv.cells.size]!) := by
  have e : i.size = zv.cells.size := by rw [hzs, size_of hi]
  rw [e]; rfl
 rw [<- hms] at hr1
 obtain ⟨hm', hst⟩ := hm.alloc (ty := el) (c := reps c.toNat (tyOf P el).zero) (c' := madeCells zv.cells (c.toNat * i.size)) (by simpa using CR_of_list hr1 hr2) (by rw [hr1.list]; exact Nat.le_refl _) (0, 0) (.inr (Nat.le_refl 0))
 refine ⟨_, _, _, hrun, ?_, hm', hst, rfl⟩
 simp only [TVR,VR,SlR]
 exact ⟨_, _, rfl, by rw [hm.hr.1]; exact new_at _, Nat.le_refl _, fun _ => rfl, fun e => by omega⟩
theorem buildSlice_ok (hT : TypesOk P) {s : St} {a : Act} (he : ER K L s.e a.tmps) {sl : Option Nat} {t : TypeId} {n : Nat} {parts : List (Nat × Operand)} {r : TV × St}
  (h : buildSliceV (tyOf P) sl t n parts s = some r) (hm : Mem K L s.l s.h w) :
  ∃ z w' K' L', (Instr.buildSlice t n (parts.map fun p => (p.1, a.eval p.2)).toArray).run P w = .ok z w' /\ TVR K' L' r.1 z /\ Mem K' L' r.2.l r.2.h w' /\ Step K L w K' L' w' /\ r.2.e = s.e := by
 unfold buildSliceV at h
 split at h <;> first | (cases h; done) | skip
 rename_i el hd
 obtain ⟨⟨h0, h4, h5⟩, hR⟩ := grd_some h
 obtain ⟨c, hc, hR⟩ := bnd_some hR
 have hu := desc_slice hd
 have hie := hT.elem t el (desc_lt hd (by simp)) (.inl hu)
 obtain ⟨i, zv, hi, hzv, hzs, hzr, hzc⟩ := zero_ok (K := K) hT h4 hie h5
 obtain ⟨hr1, hr2⟩ := reps_ok hzr hzc (by rw [h4]; exact h5) n
 obtain ⟨cells', hf, hv, hv1, _⟩ := fill_ok he (pl' := fun j => some (j * i.size, i.size)) (fun j q hq => by rw [size_of hi] at hq; exact hq) parts _ c _ hc hr1 hr2
 have hrun : (Instr.buildSlice t n (parts.map fun p => (p.1, a.eval p.2)).toArray).run P w = .ok (.slice (some ⟨w.heap.size, 0, none⟩) n n) (w.alloc (.cells cells' el)) := by
  have hsz := size_of hi
  have hzs' : zv.cells.size = i.size := by rw [hzs, hsz]
  have hn1 : ¬ (16777216 < n * i.size) := by rw [<- hsz]; omega
  rw [hzs'] at hf
  by_cases hn0 : n * i.size = 0
  ·have hf' : Instr.fill (fun j => some (j * i.size, i.size)) ((Array.range (n * i.size)).map ((#[] : Array Value)[· % (#[] : Array Value).size]!)) (parts.map fun p => (p.1, a.eval p.2)) = some cells' := by
    rw [<- hf]; congr 1
    rw [hn0]; simp
   have hn2 : n = 0 \/ i.size = 0 := Nat.mul_eq_zero.1 hn0
   simp only [hn0] at hf'
   simp [Instr.buildSlice, run_underlying hu, sizeOf, typeInfo, hi, hn1, hn0, hn2, newRow]
   simp at hf'
   simp [hf']
  ·simp [Instr.buildSlice, run_underlying hu, sizeOf, typeInfo, hi, hn1, hn0, zeroValue, hzv, newRow, hzs', hf]
 split at hR
 ·rename_i k
  obtain ⟨p, hp, hR⟩ := bnd_some hR
  cases hR
  obtain ⟨L', g1, g2, g3⟩ := hm.newLoc (ty := el) hp hv hv1
  refine ⟨_, _, K, L', hrun, ⟨by omega, _, _, g1, Nat.le_refl _, _, _, rfl, fun _ => rfl⟩, g2, g3, rfl⟩
 ·cases hR
  obtain ⟨hm', hst⟩ := hm.alloc (ty := el) (c := c) (c' := cells') (by simpa using CR_of_list hv hv1) (by rw [hv.list]; exact Nat.le_refl _) (0, 0) (.inr (Nat.le_refl 0))
  refine ⟨_, _, _, L, hrun, ?_, hm', hst, rfl⟩
  simp only [TVR,VR,SlR]
  exact ⟨_, _, rfl, by rw [hm.hr.1]; exact new_at _, Nat.le_refl _, fun _ => rfl, fun e => by omega⟩
theorem sliceCells_le {s : St} {z n m : Nat} {x : TV} {cs : List V} {xv : Value} (h : sliceCells z s x = some (n, cs)) (hx : TVR K L x xv) (hm : Mem K L s.l s.h w) (hle : m <= n) :
  ∃ arr : Array Value, (Builtin.firstCells z m xv).run P w = .ok arr w /\ VRs K (cs.take (m * z)) arr.toList := by
 unfold sliceCells at h
 split at h <;> first | (cases h; done) | skip
 ·obtain ⟨rfl, h⟩ := grd_some h
  cases h
  obtain ⟨_, _, _, rfl⟩ : SlR K .nil _ _ _ xv := by simpa only [TVR,VR] using hx
  exact ⟨#[], by simp [Builtin.firstCells], by simp [VRs]⟩
 ·obtain ⟨rfl, h⟩ := grd_some h
  cases h
  obtain ⟨_, _, _, a, c, rfl⟩ : SlR K .any _ _ _ xv := by simpa only [TVR,VR] using hx
  have : m = 0 := by omega
  subst this
  refine ⟨#[], ?_, by simp [VRs]⟩
  simp [Builtin.firstCells, loadCells, loadCellsFrom]
 ·rename_i b g o n' c zz
  obtain ⟨a, cap', rfl, hat, _⟩ : SlR K _ _ _ _ xv := by simpa only [TVR,VR] using hx
  rcases cnd_some h with ⟨h0, h⟩ | ⟨_, h⟩
  ·cases h
   have : n' = 0 := by simpa using h0
   have : m = 0 := by omega
   subst this
   refine ⟨#[], ?_, by simp [VRs]⟩
   simp [Builtin.firstCells, loadCells, loadCellsFrom]
  ·obtain ⟨p, hp, h⟩ := bnd_some h
   obtain ⟨hlen, h⟩ := grd_some h
   cases h
   obtain ⟨_, B, S, N, hK, c', ty, fr, h1, _, _, h4, _⟩ := hcells_ok hm.hr hp
   have ha := hat.addr_of hK
   have hmz : m * z <= n * z := Nat.mul_le_mul_right z hle
   obtain ⟨s1, s2, s3, s4⟩ := seg_ok h4 o (m * z) (by omega)
   rw [ha]
   refine ⟨_, by simp only [Builtin.firstCells]; exact run_seg h1 h4 (by omega), ?_⟩
   rw [List.take_take, Nat.min_eq_left hmz]
   simpa using s2
 ·rename_i sl ver o n'
  obtain ⟨c, hc, h⟩ := bnd_some h
  obtain ⟨hlen, h⟩ := grd_some h
  cases h
  obtain ⟨h0, _, B, hB, c', e, h1, _, h3⟩ := lcells_ok hm.lr hc
  obtain ⟨_, cur, B', hs, _, a, cap, rfl, ha⟩ := hx
  rw [hB] at hs; cases hs
  rw [ha rfl]
  have hmz : m * z <= n * z := Nat.mul_le_mul_right z hle
  obtain ⟨s1, s2, s3, s4⟩ := seg_ok h3 o (m * z) (by omega)
  refine ⟨((c'.toList.drop o).take (m * z)).toArray, ?_, ?_⟩
  ·have := run_seg (P := P) (n := m * z) h1 h3 (o := o) (by omega)
   rw [Nat.zero_add] at this
   simpa only [Builtin.firstCells] using this
  ·rw [List.take_take, Nat.min_eq_left hmz]
   simpa using s2
 ·rename_i b
  obtain ⟨hz, h⟩ := grd_some h
  cases h
  rw [TVR_str hx]
  refine ⟨_, rfl, ?_⟩
  have hall : ∀ l : List UInt8, VRs K (l.map fun u => V.int .u8 u.toNat) (l.map fun u => Value.int .u8 u.toNat) := by
   intro l
   induction l with
   | nil => simp [VRs]
   | cons u l ih => simp only [List.map_cons,VRs]; exact ⟨_, _, rfl, by simp [VR], ih⟩
  have e : ((b.extract 0 m).data.map fun u => Value.int .u8 u.toNat).toList = ((b.data.toList.map fun u => Value.int .u8 u.toNat)).take (m * z) := by
   simp [hz, List.extract_eq_drop_take']
  rw [e]
  exact (hall b.data.toList).take _
theorem copy_ok (hT : TypesOk P) {s : St} {t u : TypeId} {x y : TV} {r : TV × St} {xv yv : Value} (h : copyV (tyOf P) t s x y = some r) (hx : TVR K L x xv) (hy : TVR K L y yv) (hm : Mem K L s.l s.h w) (ty : TypeId) :
  ∃ z w', (Builtin.copy_ #[t, u] ty #[xv, yv]).run P w = .ok z w' /\ TVR K L r.1 z /\ Mem K L r.2.l r.2.h w' /\ Step K L w K L w' /\ r.2.e = s.e := by
 unfold copyV at h
 split at h <;> first | (cases h; done) | skip
 rename_i el sa len cap z hd
 have ht := desc_slice hd
 have hs := run_size (P := P) (hT.elem t el (desc_lt hd (by simp)) (.inl ht)) w
 obtain ⟨q, hq, hR⟩ := bnd_some h
 obtain ⟨n, new⟩ := q
 obtain ⟨hn, _, _, _, hv1, hlen, _⟩ := sliceCells_ok (P := P) hq hy hm
 obtain ⟨arr, hfc, hv⟩ := sliceCells_le (P := P) (m := min n len) hq hy hm (Nat.min_le_left _ _)
 have hx' : SlR K sa len cap z xv := by simpa only [TVR,VR] using hx
 obtain ⟨a', cap', rfl, hcc, hz0⟩ := hx'.shape
 have hv1' : (new.take (min n len * (tyOf P el).size)).all isCell = true := by
  rw [List.all_eq_true] at hv1 ⊢
  exact fun v h => hv1 v (List.mem_of_mem_take h)
 have hmin : Nat.min n len = min n len := rfl
 rcases cnd_some hR with ⟨h0, hR⟩ | ⟨_, hR⟩
 ·cases hR
  have h0' : min n len = 0 := by simpa using h0
  have harr : arr = #[] := by
   have := hv.list; rw [h0'] at this; simpa using this
  subst harr
  refine ⟨.int .i64 0, w, ?_, by simp [TVR, VR], hm, Step.refl K L w, rfl⟩
  rw [h0'] at hfc
  cases a' with
  | none => simp [Builtin.copy_, run_underlying ht, hn, hs, hmin, h0', hfc, goInt]
  | some a => simp [Builtin.copy_, run_underlying ht, hn, hs, hmin, h0', hfc, goInt, storeCells]
 ·cases sa with
  | nil => cases hR
  | any => cases hR
  | «at» b g o =>
   obtain ⟨s', hs', hR⟩ := bnd_some hR
   cases hR
   obtain ⟨a, c1, e1, hat, _⟩ := hx'
   cases e1
   obtain ⟨w', hrun, hm', hst, he⟩ := putBlk_ok (P := P) (o := o) hs' (fun c c1 hc => hc) hm hv hv1' hat
   refine ⟨.int .i64 (min n len : Nat), w', ?_, by simp [TVR, VR], hm', hst, he⟩
   simp [Builtin.copy_, run_underlying ht, hn, hs, hmin, hfc, goInt, hrun]
theorem clear_ok (hT : TypesOk P) {s : St} {t : TypeId} {x : TV} {r : TV × St} {xv : Value} (h : clearV (tyOf P) t s x = some r) (hx : TVR K L x xv) (hm : Mem K L s.l s.h w) (ty : TypeId) :
  ∃ z w', (Builtin.clear_ #[t] ty #[xv]).run P w = .ok z w' /\ TVR K L r.1 z /\ Mem K L r.2.l r.2.h w' /\ Step K L w K L w' /\ r.2.e = s.e := by
 unfold clearV at h
 split at h <;> first | (cases h; done) | skip
 rename_i el sa len cap z hd
 have ht := desc_slice hd
 have hie := hT.elem t el (desc_lt hd (by simp)) (.inl ht)
 have hx' : SlR K sa len cap z xv := by simpa only [TVR,VR] using hx
 obtain ⟨a', cap', rfl, hcc, hz0⟩ := hx'.shape
 rcases cnd_some h with ⟨h0, hR⟩ | ⟨h0, hR⟩
 ·cases hR
  have h0' : len = 0 := by simpa using h0
  subst h0'
  refine ⟨.tuple #[], w, ?_, by simp [TVR, VR, VRs], hm, Step.refl K L w, rfl⟩
  cases a' <;> simp [Builtin.clear_, run_underlying ht]
 ·cases sa with
  | nil => cases hR
  | any => cases hR
  | «at» b g o =>
   obtain ⟨⟨h4, h5⟩, hR⟩ := grd_some hR
   obtain ⟨s', hs', hR⟩ := bnd_some hR
   cases hR
   obtain ⟨i, zv, hi, hzv, hzs, hzr, hzc⟩ := zero_ok (K := K) hT h4 hie h5
   obtain ⟨hr1, hr2⟩ := reps_ok hzr hzc (by rw [h4]; exact h5) len
   obtain ⟨a, c1, e1, hat, _⟩ := hx'
   cases e1
   obtain ⟨w', hrun, hm', hst, he⟩ := putBlk_ok (P := P) (o := o) hs' (fun c c1 hc => hc) hm hr1 hr2 hat
   refine ⟨.tuple #[], w', ?_, by simp [TVR, VR, VRs], hm', hst, he⟩
   have hl : len ≠ 0 := by simpa using h0
   obtain ⟨k, rfl⟩ : ∃ k, len = k + 1 := ⟨len - 1, by omega⟩
   have hz : (zeroValue el).run P w = .ok zv w := by simp [zeroValue, typeInfo, hi, hzv]
   have hcl : Builtin.zeroCells zv.cells (k + 1) = (Array.range ((k + 1) * zv.cells.size)).map (zv.cells[· % zv.cells.size]!) := rfl
   rw [<- hcl] at hrun
   simp [Builtin.clear_, run_underlying ht, hz, hrun]
omit [Good] in
theorem toBytes_ok : ∀ {l : List V} {ys : List Value} {bs : List UInt8}, toBytes l = some bs -> VRs K l ys -> ∃ ns : List Int, ys = ns.map (Value.int .u8) /\ bs = ns.map fun n => UInt8.ofNat n.toNat
 | [], ys, bs, h, hv => by
  simp only [toBytes] at h; cases h
  simp only [VRs] at hv; subst hv
  exact ⟨[], rfl, rfl⟩
 | v :: l, ys, bs, h, hv => by
  simp only [VRs] at hv
  obtain ⟨y, ys', rfl, hy, hv⟩ := hv
  cases v with
  | int k n =>
   cases k with
   | u8 =>
    simp only [toBytes] at h
    obtain ⟨bs', hb, h⟩ := bnd_some h
    cases h
    obtain ⟨ns, rfl, rfl⟩ := toBytes_ok hb hv
    exact ⟨n :: ns, by simp [VR_int hy], rfl⟩
   | _ => cases h
  | _ => cases h
theorem conv_ok (hT : TypesOk P) {s : St} {src dst : TypeId} {x : TV} {r : TV × St} {xv : Value} (h : convV (tyOf P) src dst s x = some r) (hx : TVR K L x xv) (hm : Mem K L s.l s.h w) :
  ∃ z w' K', (Go.convert src dst xv).run P w = .ok z w' /\ TVR K' L r.1 z /\ Mem K' L r.2.l r.2.h w' /\ Step K L w K' L w' /\ r.2.e = s.e := by
 unfold convV at h
 split at h <;> first | (cases h; done) | skip
 ·rename_i k1 k2 k3 n hd1 hd2
  cases h
  rw [TVR_int hx]
  refine ⟨.int k2 (k2.wrap n), w, K, ?_, by simp only [TVR,VR], hm, Step.refl K L w, rfl⟩
  simp [Go.convert, run_underlying (desc_int hd1), run_underlying (desc_int hd2), Conv.intToInt]
 ·rename_i b hd1 hd2
  cases h
  rw [TVR_str hx]
  refine ⟨.string b, w, K, ?_, by simp only [TVR,VR], hm, Step.refl K L w, rfl⟩
  simp [Go.convert, run_underlying (desc_str hd1), run_underlying (desc_str hd2)]
 ·rename_i el sa n c z hd1 hd2
  split at h
  ·rename_i hd3
   obtain ⟨q, hq, hR⟩ := bnd_some h
   obtain ⟨l, hl, hR⟩ := bnd_some hR
   cases hR
   obtain ⟨n', cs⟩ := q
   obtain ⟨hn, arr, hfc, hv, hv1, hlen, _⟩ := sliceCells_ok (P := P) hq hx hm
   obtain ⟨ns, hys, rfl⟩ := toBytes_ok hl hv
   have hx' : SlR K sa n c z xv := by simpa only [TVR,VR] using hx
   obtain ⟨a', cap', rfl, _, _⟩ := hx'.shape
   have hnn : n' = n := by simpa [Builtin.lenOf] using hn.symm
   subst hnn
   refine ⟨.string ⟨(ns.map fun n => UInt8.ofNat n.toNat).toArray⟩, w, K, ?_, by simp only [TVR,VR], hm, Step.refl K L w, rfl⟩
   cases a' with
   | none =>
    have : arr = #[] := by simpa [Builtin.firstCells] using hfc.symm
    subst this
    have : ns = [] := by simpa using hys.symm
    subst this
    simp [Go.convert, run_underlying (desc_slice hd1), run_underlying (desc_str hd2), run_underlying (desc_int hd3), Conv.bytesToString]
    rfl
   | some a =>
    simp only [Builtin.firstCells,Nat.mul_one] at hfc
    have harr : arr = (ns.map (Value.int .u8)).toArray := by rw [<- hys]
    rw [harr] at hfc
    have hrun := run_bytesToString (P := P) w a n' cap' ns hfc
    rw [foldl_push_bytes] at hrun
    simp [Go.convert, run_underlying (desc_slice hd1), run_underlying (desc_str hd2), run_underlying (desc_int hd3), hrun]
  ·cases h
 ·rename_i el b hd1 hd2
  split at h
  ·rename_i hd3
   cases h
   rw [TVR_str hx]
   have hrun := run_convert_string_bytes (P := P) w src dst el b (desc_str hd1) (desc_slice hd2) (desc_int hd3)
   have hge : b.size <= grownCap w b.size 0 el := by simp only [grownCap,Question.cut]; omega
   have hnew := bytesWorld_at_new w el b
   have hcsz : (bytesCells w el b).size = grownCap w b.size 0 el := by simp [bytesCells]; omega
   have hcr : CR K (bytesV b) (bytesCells w el b) 0 := by
    intro j v hj
    have hlt : j < b.size := by
     have := (List.getElem?_eq_some_iff.1 hj).1
     simpa [bytesV] using this
    simp only [bytesV,List.getElem?_map] at hj
    cases hb : b.data.toList[j]? with
    | none => rw [hb] at hj; cases hj
    | some u =>
     rw [hb] at hj; cases hj
     refine ⟨rfl, .int .u8 u.toNat, ?_, by simp only [VR]⟩
     have hb' : b.data[j]? = some u := by simpa using hb
     rw [Nat.zero_add]
     simp only [bytesCells]
     rw [Array.getElem?_append_left (by simpa using hlt), Array.getElem?_map, hb']; rfl
   have hnone : K[K.length]? = none := List.getElem?_eq_none (Nat.le_refl _)
   have hl := hm.hr.1
   obtain ⟨hm', hst⟩ := hm.upd K.length (K' := K ++ [.c 0 w.heap.size 0 (bytesCells w el b).size true]) (h' := s.h ++ [.cells 0 true (bytesV b)]) (w' := bytesWorld w el b) (g2 := 0) (B2 := w.heap.size) (S2 := 0) (N2 := (bytesCells w el b).size) (k2 := true) (c2 := bytesV b) (KM.le_append K _)
    (fun b' hb => by
     by_cases h1 : b' < K.length
     ·rw [List.getElem?_append_left h1]
     ·rw [List.getElem?_eq_none (by simp; omega), List.getElem?_eq_none (by omega)])
    (fun b' hb => by
     rw [<- hl] at hb
     by_cases h1 : b' < s.h.length
     ·rw [List.getElem?_append_left h1]
     ·rw [List.getElem?_eq_none (by simp; omega), List.getElem?_eq_none (by omega)])
    (by simp [hl]) (by simp) rfl (by rw [<- hl]; simp)
    ⟨_, _, _, rfl, _, el, _, hnew, rfl, by rw [hcsz]; simp [bytesV]; omega, hcr.mono (KM.le_append K _), fun _ => .inl (Nat.le_refl _)⟩
    (by
     rintro s' B ⟨B', l', ver, h1, _⟩
     rw [hnone] at h1; cases h1)
    (.inr ⟨Nat.le_refl _, by rw [bytesWorld_size]; omega⟩) (fun B hB _ => bytesWorld_at_old w el b B hB) (by rw [bytesWorld_size]; omega) rfl rfl rfl
   refine ⟨_, _, _, hrun, ?_, hm', hst, rfl⟩
   simp only [TVR,VR,SlR]
   refine ⟨_, _, rfl, by rw [hl]; exact new_at _, hge, fun e => by omega, fun _ => ?_⟩
   intro g' B S N' k hK _
   rw [hl] at hK
   simp at hK
   obtain ⟨_, rfl, rfl, rfl, _⟩ := hK
   rw [hcsz]; omega
  ·cases h
end Go.Ev
namespace Go.Ev
variable [Good] {P : Program} {K : KM} {L : KL} {w : World}
omit [Good] in
theorem plainC_val {k : V} (hp : plainC k = true) {x y : Value} (hx : VR K k x) (hy : VR K k y) : x = y /\ ∀ n, Instr.sameBits n x x = true := by
 cases k <;> simp only [plainC,Bool.false_eq_true] at hp
 ·rw [VR_bool hx, VR_bool hy]; exact ⟨rfl, fun n => by cases n <;> simp [Instr.sameBits]⟩
 ·rw [VR_int hx, VR_int hy]; exact ⟨rfl, fun n => by cases n <;> simp [Instr.sameBits]⟩
 ·rw [VR_str hx, VR_str hy]; exact ⟨rfl, fun n => by cases n <;> simp [Instr.sameBits, strEq_ok', strEq]⟩
omit [Good] in
theorem plainCs_val : ∀ {cs : List V} {xs ys : List Value}, cs.all plainC = true -> VRs K cs xs -> VRs K cs ys -> xs = ys /\ ∀ n, ∀ x ∈ xs, Instr.sameBits n x x = true
 | [], xs, ys, _, hx, hy => by
  simp only [VRs] at hx hy; subst hx hy; exact ⟨rfl, fun _ x h => by simp at h⟩
 | c :: cs, xs, ys, hp, hx, hy => by
  simp only [VRs] at hx hy
  obtain ⟨x, xs, rfl, h1, h2⟩ := hx
  obtain ⟨y, ys, rfl, h3, h4⟩ := hy
  simp only [List.all_cons,Bool.and_eq_true] at hp
  obtain ⟨rfl, g1⟩ := plainC_val hp.1 h1 h3
  obtain ⟨rfl, g2⟩ := plainCs_val hp.2 h2 h4
  refine ⟨rfl, fun n z hz => ?_⟩
  rcases List.mem_cons.1 hz with rfl | hz
  ·exact g1 n
  ·exact g2 n z hz
omit [Good] in
theorem plainV_val {k : V} (hp : plainV k = true) {x y : Value} (hx : VR K k x) (hy : VR K k y) : x = y /\ ∀ n, Instr.sameBits (n + 1) x x = true := by
 cases k with
 | agg cs =>
  simp only [VR] at hx hy
  obtain ⟨xs, rfl, h1, _⟩ := hx
  obtain ⟨ys, rfl, h2, _⟩ := hy
  obtain ⟨e, g⟩ := plainCs_val hp h1 h2
  have e' : xs = ys := by apply Array.ext'; exact e
  subst e'
  refine ⟨rfl, fun n => ?_⟩
  simp only [Instr.sameBits,beq_self_eq_true,Bool.true_and]
  rw [List.all_eq_true]
  rintro ⟨a, b⟩ hab
  have : a = b /\ a ∈ xs.toList := by
   have hz : ∀ (l : List Value) (p : Value × Value), p ∈ l.zip l -> p.1 = p.2 /\ p.1 ∈ l := by
    intro l
    induction l with
    | nil => intro p hp; simp at hp
    | cons a l ih =>
     intro p hp
     simp only [List.zip_cons_cons,List.mem_cons] at hp
     rcases hp with rfl | hp
     ·exact ⟨rfl, by simp⟩
     ·exact ⟨(ih p hp).1, by simp [(ih p hp).2]⟩
   exact hz _ _ hab
  obtain ⟨rfl, hm⟩ := this
  exact g n a hm
 | bool b => obtain ⟨h1, h2⟩ := plainC_val (k := .bool b) hp hx hy; exact ⟨h1, fun n => h2 _⟩
 | int q b => obtain ⟨h1, h2⟩ := plainC_val (k := .int q b) hp hx hy; exact ⟨h1, fun n => h2 _⟩
 | str b => obtain ⟨h1, h2⟩ := plainC_val (k := .str b) hp hx hy; exact ⟨h1, fun n => h2 _⟩
 | _ => simp [plainV, plainC] at hp
omit [Good] in
theorem run_keyStays {k : V} (hp : plainV k = true) {x y : Value} (hx : VR K k x) (hy : VR K k y) : (Instr.keyThatStays x y).run P w = .ok y w := by
 obtain ⟨rfl, h⟩ := plainV_val hp hx hy
 simp [Instr.keyThatStays, h 9999]
omit [Good] in
theorem check_ok (em : Bool) : ∀ (d : Nat) (t : TypeId) (k : V) (x : Value) (D n : Nat), keyTD (tyOf P) d t = true -> VR K k x -> veq (tyOf P) D t k k = some true -> (Instr.checkKey em (n + d) t x).run P w = .ok () w
 | 0, t, k, x, D, n, h, _, _ => by simp [keyTD] at h
 | d + 1, t, k, x, D, n, h, hx, hv => by
  cases D with
  | zero => cases hv
  | succ D =>
  unfold keyTD at h
  unfold veq at hv
  rw [show n + (d + 1) = (n + d) + 1 from rfl]
  split at h <;> first | (cases h; done) | skip
  ·rename_i q hd
   simp [Instr.checkKey, run_underlying (desc_int hd)]
  ·rename_i hd
   simp [Instr.checkKey, run_underlying (desc_str hd)]
  ·rename_i hd
   simp [Instr.checkKey, run_underlying (desc_bool hd)]
  ·rename_i fs hd
   cases k <;> simp only [hd] at hv <;> first | (cases hv; done) | skip
   rename_i cs
   rcases cnd_some hv with ⟨_, h1⟩ | ⟨_, h1⟩
   ·clear hv
    simp only [VR] at hx
    obtain ⟨xs', rfl, hx1, hx2⟩ := hx
    obtain ⟨gs, hu, hfs⟩ := desc_struct hd
    subst hfs
    rw [Instr.checkKey]
    simp only [Sem.run_bind,run_underlying hu,Result.andThen_ok]
    rw [<- Array.forIn_toList]
    clear hu hd
    have ih := check_ok em d
    generalize gs.toList = l at *
    induction l with
    | nil => simp
    | cons f l ihl =>
     simp only [List.map_cons,List.foldr_cons] at h1
     simp only [List.map_cons,List.all_cons,Bool.and_eq_true] at h
     obtain ⟨a, ha, h1⟩ := bnd_some h1
     obtain ⟨c, hc, h1⟩ := bnd_some h1
     rw [ha] at hc; cases hc
     obtain ⟨r, hr, h1⟩ := bnd_some h1
     rcases cnd_some h1 with ⟨rfl, h2⟩ | ⟨_, h2⟩
     ·obtain ⟨a', ha', hav⟩ := part_ok (P := P) hx1 hx2 ha w
      simp only [Array.toArray_toList] at ha'
      have hrun := ih f.type a a' D n h.1 hav hr
      simp only [List.forIn_cons,Sem.run_bind]
      split
      ·simp only [Sem.run_bind,ha',Result.andThen_ok,hrun,Sem.run_pure]
       exact ihl h.2 h2
      ·simp only [Sem.run_pure,Result.andThen_ok]
       exact ihl h.2 h2
     ·cases h2
   ·cases h1
def expected (k : V) : List ME -> List MapEntry -> Nat -> Option (Nat × Value)
 | e :: es, m :: l, i => if vsame k e.1 then some (i, m.val) else expected k es l (i + 1)
 | _, _, _ => none
omit [Good] in
theorem sameNow_eq {u : TypeDesc} {t : TypeId} (hu : P.underlying t = some u) {x y : Value} {b : Bool} (h : Instr.sameNow u x y = some b) : (Op.equal t x y).run P w = .ok b w := by
 cases u <;> cases x <;> cases y <;> simp only [Instr.sameNow] at h <;> first | (cases h; done) | skip
 ·rename_i a c
  injection h with h
  subst h
  exact run_equalIn_bool w _ t a c hu
 ·rename_i q k a k' c
  split at h
  ·rename_i e
   subst e
   injection h with h
   subst h
   exact run_equalIn_int w _ t k q a c hu
  ·cases h
 ·rename_i a c
  injection h with h
  subst h
  rw [beq_toListBytes]
  exact run_equalIn_string w _ t a c hu
omit [Good] in
theorem asking_ok (hT : TypesOk P) {kt : TypeId} {k : V} {x : Value} (hx : VR K k x) : ∀ (es : List ME) (l : List MapEntry) (i : Nat), l.length = es.length ->
  (∀ (j : Nat) (e : ME), es[j]? = some e -> ∃ m : MapEntry, l[j]? = some m /\ VR K e.1 m.key) -> (∀ e ∈ es, veq (tyOf P) 6 kt k e.1 = some (vsame k e.1)) ->
  (Instr.findAsking kt x l i).run P w = .ok (expected k es l i) w /\ ∀ u, P.underlying kt = some u -> ∀ r, Instr.findNow u x l i = some r -> r = expected k es l i
 | [], [], i, _, _, _ => ⟨by simp [Instr.findAsking, expected], fun u _ r h => by simp [Instr.findNow] at h; simp [expected, h]⟩
 | [], _ :: _, i, h, _, _ => by simp at h
 | _ :: _, [], i, h, _, _ => by simp at h
 | e :: es, m :: l, i, hl, ha, hv => by
  obtain ⟨m', hm', hr⟩ := ha 0 e rfl
  simp at hm'; subst hm'
  have h1 := run_equal hT (hv e (by simp)) hx hr w
  obtain ⟨ih1, ih2⟩ := asking_ok hT hx es l (i + 1) (by simpa using hl) (fun j e' he => by simpa using ha (j + 1) e' (by simpa using he)) (fun e' he => hv e' (by simp [he]))
  refine ⟨?_, fun u hu r hr' => ?_⟩
  ·unfold Instr.findAsking expected
   cases hb : vsame k e.1 with
   | true => rw [hb] at h1; simp [h1]
   | false => rw [hb] at h1; simp [h1, ih1]
  ·unfold Instr.findNow at hr'
   unfold expected
   split at hr'
   ·rename_i hs
    have := sameNow_eq (w := w) hu hs
    rw [h1] at this
    injection this with this
    rw [if_pos this]
    injection hr' with hr'
    exact hr'.symm
   ·rename_i hs
    have := sameNow_eq (w := w) hu hs
    rw [h1] at this
    injection this with this
    rw [if_neg (by simp [this])]
    exact ih2 u hu r hr'
   ·cases hr'
omit [Good] in
theorem find_run (hT : TypesOk P) {kt : TypeId} {k : V} {x : Value} (hx : VR K k x) {es : List ME} {ents : Array MapEntry} {clk : Nat} (hm : MapR K es ents clk) (hv : ∀ e ∈ es, veq (tyOf P) 6 kt k e.1 = some (vsame k e.1))
  (hu : ∃ u, P.underlying kt = some u) : (Instr.findKey kt x ents.toList).run P w = .ok (expected k es ents.toList 0) w := by
 obtain ⟨u, hu⟩ := hu
 obtain ⟨h1, h2⟩ := asking_ok (w := w) hT hx es ents.toList 0 (by simpa using hm.size) (fun j e he => let ⟨m, g1, g2, _⟩ := hm.at_ j e he; ⟨m, by simpa using g1, g2⟩) hv
 simp only [Instr.findKey,Sem.run_bind,run_underlying hu,Result.andThen_ok]
 cases hf : Instr.findNow u x ents.toList 0 with
 | none => simpa using h1
 | some r => simp [h2 u hu r hf]
omit [Good] in
theorem expected_some {k : V} : ∀ {es : List ME} {l : List MapEntry} {i : Nat}, l.length = es.length ->
  (∃ j e m, es[j]? = some e /\ l[j]? = some m /\ vsame k e.1 = true /\ findM k es = some e /\ expected k es l i = some (i + j, m.val)) \/ (findM k es = none /\ expected k es l i = none)
 | [], [], i, _ => .inr ⟨rfl, rfl⟩
 | [], _ :: _, i, h => by simp at h
 | _ :: _, [], i, h => by simp at h
 | e :: es, m :: l, i, h => by
  cases hb : vsame k e.1 with
  | true => exact .inl ⟨0, e, m, rfl, rfl, hb, by simp [findM, List.find?, hb], by simp [expected, hb]⟩
  | false =>
   rcases expected_some (k := k) (es := es) (l := l) (i := i + 1) (by simpa using h) with ⟨j, e', m', h1, h2, h3, h4, h5⟩ | ⟨h1, h2⟩
   ·refine .inl ⟨j + 1, e', m', by simpa using h1, by simpa using h2, h3, ?_, ?_⟩
    ·simp only [findM,List.find?,hb] at h4 ⊢; exact h4
    ·simp only [expected,hb,Bool.false_eq_true,if_false]; rw [h5]; simp; omega
   ·refine .inr ⟨?_, ?_⟩
    ·simp only [findM,List.find?,hb] at h1 ⊢; exact h1
    ·simp only [expected,hb,Bool.false_eq_true,if_false]; exact h2
omit [Good] in
theorem nodup_inj {α β : Type} {f : α -> β} : ∀ {l : List α}, (l.map f).Nodup -> ∀ {a b : α}, a ∈ l -> b ∈ l -> f a = f b -> a = b
 | [], _, a, b, ha, _, _ => by simp at ha
 | x :: l, h, a, b, ha, hb, e => by
  simp only [List.map_cons,List.nodup_cons,List.mem_map,not_exists,not_and] at h
  rcases List.mem_cons.1 ha with rfl | ha
  ·rcases List.mem_cons.1 hb with rfl | hb
   ·rfl
   ·exact absurd e.symm (h.1 b hb)
  ·rcases List.mem_cons.1 hb with rfl | hb
   ·exact absurd e (h.1 a (by assumption))
   ·exact nodup_inj h.2 ha hb e
omit [Good] in
theorem nodup_idx {α : Type} : ∀ {l : List α}, l.Nodup -> ∀ {i j : Nat} {a : α}, l[i]? = some a -> l[j]? = some a -> i = j
 | [], _, i, j, a, h, _ => by simp at h
 | x :: l, hn, i, j, a, h1, h2 => by
  simp only [List.nodup_cons] at hn
  cases i with
  | zero =>
   cases j with
   | zero => rfl
   | succ j =>
    simp at h1 h2
    subst h1
    exact absurd (List.mem_of_getElem? h2) hn.1
  | succ i =>
   cases j with
   | zero =>
    simp at h1 h2
    subst h2
    exact absurd (List.mem_of_getElem? h1) hn.1
   | succ j =>
    simp at h1 h2
    rw [nodup_idx hn.2 h1 h2]
omit [Good] in
theorem findM_mem {k : V} {es : List ME} {e : ME} (h : findM k es = some e) : e ∈ es /\ vsame k e.1 = true := ⟨List.mem_of_find?_eq_some h, by simpa using List.find?_some h⟩
omit [Good] in
theorem findM_perm {k : V} {es es' : List ME} (hp : (es'.map unborn).Perm (es.map unborn)) (hn : (es'.map (·.1)).Nodup) : (findM k es').map unborn = (findM k es).map unborn := by
 have e1 : ∀ l : List ME, (l.map (·.1)) = (l.map unborn).map (·.1) := fun l => by simp [unborn, Function.comp_def]
 have hn' : (es.map (·.1)).Nodup := by rw [e1] at hn ⊢; exact (hp.map _).nodup_iff.1 hn
 have key : ∀ (a b : List ME), (a.map unborn).Perm (b.map unborn) -> (b.map (·.1)).Nodup -> ∀ e, findM k a = some e -> (findM k b).map unborn = some (unborn e) := by
  intro a b hab hnb e he
  obtain ⟨h1, h2⟩ := findM_mem he
  have h3 : unborn e ∈ b.map unborn := hab.mem_iff.1 (List.mem_map.2 ⟨e, h1, rfl⟩)
  obtain ⟨f, hf, hfe⟩ := List.mem_map.1 h3
  have hfk : f.1 = e.1 := congrArg (fun p : V × V => p.1) hfe
  cases hq : findM k b with
  | none =>
   have := List.find?_eq_none.1 hq f hf
   rw [hfk, h2] at this; simp at this
  | some g =>
   obtain ⟨g1, g2⟩ := findM_mem hq
   have : g.1 = f.1 := by rw [hfk, <- vsame_eq _ _ h2, vsame_eq _ _ g2]
   have hgf : g = f := by
    exact nodup_inj hnb g1 hf this
   rw [hgf]; simp [hfe]
 cases h : findM k es' with
 | some e => rw [key es' es hp hn' e h]; rfl
 | none =>
  cases h' : findM k es with
  | none => rfl
  | some e => have := key es es' hp.symm hn e h'; rw [h] at this; cases this
omit [Good] in
theorem zeroV_ok (hT : TypesOk P) {t : TypeId} {z : V} (h : zeroV (tyOf P t) = some z) : ∃ zv, (zeroValue t).run P w = .ok zv w /\ VR K z zv := by
 obtain ⟨⟨h1, h2⟩, h⟩ := grd_some h
 obtain ⟨ag, hk, h⟩ := bnd_some h
 obtain ⟨i, zv, hi, hz, hs, hr, hc⟩ := zero_ok (K := K) hT h1 (info_kind hk) h2
 refine ⟨zv, by simp [zeroValue, typeInfo, hi, hz], ?_⟩
 have hlt : t < P.types.size := by
  rcases Nat.lt_or_ge t P.types.size with hlt | hge
  ·exact hlt
  ·have : (tyOf P t).zero = [] := by simp [tyOf, Nat.not_lt.2 hge]
   rw [this] at h1; simp at h1; omega
 have hsh := hT.shape t i zv ag hlt hi hz hk
 rcases cnd_some h with ⟨rfl, h⟩ | ⟨rfl, h⟩
 ·cases h
  cases zv <;> first | (cases hsh; done) | skip
  simp only [VR]
  exact ⟨_, rfl, hr, hc⟩
 ·cases hzz : (tyOf P t).zero with
  | nil => rw [hzz] at h; cases h
  | cons a r =>
   rw [hzz] at h hr
   cases h
   have hcl : zv.cells = #[zv] := by cases zv <;> first | (cases hsh; done) | rfl
   rw [hcl] at hr
   simp only [VRs] at hr
   obtain ⟨y, ys, e, h3, _⟩ := hr
   simp at e
   obtain ⟨rfl, _⟩ := e
   exact h3
omit [Good] in
theorem keyOk_some {kt : TypeId} {k : V} {es : List ME} (h : keyOk (tyOf P) kt k es = true) :
  plainV k = true /\ keyTD (tyOf P) 3 kt = true /\ veq (tyOf P) 6 kt k k = some true /\ ∀ e ∈ es, veq (tyOf P) 6 kt k e.1 = some (vsame k e.1) := by
 unfold keyOk at h
 simp only [Bool.and_eq_true,List.all_eq_true,decide_eq_true_eq] at h
 exact ⟨h.1.1.1, h.1.1.2, h.1.2, h.2⟩
omit [Good] in
theorem keyTD_u {d : Nat} {t : TypeId} (h : keyTD (tyOf P) d t = true) : ∃ u, P.underlying t = some u := by
 cases d with
 | zero => simp [keyTD] at h
 | succ d =>
  have hd : (tyOf P t).desc ≠ .other := by intro e; unfold keyTD at h; rw [e] at h; simp at h
  obtain ⟨u, hu, _⟩ := desc_some rfl hd
  exact ⟨u, hu⟩
theorem map_at {h : Heap} (hm : HR K h w) {r : Nat} {ex : Bool} {es : List ME} {c : Nat} (hr : h[r]? = some (.map ex es c)) {y : Value} (hy : VR K (.map r) y) :
  ∃ B ents clk es', y = .map (some B) /\ K[r]? = some (.m B) /\ w.heap[B]? = some (.map ents clk) /\ MapR K es' ents clk /\ (ex = true -> es' = es /\ clk = c) /\ (es'.map unborn).Perm (es.map unborn) := by
 obtain ⟨en, hen, B, rfl, ents, clk, es', h1, h2, h3, h4⟩ := hm.2 r _ hr
 simp only [VR] at hy
 obtain ⟨B', hB, rfl⟩ := hy
 rw [hen] at hB; cases hB
 exact ⟨B, ents, clk, es', rfl, hen, h1, h2, h3, h4⟩
omit [Good] in
theorem keys_perm {kt : TypeId} {k : V} {es es' : List ME} (hp : (es'.map unborn).Perm (es.map unborn)) (h : ∀ e ∈ es, veq (tyOf P) 6 kt k e.1 = some (vsame k e.1)) : ∀ e ∈ es', veq (tyOf P) 6 kt k e.1 = some (vsame k e.1) := by
 intro e he
 obtain ⟨f, hf, hfe⟩ := List.mem_map.1 (hp.mem_iff.1 (List.mem_map.2 ⟨e, he, rfl⟩))
 have hfk : f.1 = e.1 := congrArg (fun p : V × V => p.1) hfe
 rw [<- hfk]; exact h f hf
omit [Good] in
theorem found (hT : TypesOk P) {kt : TypeId} {k : V} {x : Value} (hx : VR K k x) {es es' : List ME} {ents : Array MapEntry} {clk : Nat} (hm : MapR K es' ents clk) (hp : (es'.map unborn).Perm (es.map unborn)) (hk : keyOk (tyOf P) kt k es = true) :
    ∃ r, (Instr.findKey kt x ents.toList).run P w = .ok r w /\
      ((∃ (j : Nat) (e f : ME) (m : MapEntry), r = some (j, m.val) /\ es'[j]? = some e /\ ents[j]? = some m /\ vsame k e.1 = true /\ findM k es = some f /\ findM k es' = some e /\ unborn f = unborn e /\ VR K e.2.1 m.val /\ VR K e.1 m.key /\ m.born = e.2.2) \/
       (r = none /\ findM k es = none /\ findM k es' = none)) := by
  obtain ⟨h1, h2, h3, h4⟩ := keyOk_some hk
  have hpm := findM_perm (k := k) hp hm.keys
  refine ⟨_, find_run hT hx hm (keys_perm hp h4) (keyTD_u h2), ?_⟩
  rcases expected_some (k := k) (es := es') (l := ents.toList) (i := 0) (by simpa using hm.size) with ⟨j, e, m, g1, g2, g3, g4, g5⟩ | ⟨g1, g2⟩
  · left
    rw [g4] at hpm
    cases hf : findM k es with
    | none => rw [hf] at hpm; cases hpm
    | some f =>
      rw [hf] at hpm
      simp only [Option.map_some,Option.some.injEq] at hpm
      obtain ⟨m', k1, k2, k3, k4⟩ := hm.at_ j e g1
      have : m' = m := by
        have : ents[j]? = some m := by simpa using g2
        rw [k1] at this; exact Option.some.inj this
      subst this
      exact ⟨j, e, f, m', by rw [g5]; simp, g1, k1, g3, rfl, g4, hpm.symm, k3, k2, k4⟩
  · right
    rw [g1] at hpm
    cases hf : findM k es with
    | none => exact ⟨g2, rfl, g1⟩
    | some f => rw [hf] at hpm; cases hpm
omit [Good] in
theorem outV_ok {ok b : Bool} {v : V} {y : Value} (h : VR K v y) : VR K (outV ok v b) (if ok then .tuple #[y, .bool b] else y) := by
 cases ok with
 | false => simpa [outV] using h
 | true =>
  simp only [outV,cond_true,if_true,VR]
  exact ⟨_, rfl, by simp only [VRs]; exact ⟨y, _, rfl, h, .bool b, _, rfl, by simp [VR], rfl⟩⟩
theorem lookup_ok (hT : TypesOk P) {s : St} {t : TypeId} {m k v : TV} {ok : Bool} {mv kv : Value} (h : lookupV (tyOf P) t m k ok s = some v) (hmv : TVR K L m mv) (hkv : TVR K L k kv) (hm : Mem K L s.l s.h w) :
  ∃ z, (Instr.lookup t mv kv ok).run P w = .ok z w /\ TVR K L v z := by
 unfold lookupV at h
 split at h <;> first | (cases h; done) | skip
 ·rename_i kt el k hd
  unfold lookupIn at h
  obtain ⟨z, hz, h⟩ := bnd_some h
  obtain ⟨hk, h⟩ := grd_some h
  obtain ⟨h1, h2, h3, h4⟩ := keyOk_some hk
  obtain ⟨zv, hz1, hz2⟩ := zeroV_ok (w := w) (K := K) hT hz
  simp only [TVR,VR] at hmv
  subst hmv
  have hf : findM k [] = none := rfl
  rw [hf] at h
  cases h
  refine ⟨if ok then .tuple #[zv, .bool false] else zv, ?_, outV_ok (ok := ok) (b := false) hz2⟩
  obtain ⟨u, hu⟩ := keyTD_u h2
  have hch := check_ok (w := w) true 3 kt k kv 6 9997 h2 hkv h3
  simp [Instr.lookup, run_underlying (desc_map hd), hch, Instr.findKey, run_underlying hu, Instr.findNow, hz1]
 ·rename_i kt el r k hd
  split at h
  ·rename_i ex es c hr
   unfold lookupIn at h
   obtain ⟨z, hz, h⟩ := bnd_some h
   obtain ⟨hk, h⟩ := grd_some h
   obtain ⟨h1, h2, h3, h4⟩ := keyOk_some hk
   obtain ⟨zv, hz1, hz2⟩ := zeroV_ok (w := w) (K := K) hT hz
   obtain ⟨B, ents, clk, es', rfl, hK, hB, hmr, _, hp⟩ := map_at hm.hr hr hmv
   obtain ⟨r', hf, hcase⟩ := found (w := w) hT hkv hmr hp hk
   have hch := check_ok (w := w) ents.isEmpty 3 kt k kv 6 9997 h2 hkv h3
   rcases hcase with ⟨j, e, f, me, rfl, g1, g2, g3, g4, g4', g5, g6, _⟩ | ⟨rfl, g1, _⟩
   ·rw [g4] at h
    cases h
    have hfv : f.2.1 = e.2.1 := congrArg (fun p : V × V => p.2) g5
    refine ⟨if ok then .tuple #[me.val, .bool true] else me.val, ?_, outV_ok (ok := ok) (b := true) (by rw [hfv]; exact g6)⟩
    simp [Instr.lookup, run_underlying (desc_map hd), MapKept.run_getObj_map hB, hch, hf]
   ·rw [g1] at h
    cases h
    refine ⟨if ok then .tuple #[zv, .bool false] else zv, ?_, outV_ok (ok := ok) (b := false) hz2⟩
    simp [Instr.lookup, run_underlying (desc_map hd), MapKept.run_getObj_map hB, hch, hf, hz1]
  ·cases h
theorem Mem.mapSet {l : Locs} {h : Heap} (hm : Mem K L l h w) {r B : Nat} {x : Blk} (hr : ∃ ex es c, h[r]? = some (.map ex es c)) (hK : K[r]? = some (.m B)) {o : Obj} (hbr : BR K (w.putObj B o) x (.m B)) :
  Mem K L l (h.set r x) (w.putObj B o) /\ Step K L w K L (w.putObj B o) := by
 have hlt : r < h.length := let ⟨_, _, _, hc⟩ := hr; (List.getElem?_eq_some_iff.1 hc).1
 have hown : OwnBy K L (.blk r) B := .inr (.inl hK)
 refine hm.updX r (B2 := B) (e2 := .m B) (x2 := x) (KM.le_refl K) (fun _ _ => rfl) (fun b' hb' => ?_) (by simp [hm.hr.1]) hK (.inr rfl) ?_ hbr ?_ (.inl hown) (fun B' hB' hn => ?_) (by simp [World.putObj]) rfl rfl rfl
 ·rw [List.getElem?_set_ne (Ne.symm hb')]
 ·rw [List.getElem?_set_self hlt]
 ·rintro s B' ⟨B1, l', ver, h1, _⟩
  rw [hK] at h1; cases h1
 ·by_cases e : B' = B
  ·subst e; exact absurd hown hn
  ·exact World.putObj_heap_other e
omit [Good] in
theorem MapR.modify {es : List ME} {ents : Array MapEntry} {clk : Nat} (h : MapR K es ents clk) {j : Nat} {e : ME} {m : MapEntry} (he : es[j]? = some e) (hme : ents[j]? = some m) {v : V} {y : Value} (hv : VR K v y) {g : MapEntry -> MapEntry}
  (hg : ∀ m' : MapEntry, (g m').val = y /\ (g m').born = m'.born) (hgk : (g m).key = m.key) {p : ME -> Bool} (hp : ∀ (i : Nat) (f : ME), es[i]? = some f -> (p f = true ↔ i = j)) :
  MapR K (es.map fun f => cond (p f) (f.1, v, f.2.2) f) (ents.modify j g) clk := by
 have hkeys : (es.map fun f => cond (p f) (f.1, v, f.2.2) f).map (·.1) = es.map (·.1) := by
  rw [List.map_map]; apply List.map_congr_left; intro f _; simp only [Function.comp]; cases p f <;> rfl
 have hborn : (es.map fun f => cond (p f) (f.1, v, f.2.2) f).map (·.2.2) = es.map (·.2.2) := by
  rw [List.map_map]; apply List.map_congr_left; intro f _; simp only [Function.comp]; cases p f <;> rfl
 refine ⟨by simp [h.size], fun i f hf => ?_, by rw [hkeys]; exact h.keys, fun f hf => ?_, by rw [hborn]; exact h.borns, fun f hf => ?_⟩
 ·rw [List.getElem?_map] at hf
  cases hx : es[i]? with
  | none => rw [hx] at hf; cases hf
  | some f0 =>
   rw [hx] at hf
   simp only [Option.map_some,Option.some.injEq] at hf
   obtain ⟨m0, k1, k2, k3, k4⟩ := h.at_ i f0 hx
   by_cases hi : i = j
   ·have hpt := (hp i f0 hx).2 hi
    rw [hpt] at hf
    subst hf
    subst hi
    rw [he] at hx; cases hx
    rw [hme] at k1; cases k1
    refine ⟨g m, by rw [Array.getElem?_modify, if_pos rfl, hme]; rfl, by rw [hgk]; exact k2, by rw [(hg m).1]; exact hv, by rw [(hg m).2]; exact k4⟩
   ·have hpf : p f0 = false := by
     cases hq : p f0 with
     | false => rfl
     | true => exact absurd ((hp i f0 hx).1 hq) hi
    rw [hpf] at hf
    subst hf
    exact ⟨m0, by rw [Array.getElem?_modify, if_neg (Ne.symm hi)]; exact k1, k2, k3, k4⟩
 ·obtain ⟨f0, hf0, rfl⟩ := List.mem_map.1 hf
  have := h.plain f0 hf0
  cases p f0 <;> exact this
 ·obtain ⟨f0, hf0, rfl⟩ := List.mem_map.1 hf
  have := h.clock f0 hf0
  cases p f0 <;> exact this
omit [Good] in
theorem MapR.push {es : List ME} {ents : Array MapEntry} {clk : Nat} (h : MapR K es ents clk) {k v : V} {x y : Value} (hk : VR K k x) (hv : VR K v y) (hp : plainV k = true) (hn : findM k es = none) (hs : ∀ e ∈ es, e.1 = k -> vsame k e.1 = true) :
  MapR K (es ++ [(k, v, clk)]) (ents.push { key := x, val := y, born := clk }) (clk + 1) := by
 refine ⟨by simp [h.size], fun i f hf => ?_, ?_, fun f hf => ?_, ?_, fun f hf => ?_⟩
 ·by_cases hi : i < es.length
  ·rw [List.getElem?_append_left hi] at hf
   obtain ⟨m, k1, k2⟩ := h.at_ i f hf
   refine ⟨m, ?_, k2⟩
   rw [Array.getElem?_push, if_neg (by rw [h.size]; omega)]; exact k1
  ·rw [List.getElem?_append_right (by omega)] at hf
   have hi0 : i = es.length := by
    have := (List.getElem?_eq_some_iff.1 hf).1
    simp at this; omega
   subst hi0
   simp at hf
   subst hf
   exact ⟨_, by rw [Array.getElem?_push, if_pos h.size.symm], hk, hv, rfl⟩
 ·rw [List.map_append]
  refine List.nodup_append.2 ⟨h.keys, by simp, ?_⟩
  intro a ha b hb
  simp at hb
  subst hb
  obtain ⟨f, hf, rfl⟩ := List.mem_map.1 ha
  intro e
  have h1 := hs f hf e
  have h2 := List.find?_eq_none.1 hn f hf
  exact h2 h1
 ·rcases List.mem_append.1 hf with hf | hf
  ·exact h.plain f hf
  ·simp at hf; subst hf; exact hp
 ·rw [List.map_append]
  refine List.nodup_append.2 ⟨h.borns, by simp, ?_⟩
  intro a ha b hb
  simp at hb
  subst hb
  obtain ⟨f, hf, rfl⟩ := List.mem_map.1 ha
  have := h.clock f hf
  omega
 ·rcases List.mem_append.1 hf with hf | hf
  ·have := h.clock f hf; omega
  ·simp at hf; subst hf; exact Nat.lt_succ_self _
omit [Good] in
theorem vsame_key {kt : TypeId} {k : V} (h3 : veq (tyOf P) 6 kt k k = some true) {es : List ME} (h4 : ∀ e ∈ es, veq (tyOf P) 6 kt k e.1 = some (vsame k e.1)) : ∀ e ∈ es, e.1 = k -> vsame k e.1 = true := by
 intro e he hek
 have := h4 e he
 rw [hek, h3] at this
 rw [hek]
 exact (Option.some.inj this).symm
omit [Good] in
theorem only_key {k : V} {es : List ME} (hn : (es.map (·.1)).Nodup) {j : Nat} {e : ME} (he : es[j]? = some e) (hs : vsame k e.1 = true) : ∀ (i : Nat) (f : ME), es[i]? = some f -> (vsame k f.1 = true ↔ i = j) := by
 intro i f hf
 refine ⟨fun h => ?_, fun h => ?_⟩
 ·have e1 : f.1 = e.1 := by rw [<- vsame_eq _ _ h, vsame_eq _ _ hs]
  have h1 : (es.map (·.1))[i]? = some f.1 := by rw [List.getElem?_map, hf]; rfl
  have h2 : (es.map (·.1))[j]? = some e.1 := by rw [List.getElem?_map, he]; rfl
  exact nodup_idx hn h1 (by rw [e1]; exact h2)
 ·subst h; rw [he] at hf; cases hf; exact hs
omit [Good] in
theorem unborn_cond (p : ME -> Bool) (v : V) (f : ME) : unborn (cond (p f) (f.1, v, f.2.2) f) = cond (p f) (f.1, v) (unborn f) := by cases p f <;> rfl
omit [Good] in
theorem perm_put {k v : V} {es es' : List ME} (hp : (es'.map unborn).Perm (es.map unborn)) :
  ((es'.map fun e => cond (vsame k e.1) (e.1, v, e.2.2) e).map unborn).Perm ((es.map fun e => cond (vsame k e.1) (e.1, v, e.2.2) e).map unborn) := by
 have e : ∀ l : List ME, (l.map fun e => cond (vsame k e.1) (e.1, v, e.2.2) e).map unborn = (l.map unborn).map fun q => cond (vsame k q.1) (q.1, v) q := by
  intro l
  rw [List.map_map, List.map_map]
  apply List.map_congr_left
  intro f _
  exact unborn_cond (fun e => vsame k e.1) v f
 rw [e, e]
 exact hp.map _
theorem update_ok (hT : TypesOk P) {s s' : St} {t : TypeId} {m k v : TV} {mv kv vv : Value} (h : updateV (tyOf P) t m k v s = some s') (hmv : TVR K L m mv) (hkv : TVR K L k kv) (hvv : TVR K L v vv) (hm : Mem K L s.l s.h w) :
  ∃ w', (Instr.mapUpdate t mv kv vv).run P w = .ok () w' /\ Mem K L s'.l s'.h w' /\ Step K L w K L w' /\ s'.e = s.e := by
 unfold updateV at h
 split at h <;> first | (cases h; done) | skip
 rename_i kt el r k v hd
 split at h
 ·rename_i ex es c hr
  obtain ⟨hk, h⟩ := grd_some h
  cases h
  obtain ⟨h1, h2, h3, h4⟩ := keyOk_some hk
  obtain ⟨B, ents, clk, es', rfl, hK, hB, hmr, hex, hp⟩ := map_at hm.hr hr hmv
  obtain ⟨r', hf, hcase⟩ := found (w := w) hT hkv hmr hp hk
  have hch := check_ok (w := w) false 3 kt k kv 6 9997 h2 hkv h3
  have hBlt : B < w.heap.size := (Array.getElem?_eq_some_iff.1 hB).1
  rcases hcase with ⟨j, e, f, me, rfl, g1, g2, g3, g4, g4', g5, g6, g7, g8⟩ | ⟨rfl, g1, g1'⟩
  ·have hke : VR K k me.key := by rw [vsame_eq _ _ g3]; exact g7
   have hst := run_keyStays (P := P) (w := w) h1 hke hkv
   obtain ⟨hm', hstep⟩ := hm.mapSet (x := .map ex (putM k v es c).1 (putM k v es c).2) (o := .map (ents.modify j fun e => { e with key := kv, val := vv }) clk) ⟨_, _, _, hr⟩ hK (by
    refine ⟨B, rfl, _, _, es'.map fun e => cond (vsame k e.1) (e.1, v, e.2.2) e, World.putObj_heap_same hBlt, ?_, ?_, ?_⟩
    ·refine hmr.modify (g := fun e => { e with key := kv, val := vv }) g1 g2 hvv (fun _ => ⟨rfl, rfl⟩) ?_ (only_key hmr.keys g1 g3)
     exact (plainV_val h1 hke hkv).1.symm
    ·intro hx
     obtain ⟨e1, e2⟩ := hex hx
     simp only [putM,g4]
     exact ⟨by rw [e1], e2⟩
    ·simp only [putM,g4]
     exact perm_put hp)
   refine ⟨_, ?_, hm', hstep, rfl⟩
   simp [Instr.mapUpdate, run_underlying (desc_map hd), MapKept.run_getObj_map hB, hch, hf, g2, hst, MapKept.run_setObj_map _ hB, World.putObj]
  ·obtain ⟨hm', hstep⟩ := hm.mapSet (x := .map ex (putM k v es c).1 (putM k v es c).2) (o := .map (ents.push { key := kv, val := vv, born := clk }) (clk + 1)) ⟨_, _, _, hr⟩ hK (by
    refine ⟨B, rfl, _, _, es' ++ [(k, v, clk)], World.putObj_heap_same hBlt, ?_, ?_, ?_⟩
    ·exact hmr.push hkv hvv h1 g1' (vsame_key h3 (keys_perm hp h4))
    ·intro hx
     obtain ⟨e1, e2⟩ := hex hx
     simp only [putM,g1]
     exact ⟨by rw [e1, e2], by rw [e2]⟩
    ·simp only [putM,g1,List.map_append]
     exact hp.append (by simp [unborn]))
   refine ⟨_, ?_, hm', hstep, rfl⟩
   simp [Instr.mapUpdate, run_underlying (desc_map hd), MapKept.run_getObj_map hB, hch, hf, MapKept.run_setObj_map _ hB, World.putObj]
 ·cases h
theorem entry_ok (hT : TypesOk P) {s : St} {t : TypeId} {m k : TV} {q : TV × St} {mv kv : Value} (h : entryV (tyOf P) t m k s = some q) (hmv : TVR K L m mv) (hkv : TVR K L k kv) (hm : Mem K L s.l s.h w) :
  ∃ z w', (Instr.mapEntry t mv kv).run P w = .ok z w' /\ TVR K L q.1 z /\ Mem K L q.2.l q.2.h w' /\ Step K L w K L w' /\ q.2.e = s.e := by
 unfold entryV at h
 split at h <;> first | (cases h; done) | skip
 rename_i kt el r k hd
 split at h
 ·rename_i es c hr
  obtain ⟨z, hz, h⟩ := bnd_some h
  obtain ⟨hk, h⟩ := grd_some h
  obtain ⟨h1, h2, h3, h4⟩ := keyOk_some hk
  obtain ⟨zv, hz1, hz2⟩ := zeroV_ok (w := w) (K := K) hT hz
  obtain ⟨B, ents, clk, es', rfl, hK, hB, hmr, hex, hp⟩ := map_at hm.hr hr hmv
  obtain ⟨rfl, rfl⟩ := hex rfl
  obtain ⟨r', hf, hcase⟩ := found (w := w) hT hkv hmr hp hk
  have hch := check_ok (w := w) false 3 kt k kv 6 9997 h2 hkv h3
  have hBlt : B < w.heap.size := (Array.getElem?_eq_some_iff.1 hB).1
  rcases hcase with ⟨j, e, f, me, rfl, g1, g2, g3, g4, g4', g5, g6, g7, g8⟩ | ⟨rfl, g1, g1'⟩
  ·rw [g4'] at g4; cases g4
   rw [g4'] at h
   cases h
   have hke : VR K k me.key := by rw [vsame_eq _ _ g3]; exact g7
   have hst := run_keyStays (P := P) (w := w) h1 hke hkv
   have hsame : ents.modify j (fun e => { e with key := kv }) = ents := by
    apply Array.ext_getElem?
    intro i
    rw [Array.getElem?_modify]
    split
    ·rename_i hij
     subst hij
     rw [g2]
     simp only [Option.map_some,Option.some.injEq]
     rw [<- (plainV_val h1 hke hkv).1]
    ·rfl
   refine ⟨.tuple #[me.val, goInt me.born], w.putObj B (.map ents clk), ?_, ?_, ?_⟩
   ·simp [Instr.mapEntry, run_underlying (desc_map hd), MapKept.run_getObj_map hB, hch, hf, g2, hst, MapKept.run_setObj_map _ hB, World.putObj, hsame]
   ·simp only [TVR,VR]
    exact ⟨_, rfl, by simp only [VRs]; exact ⟨_, _, rfl, g6, _, _, rfl, by simp [VR, goInt, g8], rfl⟩⟩
   ·have hw : w.putObj B (.map ents clk) = w := by
     have : w.heap.setIfInBounds B (.map ents clk) = w.heap := by
      apply Array.ext_getElem?
      intro i
      rw [Array.getElem?_setIfInBounds]
      split
      ·rename_i hij
       subst hij
       exact hB.symm
      ·rfl
     simp only [World.putObj,this]
    rw [hw]
    exact ⟨hm, Step.refl K L w, rfl⟩
  ·rw [g1] at h
   cases h
   obtain ⟨hm', hstep⟩ := hm.mapSet (x := .map true (es' ++ [(k, z, clk)]) (clk + 1)) (o := .map (ents.push { key := kv, val := zv, born := clk }) (clk + 1)) ⟨_, _, _, hr⟩ hK
    ⟨B, rfl, _, _, es' ++ [(k, z, clk)], World.putObj_heap_same hBlt, hmr.push hkv hz2 h1 g1' (vsame_key h3 h4), fun _ => ⟨rfl, rfl⟩, .refl _⟩
   refine ⟨.tuple #[zv, goInt clk], _, ?_, ?_, hm', hstep, rfl⟩
   ·simp [Instr.mapEntry, run_underlying (desc_map hd), MapKept.run_getObj_map hB, hch, hf, MapKept.run_setObj_map _ hB, World.putObj, hz1]
   ·simp only [TVR,VR]
    exact ⟨_, rfl, by simp only [VRs]; exact ⟨_, _, rfl, hz2, _, _, rfl, by simp [VR, goInt], rfl⟩⟩
 ·cases h
theorem entryStore_ok {s s' : St} {t : TypeId} {m st v : TV} {mv sv vv : Value} (h : entryStoreV m st v s = some s') (hmv : TVR K L m mv) (hsv : TVR K L st sv) (hvv : TVR K L v vv) (hm : Mem K L s.l s.h w) :
  ∃ w', (Instr.entryStore t mv sv vv).run P w = .ok () w' /\ Mem K L s'.l s'.h w' /\ Step K L w K L w' /\ s'.e = s.e := by
 unfold entryStoreV at h
 split at h <;> first | (cases h; done) | skip
 rename_i r q n v
 split at h
 ·rename_i es c hr
  obtain ⟨hany, h⟩ := grd_some h
  cases h
  obtain ⟨B, ents, clk, es', rfl, hK, hB, hmr, hex, hp⟩ := map_at hm.hr hr hmv
  obtain ⟨rfl, rfl⟩ := hex rfl
  have hBlt : B < w.heap.size := (Array.getElem?_eq_some_iff.1 hB).1
  rw [TVR_int hsv]
  simp only [List.any_eq_true,decide_eq_true_eq] at hany
  obtain ⟨e, he, hen⟩ := hany
  obtain ⟨j, hj⟩ := List.getElem?_of_mem he
  obtain ⟨me, k1, k2, k3, k4⟩ := hmr.at_ j e hj
  have honly : ∀ (i : Nat) (f : ME), es'[i]? = some f -> ((f.2.2 : Int) = n ↔ i = j) := by
   intro i f hf
   refine ⟨fun h => ?_, fun h => ?_⟩
   ·have e1 : f.2.2 = e.2.2 := by omega
    exact nodup_idx hmr.borns (a := f.2.2) (by rw [List.getElem?_map, hf]; rfl) (by rw [List.getElem?_map, hj, e1]; rfl)
   ·subst h; rw [hj] at hf; cases hf; exact hen
  have hidx : ents.findIdx? (fun e => (e.born : Int) == n) = some j := by
   rw [Array.findIdx?_eq_some_iff_getElem]
   have hjlt : j < ents.size := (Array.getElem?_eq_some_iff.1 k1).1
   have hjm : ents[j] = me := by have := (Array.getElem?_eq_some_iff.1 k1).2; exact this
   refine ⟨hjlt, by rw [hjm, k4]; simpa using hen, fun i hi => ?_⟩
   have hilt : i < es'.length := by rw [<- hmr.size]; omega
   obtain ⟨mi, l1, l2, l3, l4⟩ := hmr.at_ i es'[i] (by simp [hilt])
   have hmi : ents[i] = mi := (Array.getElem?_eq_some_iff.1 l1).2
   rw [hmi, l4]
   have : ¬ ((es'[i].2.2 : Int) = n) := fun h => absurd ((honly i es'[i] (by simp [hilt])).1 h) (by omega)
   simpa using this
  obtain ⟨hm', hstep⟩ := hm.mapSet (x := .map true (es'.map fun e => cond (decide ((e.2.2 : Int) = n)) (e.1, v, e.2.2) e) clk) (o := .map (ents.modify j fun e => { e with val := vv }) clk) ⟨_, _, _, hr⟩ hK
   ⟨B, rfl, _, _, _, World.putObj_heap_same hBlt, hmr.modify (g := fun e => { e with val := vv }) (p := fun e => decide ((e.2.2 : Int) = n)) hj k1 hvv (fun _ => ⟨rfl, rfl⟩) rfl (fun i f hf => by rw [decide_eq_true_eq]; exact honly i f hf), fun _ => ⟨rfl, rfl⟩, .refl _⟩
  refine ⟨_, ?_, hm', hstep, rfl⟩
  simp [Instr.entryStore, MapKept.run_getObj_map hB, Go.asInt, Go.asIntOf, hidx, MapKept.run_setObj_map _ hB, World.putObj]
 ·cases h
theorem makeMap_ok {s : St} {t : TypeId} {q : TV × St} (h : makeMapV (tyOf P) t s = some q) (hm : Mem K L s.l s.h w) :
  ∃ z w' K', (Instr.makeMap t none).run P w = .ok z w' /\ TVR K' L q.1 z /\ Mem K' L q.2.l q.2.h w' /\ Step K L w K' L w' /\ q.2.e = s.e := by
 unfold makeMapV at h
 split at h <;> first | (cases h; done) | skip
 rename_i kt el hd
 cases h
 have hl := hm.hr.1
 have hnone : K[K.length]? = none := List.getElem?_eq_none (Nat.le_refl _)
 obtain ⟨hm', hstep⟩ := hm.updX (K' := K ++ [.m w.heap.size]) (h' := s.h ++ [.map true [] 0]) (w' := w.alloc (.map #[] 0)) K.length (B2 := w.heap.size) (e2 := .m w.heap.size) (x2 := .map true [] 0) (KM.le_append K _) (fun b' hb => by
   by_cases h1 : b' < K.length
   ·rw [List.getElem?_append_left h1]
   ·rw [List.getElem?_eq_none (by simp; omega), List.getElem?_eq_none (by omega)]) (fun b' hb => by
   rw [<- hl] at hb
   by_cases h1 : b' < s.h.length
   ·rw [List.getElem?_append_left h1]
   ·rw [List.getElem?_eq_none (by simp; omega), List.getElem?_eq_none (by omega)]) (by simp [hl]) (by simp) (.inr rfl) (by rw [<- hl]; simp)
  ⟨_, rfl, #[], 0, [], by show (w.heap.push _)[w.heap.size]? = _; simp, ⟨rfl, fun i e h => by simp at h, by simp, fun e h => by simp at h, by simp, fun e h => by simp at h⟩, fun _ => ⟨rfl, rfl⟩, .refl _⟩
  (by rintro s B ⟨B', l', ver, h1, _⟩; rw [hnone] at h1; cases h1) (.inr ⟨Nat.le_refl _, by simp⟩) (fun B hB _ => RowKit.Below.heap_alloc _ _ _ hB) (by simp) rfl rfl rfl
 refine ⟨.map (some w.heap.size), _, _, ?_, ?_, hm', hstep, rfl⟩
 ·simp [Instr.makeMap, newObj, Sem.run]
 ·simp only [TVR,VR]
  exact ⟨w.heap.size, by rw [hl]; simp, rfl⟩
omit [Good] in
theorem filter_all {α : Type} {p : α -> Bool} {l : List α} (h : ∀ x ∈ l, p x = true) : l.filter p = l := List.filter_eq_self.2 h
omit [Good] in
theorem filter_one {α : Type} {p : α -> Bool} : ∀ {l : List α} {j : Nat}, (∀ i x, l[i]? = some x -> (p x = false ↔ i = j)) -> j < l.length -> l.filter p = l.eraseIdx j
 | [], j, _, h => by simp at h
 | x :: l, 0, h, _ => by
  have h0 := (h 0 x rfl).2 rfl
  rw [List.filter_cons_of_neg (by simp [h0]), List.eraseIdx_cons_zero]
  refine filter_all fun y hy => ?_
  obtain ⟨i, hi⟩ := List.getElem?_of_mem hy
  cases hp : p y with
  | true => rfl
  | false => have := (h (i + 1) y (by simpa using hi)).1 hp; omega
 | x :: l, j + 1, h, hl => by
  have h0 : p x = true := by
   cases hp : p x with
   | true => rfl
   | false => have := (h 0 x rfl).1 hp; omega
  rw [List.filter_cons_of_pos h0, List.eraseIdx_cons_succ]
  congr 1
  refine filter_one (fun i y hy => ?_) (by simpa using hl)
  exact (h (i + 1) y (by simpa using hy)).trans ⟨fun e => by omega, fun e => by omega⟩
omit [Good] in
theorem MapR.erase {es : List ME} {ents : Array MapEntry} {clk : Nat} (h : MapR K es ents clk) (j : Nat) : MapR K (es.eraseIdx j) (ents.eraseIdxIfInBounds j) clk := by
 have hsub := List.eraseIdx_sublist es j
 have harr : (ents.eraseIdxIfInBounds j).toList = ents.toList.eraseIdx j := by
  unfold Array.eraseIdxIfInBounds
  split
  ·simp
  ·rename_i hj
   rw [List.eraseIdx_of_length_le (by simpa using hj)]
 have hl : ents.toList.length = es.length := by simpa using h.size
 refine ⟨?_, fun i f hf => ?_, h.keys.sublist (hsub.map _), fun f hf => h.plain f (hsub.subset hf), h.borns.sublist (hsub.map _), fun f hf => h.clock f (hsub.subset hf)⟩
 ·have := congrArg List.length harr
  simp only [Array.length_toList] at this
  rw [this, List.length_eraseIdx, List.length_eraseIdx, hl]
 ·rw [List.getElem?_eraseIdx] at hf
  have hk : ∀ q : Nat, es[q]? = some f -> ∃ m : MapEntry, ents.toList[q]? = some m /\ VR K f.1 m.key /\ VR K f.2.1 m.val /\ m.born = f.2.2 := fun q hq => let ⟨m, k1, k2⟩ := h.at_ q f hq; ⟨m, by simpa using k1, k2⟩
  have goal : ∃ m : MapEntry, (ents.toList.eraseIdx j)[i]? = some m /\ VR K f.1 m.key /\ VR K f.2.1 m.val /\ m.born = f.2.2 := by
   rw [List.getElem?_eraseIdx]
   split at hf
   ·rename_i hij; rw [if_pos hij]; exact hk _ hf
   ·rename_i hij; rw [if_neg hij]; exact hk _ hf
  obtain ⟨m, k1, k2⟩ := goal
  rw [<- harr, Array.getElem?_toList] at k1
  exact ⟨m, k1, k2⟩
omit [Good] in
theorem perm_drop {k : V} {es es' : List ME} (hp : (es'.map unborn).Perm (es.map unborn)) :
  ((es'.filter fun e => !vsame k e.1).map unborn).Perm ((es.filter fun e => !vsame k e.1).map unborn) := by
 have e : ∀ l : List ME, (l.filter fun e => !vsame k e.1).map unborn = (l.map unborn).filter fun q => !vsame k q.1 := by
  intro l
  rw [List.filter_map]
  rfl
 rw [e, e]
 exact hp.filter _
theorem delete_ok (hT : TypesOk P) {s : St} {t kt' ty : TypeId} {m k : TV} {q : TV × St} {mv kv : Value} (h : deleteV (tyOf P) t m k s = some q) (hmv : TVR K L m mv) (hkv : TVR K L k kv) (hm : Mem K L s.l s.h w) :
  ∃ z w', (Builtin.delete_ #[t, kt'] ty #[mv, kv]).run P w = .ok z w' /\ TVR K L q.1 z /\ Mem K L q.2.l q.2.h w' /\ Step K L w K L w' /\ q.2.e = s.e := by
 unfold deleteV at h
 split at h <;> first | (cases h; done) | skip
 ·rename_i kt el k hd
  obtain ⟨hk, h⟩ := grd_some h
  cases h
  obtain ⟨h1, h2, h3, h4⟩ := keyOk_some hk
  simp only [TVR,VR] at hmv
  subst hmv
  have hch := check_ok (w := w) true 3 kt k kv 6 9997 h2 hkv h3
  refine ⟨.tuple #[], w, ?_, by simp [TVR, VR, VRs], hm, Step.refl K L w, rfl⟩
  simp [Builtin.delete_, run_underlying (desc_map hd), hch]
 ·rename_i kt el r k hd
  split at h
  ·rename_i ex es c hr
   obtain ⟨hk, h⟩ := grd_some h
   cases h
   obtain ⟨h1, h2, h3, h4⟩ := keyOk_some hk
   obtain ⟨B, ents, clk, es', rfl, hK, hB, hmr, hex, hp⟩ := map_at hm.hr hr hmv
   obtain ⟨r', hf, hcase⟩ := found (w := w) hT hkv hmr hp hk
   have hch := check_ok (w := w) ents.isEmpty 3 kt k kv 6 9997 h2 hkv h3
   have hBlt : B < w.heap.size := (Array.getElem?_eq_some_iff.1 hB).1
   rcases hcase with ⟨j, e, f, me, rfl, g1, g2, g3, g4, g4', g5, g6, g7, g8⟩ | ⟨rfl, g1, g1'⟩
   ·have hfil : (es'.filter fun e => !vsame k e.1) = es'.eraseIdx j := filter_one (fun i x hx => by rw [Bool.not_eq_false']; exact only_key hmr.keys g1 g3 i x hx) (List.getElem?_eq_some_iff.1 g1).1
    obtain ⟨hm', hstep⟩ := hm.mapSet (x := .map ex (es.filter fun e => !vsame k e.1) c) (o := .map (ents.eraseIdxIfInBounds j) clk) ⟨_, _, _, hr⟩ hK (by
     refine ⟨B, rfl, _, _, es'.filter fun e => !vsame k e.1, World.putObj_heap_same hBlt, by rw [hfil]; exact hmr.erase j, ?_, perm_drop hp⟩
     intro hx
     obtain ⟨e1, e2⟩ := hex hx
     exact ⟨by rw [e1], e2⟩)
    refine ⟨.tuple #[], _, ?_, by simp [TVR, VR, VRs], hm', hstep, rfl⟩
    simp [Builtin.delete_, run_underlying (desc_map hd), MapKept.run_getObj_map hB, hch, hf, MapKept.run_setObj_map _ hB, World.putObj]
   ·have hfil' : (es'.filter fun e => !vsame k e.1) = es' := filter_all fun x hx => by
     have := List.find?_eq_none.1 g1' x hx
     simpa using this
    obtain ⟨hm', hstep⟩ := hm.mapSet (x := .map ex (es.filter fun e => !vsame k e.1) c) (o := .map ents clk) ⟨_, _, _, hr⟩ hK (by
     refine ⟨B, rfl, _, _, es', World.putObj_heap_same hBlt, hmr, ?_, ?_⟩
     ·intro hx
      obtain ⟨e1, e2⟩ := hex hx
      subst e1
      exact ⟨hfil'.symm, e2⟩
     ·have := perm_drop (k := k) hp
      rw [hfil'] at this
      exact this)
    refine ⟨.tuple #[], _, ?_, by simp [TVR, VR, VRs], hm', hstep, rfl⟩
    simp [Builtin.delete_, run_underlying (desc_map hd), MapKept.run_getObj_map hB, hch, hf, MapKept.run_setObj_map _ hB, World.putObj]
  ·cases h
omit [Good] in
theorem cap_ok {t : TypeId} {x : TV} {n : Int} {xv : Value} (h : capV (tyOf P) t x = some n) (hx : TVR K L x xv) (ty : TypeId) (ats : Array TypeId) (hat : ats[0]? = some t) :
  (Builtin.cap_ ats ty #[xv]).run P w = .ok (.int .i64 n) w := by
 unfold capV at h
 split at h <;> first | (cases h; done) | skip
 rename_i e sa len cap hd
 cases h
 have hx' : SlR K sa len cap 0 xv := by simpa only [TVR,VR] using hx
 obtain ⟨a', cap', rfl, hcc, hz0⟩ := hx'.shape
 rw [hz0 rfl]
 simp [Builtin.cap_, hat, run_underlying (desc_slice hd), goInt]
omit [Good] in
theorem run_append_zeros {t u el ty : TypeId} {k : IntKind} {n : Nat} {zv : Value} {i : TypeInfo} (ht : P.underlying t = some (.slice el)) (hu : P.underlying u = some (.int k))
  (hi : P.info? el = some i) (hzv : i.zero = some zv) (hn : 0 < n) (hb : n * i.bytes <= 35184372088832) (hl : n <= 35184372088832) (hz : 0 < i.size) :
  ∃ newCap, n <= newCap /\ (Builtin.append_ #[t, u] ty #[.slice none 0 0, .int .i64 n]).run P w =
   .ok (.slice (some ⟨w.heap.size, 0, none⟩) n newCap) (w.drew.alloc (.cells (Builtin.zeroCells zv.cells n ++ Builtin.zeroCells zv.cells (newCap - n)) el)) := by
 have h1 : ¬ (0 + n <= 0) := by omega
 have h3 : ¬ (Builtin.nextslicecap (0 + n) 0 * i.bytes > 281474976710656) := by
  have := growslice_fits (need := 0 + n) (old := 0) (bytes := i.bytes) (by omega) (by rw [Nat.zero_add]; omega)
  omega
 have hw : IntKind.i64.wrap (n : Int) = n := by
  simp only [IntKind.wrap,IntKind.signed,IntKind.bits]; simp; omega
 have h4 : ¬ ((n : Int) < 0) := by omega
 have h5 : ¬ ((n : Int) * (i.bytes : Int) > 281474976710656) := by
  have : ((n * i.bytes : Nat) : Int) <= 35184372088832 := by omega
  rw [Int.natCast_mul] at this
  omega
 have h6 : ¬ (IntKind.i64.max < (n : Int)) := by
  have : IntKind.i64.max = 9223372036854775807 := by decide
  omega
 have h6' : ¬ (9223372036854775807 < (n : Int)) := by omega
 have h7 : ¬ (n * i.size = 0) := by have := Nat.mul_pos hn hz; omega
 refine ⟨Question.cut (.appendCap (0 + n) 0 el) (w.tape w.drawn (.appendCap (0 + n) 0 el)), by simp only [Question.cut]; omega, ?_⟩
 have h3' : ¬ (281474976710656 < Builtin.nextslicecap n 0 * i.bytes) := by rw [Nat.zero_add] at h3; omega
 have h8 : ¬ (n = 0) := by omega
 have h5' : ¬ (281474976710656 < (n : Int) * (i.bytes : Int)) := by omega
 simp [Builtin.append_, run_underlying ht, run_underlying hu, run_sizeOf hi, Go.asInt, Go.asIntOf, hw, h4, h5', typeInfo, hi, h8, h6, h6', h3', zeroValue, hzv, Question.forced, Builtin.firstCells, h7, newRow]
theorem appendZ_ok (hT : TypesOk P) {s : St} {t u : TypeId} {k : IntKind} {x y : TV} {r : TV × St} {xv yv : Value} (h : appendZ (tyOf P) t s x y = some r) (hu : (tyOf P u).desc = .int k) (hx : TVR K L x xv) (hy : TVR K L y yv) (hm : Mem K L s.l s.h w) {ty : TypeId} :
  ∃ z w' K', (Builtin.append_ #[t, u] ty #[xv, yv]).run P w = .ok z w' /\ TVR K' L r.1 z /\ Mem K' L r.2.l r.2.h w' /\ Step K L w K' L w' /\ r.2.e = s.e := by
 unfold appendZ at h
 split at h <;> first | (cases h; done) | skip
 rename_i el n hd
 have ht := desc_slice hd
 have hie := hT.elem t el (desc_lt hd (by simp)) (.inl ht)
 obtain ⟨⟨g1, g2, g3, g4, g5⟩, h⟩ := grd_some h
 obtain ⟨i, zv, hi, hzv, hzs, hzr, hzc⟩ := zero_ok (K := K) hT g4 hie g5
 have hsz := size_of hi
 have hbytes : (tyOf P el).bytes = i.bytes := by simp [tyOf, Program.bytesOf, hi]
 obtain ⟨m, rfl⟩ : ∃ m : Nat, n = m := ⟨n.toNat, by omega⟩
 have hx' : SlR K .nil 0 0 0 xv := by simpa only [TVR,VR] using hx
 obtain ⟨_, _, _, rfl⟩ := hx'
 rw [TVR_int hy]
 have hb : m * i.bytes <= 35184372088832 := by rw [hbytes] at g2; omega
 obtain ⟨newCap, hge, hrun⟩ := run_append_zeros (w := w) (ty := ty) ht (desc_int hu) hi hzv (by omega) hb (by omega) (by rw [<- hsz]; exact g5)
 rw [Int.toNat_natCast] at h
 cases h
 obtain ⟨hmd, hstd⟩ := hm.drew
 have hz0 : 0 < (tyOf P el).zero.length := by rw [g4]; exact g5
 obtain ⟨hv, hc⟩ := reps_ok hzr hzc hz0 m
 have hsize : (Builtin.zeroCells zv.cells m ++ Builtin.zeroCells zv.cells (newCap - m)).size = newCap * (tyOf P el).size := by
  rw [Array.size_append, size_zero, size_zero, hzs, <- Nat.add_mul]
  congr 1; omega
 have hcr : CR K (reps m (tyOf P el).zero) (Builtin.zeroCells zv.cells m ++ Builtin.zeroCells zv.cells (newCap - m)) 0 := by
  have := newRow_cells (K := K) (old := reps m (tyOf P el).zero) (new := []) (o' := Builtin.zeroCells zv.cells m) (n' := #[]) (zs := Builtin.zeroCells zv.cells (newCap - m)) hv (by simp [VRs]) hc rfl
  simpa using this
 obtain ⟨hm', hst'⟩ := hmd.alloc (ty := el) hcr (by rw [hsize, reps_length, g4]; exact Nat.mul_le_mul_right _ hge) (0, 0) (.inr (Nat.le_refl 0))
 refine ⟨_, _, _, hrun, ?_, hm', hstd.trans hst', rfl⟩
 simp only [TVR,VR,SlR]
 refine ⟨_, newCap, rfl, by rw [hm.hr.1]; exact new_at _, hge, fun e => by omega, fun _ => ?_⟩
 intro g' B S N k hK _
 rw [hm.hr.1] at hK
 simp at hK
 obtain ⟨_, rfl, rfl, rfl, _⟩ := hK
 have := hsize
 simp only [Array.size_append] at this ⊢
 omega
end Go.Ev
namespace Go.Ev
variable [Good] {P : Program} {K : KM} {L : KL} {w : World}
theorem Gives.mem {s : St} {m : Sem Value} {r : TV × St} (h : ∃ z w' K' L', m.run P w = .ok z w' /\ TVR K' L' r.1 z /\ Mem K' L' r.2.l r.2.h w' /\ Step K L w K' L' w' /\ r.2.e = s.e) :
  Gives P K L s w (do pure (.value (<- m))) r := by
 obtain ⟨z, w', K', L', h1, h2, h3, h4, h5⟩ := h
 exact ⟨_, z, w', K', L', by simp [h1], .inl rfl, h2, h3, h4, h5⟩
omit [Good] in
theorem opds_ok {e : List TV} {a : Act} (he : ER K L e a.tmps) (args : Array Operand) :
  (∀ (i : Nat) (x : TV), (args.toList.map (opd e))[i]? = some x -> ∃ y, (args.map a.eval).toList[i]? = some y /\ TVR K L x y) /\ (args.map a.eval).toList.length = (args.toList.map (opd e)).length := by
 refine ⟨fun i x hi => ?_, by simp⟩
 rw [List.getElem?_map] at hi
 cases ho : args.toList[i]? with
 | none => rw [ho] at hi; cases hi
 | some o =>
  rw [ho] at hi; cases hi
  have : args[i]? = some o := by simpa using ho
  exact ⟨a.eval o, by simp [this], opd_ok he o⟩
omit [Good] in
theorem parts_eq (a : Act) (parts : Array (Nat × Operand)) : (parts.map fun (i, x) => (i, a.eval x)) = (parts.toList.map fun p => (p.1, a.eval p.2)).toArray := by
 apply Array.ext'
 simp
theorem builtin_ok (hT : TypesOk P) {s : St} {a : Act} (he : ER K L s.e a.tmps) (hm : Mem K L s.l s.h w) {b : Builtin} {ats : Array TypeId} {args : Array Operand} {r : TV × St} {ty : TypeId} {cs : Array Bool}
  (h : builtinV (tyOf P) b ats.toList (args.toList.map (opd s.e)) s = some r) : Gives P K L s w (builtin b ats ty cs (args.map a.eval)) r := by
 have ho := opds_ok he args
 unfold builtinV at h
 split at h <;> first | (cases h; done) | skip
 ·rename_i t x hats hargs
  obtain ⟨n, hn, h⟩ := bnd_some h
  cases h
  have hat : ats[0]? = some t := by rw [<- Array.getElem?_toList, hats]; rfl
  obtain ⟨o, rfl⟩ : ∃ o, args = #[o] := by
   obtain ⟨l⟩ := args
   cases l with
   | nil => cases hargs
   | cons o l => cases l with
    | nil => exact ⟨o, rfl⟩
    | cons _ _ => cases hargs
  simp at hargs; subst hargs
  have := len_ok (P := P) hn (opd_ok he o) hm.hr ty ats hat
  exact .val hm ⟨_, by simpa using this, by simp only [TVR,VR]⟩
 ·rename_i t u x y hats hargs
  obtain ⟨o1, o2, rfl⟩ : ∃ o1 o2, args = #[o1, o2] := by
   obtain ⟨l⟩ := args
   match l, hargs with
   | [o1, o2], _ => exact ⟨o1, o2, rfl⟩
  simp at hargs
  obtain ⟨rfl, rfl⟩ := hargs
  obtain ⟨l⟩ := ats
  simp at hats; subst hats
  have key : appendV (tyOf P) t s (opd s.e o1) (opd s.e o2) = some r -> ((∃ e, (tyOf P u).desc = .slice e) \/ (tyOf P u).desc = .str) -> Gives P K L s w (builtin .append #[t, u] ty cs #[a.eval o1, a.eval o2]) r := by
   intro h hu
   obtain ⟨z, w', K', h1, h2, h3, h4, h5⟩ := append_ok hT h (opd_ok he o1) (opd_ok he o2) hm hu ty
   exact .mem ⟨z, w', K', L, h1, h2, h3, h4, h5⟩
  split at h <;> first | (cases h; done) | skip
  ·rename_i e hd; simpa using key h (.inl ⟨e, hd⟩)
  ·rename_i hd; simpa using key h (.inr hd)
  ·rename_i k hd
   obtain ⟨z, w', K', h1, h2, h3, h4, h5⟩ := appendZ_ok (u := u) (ty := ty) hT h hd (opd_ok he o1) (opd_ok he o2) hm
   have : Gives P K L s w (builtin .append #[t, u] ty cs #[a.eval o1, a.eval o2]) r := .mem ⟨z, w', K', L, h1, h2, h3, h4, h5⟩
   simpa using this
 ·rename_i t u x y hats hargs
  obtain ⟨o1, o2, rfl⟩ : ∃ o1 o2, args = #[o1, o2] := by
   obtain ⟨l⟩ := args
   match l, hargs with
   | [o1, o2], _ => exact ⟨o1, o2, rfl⟩
  simp at hargs
  obtain ⟨rfl, rfl⟩ := hargs
  obtain ⟨l⟩ := ats
  simp at hats; subst hats
  obtain ⟨z, w', h1, h2, h3, h4, h5⟩ := copy_ok (u := u) hT h (opd_ok he o1) (opd_ok he o2) hm ty
  have : Gives P K L s w (builtin .copy #[t, u] ty cs #[a.eval o1, a.eval o2]) r := .mem ⟨z, w', K, L, h1, h2, h3, h4, h5⟩
  simpa using this
 ·rename_i t x hats hargs
  obtain ⟨o1, rfl⟩ : ∃ o1, args = #[o1] := by
   obtain ⟨l⟩ := args
   match l, hargs with
   | [o1], _ => exact ⟨o1, rfl⟩
  simp at hargs
  subst hargs
  obtain ⟨l⟩ := ats
  simp at hats; subst hats
  obtain ⟨z, w', h1, h2, h3, h4, h5⟩ := clear_ok hT h (opd_ok he o1) hm ty
  have : Gives P K L s w (builtin .clear #[t] ty cs #[a.eval o1]) r := .mem ⟨z, w', K, L, h1, h2, h3, h4, h5⟩
  simpa using this
 ·rename_i t u x y hats hargs
  obtain ⟨o1, o2, rfl⟩ : ∃ o1 o2, args = #[o1, o2] := by
   obtain ⟨l⟩ := args
   match l, hargs with
   | [o1, o2], _ => exact ⟨o1, o2, rfl⟩
  simp at hargs
  obtain ⟨rfl, rfl⟩ := hargs
  obtain ⟨l⟩ := ats
  simp at hats; subst hats
  obtain ⟨z, w', h1, h2, h3, h4, h5⟩ := delete_ok (kt' := u) (ty := ty) hT h (opd_ok he o1) (opd_ok he o2) hm
  have : Gives P K L s w (builtin .delete #[t, u] ty cs #[a.eval o1, a.eval o2]) r := .mem ⟨z, w', K, L, h1, h2, h3, h4, h5⟩
  simpa using this
 ·rename_i t x hats hargs
  obtain ⟨n, hn, h⟩ := bnd_some h
  cases h
  have hat : ats[0]? = some t := by rw [<- Array.getElem?_toList, hats]; rfl
  obtain ⟨o, rfl⟩ : ∃ o, args = #[o] := by
   obtain ⟨l⟩ := args
   match l, hargs with
   | [o], _ => exact ⟨o, rfl⟩
  simp at hargs; subst hargs
  have := cap_ok (P := P) (w := w) hn (opd_ok he o) ty ats hat
  exact .val hm ⟨_, by simpa using this, by simp only [TVR,VR]⟩
 ·obtain ⟨v, hv, h⟩ := bnd_some h
  cases h
  unfold minmaxV at hv
  split at hv
  ·rename_i k n l hargs
   obtain ⟨lo⟩ := args
   cases lo with
   | nil => cases hargs
   | cons o lo =>
    simp at hargs
    obtain ⟨h1, h2⟩ := hargs
    have ho1 := opd_ok he o
    rw [h1] at ho1
    have hh := opds_ok he lo.toArray
    simp only [List.toList_toArray,h2] at hh
    obtain ⟨z, hz, hvz⟩ := minmax_ok (P := P) (w := w) (K := K) (L := L) l _ n k v hv hh.1 hh.2
    refine .val hm ⟨z, ?_, hvz⟩
    simpa [Builtin.max_, TVR_int ho1] using hz
  ·cases hv
 ·obtain ⟨v, hv, h⟩ := bnd_some h
  cases h
  unfold minmaxV at hv
  split at hv
  ·rename_i k n l hargs
   obtain ⟨lo⟩ := args
   cases lo with
   | nil => cases hargs
   | cons o lo =>
    simp at hargs
    obtain ⟨h1, h2⟩ := hargs
    have ho1 := opd_ok he o
    rw [h1] at ho1
    have hh := opds_ok he lo.toArray
    simp only [List.toList_toArray,h2] at hh
    obtain ⟨z, hz, hvz⟩ := minmax_ok (P := P) (w := w) (K := K) (L := L) l _ n k v hv hh.1 hh.2
    refine .val hm ⟨z, ?_, hvz⟩
    simpa [Builtin.min_, TVR_int ho1] using hz
  ·cases hv
theorem exPure_ok (hT : TypesOk P) {s : St} {a : Act} (hs : SR K L s a w) (o : Oper) {sl : Option Nat} {r : TV × St} (h : exPure (tyOf P) sl o.op s = some r) :
  Gives P K L s w (execOp a.eval o) r := by
 have he := hs.env
 have hm := hs.mem
 unfold exPure at h
 split at h <;> first | (cases h; done) | skip
 case h_1 x ho => cases h; exact .same hm (by simp [execOp, ho]) (opd_ok he x)
 case h_2 x ho => cases h; exact .same hm (by simp [execOp, ho]) (opd_ok he x)
 case h_3 c x y ho =>
  split at h
  ·rename_i t hc
   cases h
   have h1 := opd_ok he c
   rw [hc] at h1
   have h2 := TVR_bool h1
   refine .same (y := if t then a.eval x else a.eval y) hm (by simp [execOp, ho, h2, asBool]) ?_
   cases t
   ·exact opd_ok he y
   ·exact opd_ok he x
  ·cases h
 case h_4 el x ho =>
  split at h
  ·rename_i v hv
   obtain ⟨c, hc, h⟩ := bnd_some h
   have h1 := opd_ok he x
   rw [hv] at h1
   obtain ⟨h2, h3⟩ := cellsV_ok (K := K) h1 hc
   obtain ⟨K', L', g1, g2, g3, g4⟩ := newVar_ok h hm el h2 h3
   refine ⟨_, _, _, K', L', ?_, .inl rfl, g1, g2, g3, g4⟩
   simp [execOp, ho, Instr.box, Go.newVar, newRow]
  ·cases h
 case h_5 el ho =>
  obtain ⟨⟨h1, h2⟩, h⟩ := grd_some h
  have hie : (P.info? el).isSome = true := by
   cases hi : P.info? el with
   | some i => rfl
   | none => simp [tyOf, Program.cellsOf, hi] at h2
  obtain ⟨i, zv, hi, hzv, hzs, hzr, hzc⟩ := zero_ok (K := K) hT h1 hie h2
  obtain ⟨K', L', g1, g2, g3, g4⟩ := newVar_ok h hm el hzr hzc
  refine ⟨_, _, _, K', L', ?_, .inl rfl, g1, g2, g3, g4⟩
  simp [execOp, ho, Instr.alloc, zeroValue, typeInfo, hi, hzv, Go.newVar, newRow]
 case h_6 t parts ho =>
  obtain ⟨v, hv, h⟩ := bnd_some h
  cases h
  obtain ⟨z, hz, hvz⟩ := build_ok (w := w) hT he hv
  have := Gives.val (s := s) (v := .v v) hm ⟨z, hz, hvz⟩
  simpa only [execOp,ho,parts_eq] using this
 case h_7 t n parts ho =>
  obtain ⟨z, w', K', L', h1, h2, h3, h4, h5⟩ := buildSlice_ok (w := w) hT he h hm
  have := Gives.mem (s := s) (r := r) ⟨z, w', K', L', h1, h2, h3, h4, h5⟩
  simpa only [execOp,ho,parts_eq] using this
 case h_8 t x ho =>
  obtain ⟨v, hv, h⟩ := bnd_some h
  cases h
  obtain ⟨y, hy, hr⟩ := load_ok hv (opd_ok he x) hm
  have := Gives.val (s := s) (v := .v v) hm ⟨y, hy, hr⟩
  simpa only [execOp,ho] using this
 case h_9 t x y ho =>
  split at h
  ·rename_i v hv
   obtain ⟨s', hs', h⟩ := bnd_some h
   cases h
   have h1 := opd_ok he y
   rw [hv] at h1
   obtain ⟨w', g1, g2, g3, g4⟩ := store_ok hs' (opd_ok he x) h1 hm
   exact ⟨.skip, undef, w', K, L, by simp [execOp, ho, g1], .inr ⟨rfl, rfl⟩, rfl, g2, g3, g4⟩
  ·cases h
 case h_10 x ho =>
  obtain ⟨v, hv, h⟩ := bnd_some h
  cases h
  obtain ⟨z, hz, hr⟩ := nilCheck_ok (P := P) (w := w) hv (opd_ok he x) o x ho rfl
  exact .same hm hz hr
 case h_11 op t x y t2 ho =>
  split at h
  ·rename_i u v hu hv
   obtain ⟨z, hz, h⟩ := bnd_some h
   cases h
   have h1 := opd_ok he x
   have h2 := opd_ok he y
   rw [hu] at h1
   rw [hv] at h2
   obtain ⟨q, hq, hr⟩ := binOp_ok (w := w) hT hz h1 h2 x y
   have := Gives.val (s := s) (v := .v z) hm ⟨q, hq, hr⟩
   simpa only [execOp,ho] using this
  ·cases h
 case h_12 op t x ho =>
  split at h
  ·rename_i u hu
   obtain ⟨z, hz, h⟩ := bnd_some h
   cases h
   have h1 := opd_ok he x
   rw [hu] at h1
   obtain ⟨q, hq, hr⟩ := unOp_ok (P := P) (w := w) hz h1
   have := Gives.val (s := s) (v := .v z) hm ⟨q, hq, hr⟩
   simpa only [execOp,ho] using this
  ·cases h
 case h_13 src dst x ho =>
  obtain ⟨z, w', K', h1, h2, h3, h4, h5⟩ := conv_ok (w := w) hT h (opd_ok he x) hm
  have := Gives.mem (s := s) (r := r) ⟨z, w', K', L, h1, h2, h3, h4, h5⟩
  simpa only [execOp,ho] using this
 case h_14 f first cap ho =>
  rcases cnd_some h with ⟨hf, h⟩ | ⟨_, h⟩
  ·obtain ⟨vs, hvs, h⟩ := bnd_some h
   cases h
   have hh := opds_ok he cap
   have hv := allV_ok hvs hh.1 hh.2
   have hfe : first = #[] := by simpa using hf
   subst hfe
   refine .same (y := .func (.func f) #[] (cap.map a.eval)) hm (by simp [execOp, ho, Instr.makeFunc]) ?_
   simp only [TVR,VR]
   exact ⟨_, rfl, hv⟩
  ·cases h
 case h_15 t l c ho =>
  obtain ⟨z, w', K', h1, h2, h3, h4, h5⟩ := makeSlice_ok (w := w) hT h (opd_ok he l) (opd_ok he c) hm
  have := Gives.mem (s := s) (r := r) ⟨z, w', K', L, h1, h2, h3, h4, h5⟩
  simpa only [execOp,ho] using this
 case h_16 t ho =>
  obtain ⟨z, w', K', h1, h2, h3, h4, h5⟩ := makeMap_ok (w := w) h hm
  have := Gives.mem (s := s) (r := r) ⟨z, w', K', L, h1, h2, h3, h4, h5⟩
  simpa only [execOp,ho,Option.map_none] using this
 case h_17 t m k ok ho =>
  obtain ⟨v, hv, h⟩ := bnd_some h
  cases h
  obtain ⟨z, hz, hr⟩ := lookup_ok (w := w) hT hv (opd_ok he m) (opd_ok he k) hm
  have := Gives.val (s := s) (v := v) hm ⟨z, hz, hr⟩
  simpa only [execOp,ho] using this
 case h_18 t m k x ho =>
  obtain ⟨s', hs', h⟩ := bnd_some h
  cases h
  obtain ⟨w', g1, g2, g3, g4⟩ := update_ok hT hs' (opd_ok he m) (opd_ok he k) (opd_ok he x) hm
  exact ⟨.skip, undef, w', K, L, by simp [execOp, ho, g1], .inr ⟨rfl, rfl⟩, rfl, g2, g3, g4⟩
 case h_19 t m k x ho =>
  obtain ⟨s', hs', h⟩ := bnd_some h
  cases h
  obtain ⟨w', g1, g2, g3, g4⟩ := update_ok hT hs' (opd_ok he m) (opd_ok he k) (opd_ok he x) hm
  exact ⟨.skip, undef, w', K, L, by simp [execOp, ho, g1], .inr ⟨rfl, rfl⟩, rfl, g2, g3, g4⟩
 case h_20 t m k ho =>
  obtain ⟨z, w', h1, h2, h3, h4, h5⟩ := entry_ok hT h (opd_ok he m) (opd_ok he k) hm
  have := Gives.mem (s := s) (r := r) ⟨z, w', K, L, h1, h2, h3, h4, h5⟩
  simpa only [execOp,ho] using this
 case h_21 t m st x ho =>
  obtain ⟨s', hs', h⟩ := bnd_some h
  cases h
  obtain ⟨w', g1, g2, g3, g4⟩ := entryStore_ok (P := P) (t := t) hs' (opd_ok he m) (opd_ok he st) (opd_ok he x) hm
  exact ⟨.skip, undef, w', K, L, by simp [execOp, ho, g1], .inr ⟨rfl, rfl⟩, rfl, g2, g3, g4⟩
 case h_22 t x lo hi mx ho =>
  obtain ⟨v, hv, h⟩ := bnd_some h
  cases h
  obtain ⟨z, hz, hr⟩ := slice_ok (P := P) (w := w) hT he hv (opd_ok he x)
  have := Gives.val (s := s) (v := v) hm ⟨z, hz, hr⟩
  simpa only [execOp,ho] using this
 case h_23 t x f ho =>
  obtain ⟨v, hv, h⟩ := bnd_some h
  cases h
  obtain ⟨z, hz, hr⟩ := fieldAddr_ok (P := P) (w := w) hT hv (opd_ok he x)
  have := Gives.val (s := s) (v := v) hm ⟨z, hz, hr⟩
  simpa only [execOp,ho] using this
 case h_24 t x f ho =>
  split at h
  ·rename_i cs hx
   obtain ⟨p, hp, h⟩ := bnd_some h
   obtain ⟨v, hv, h⟩ := bnd_some h
   cases h
   have h1 := opd_ok he x
   rw [hx] at h1
   obtain ⟨cs', hcs, h2, h3⟩ : ∃ cs', a.eval x = .agg cs' /\ VRs K cs cs'.toList /\ cs.all isCell = true := by simpa only [TVR,VR] using h1
   obtain ⟨gs, fd, hu, hf, rfl, hi⟩ := fieldOff_ok hT hp
   obtain ⟨z, hz, hr⟩ := part_ok (P := P) h2 h3 hv w
   have hrun : (Instr.field t (a.eval x) f).run P w = .ok z w := by
    simp only [Array.toArray_toList] at hz
    simp [Instr.field, run_underlying hu, hf, hcs, asAgg, hz]
   have := Gives.val (s := s) (v := .v v) hm ⟨z, hrun, hr⟩
   simpa only [execOp,ho] using this
  ·cases h
 case h_25 t x i ho =>
  obtain ⟨v, hv, h⟩ := bnd_some h
  cases h
  obtain ⟨z, hz, hr⟩ := indexAddr_ok (P := P) (w := w) hT hv (opd_ok he x) (opd_ok he i)
  have := Gives.val (s := s) (v := v) hm ⟨z, hz, hr⟩
  simpa only [execOp,ho] using this
 case h_26 t x i ho =>
  obtain ⟨v, hv, h⟩ := bnd_some h
  cases h
  obtain ⟨z, hz, hr⟩ := index_ok (P := P) (w := w) hT hv (opd_ok he x) (opd_ok he i)
  have := Gives.val (s := s) (v := .v v) hm ⟨z, hz, hr⟩
  simpa only [execOp,ho] using this
 case h_27 x i ho =>
  split at h
  ·rename_i vs hx
   obtain ⟨v, hv, h⟩ := bnd_some h
   cases h
   have h1 := opd_ok he x
   rw [hx] at h1
   obtain ⟨z, hz, hr⟩ := extract_ok (P := P) (w := w) h1 hv
   have := Gives.val (s := s) (v := .v v) hm ⟨z, hz, hr⟩
   simpa only [execOp,ho] using this
  ·cases h
 case h_28 c ho =>
  split at h
  ·rename_i b hc
   have := builtin_ok (ty := o.type) (cs := c.args.map fun | .const _ => true | _ => false) hT he hm h
   obtain ⟨n, y, w', K', L', h1, h2⟩ := this
   refine ⟨n, y, w', K', L', ?_, h2⟩
   simp [execOp, ho, resolve, hc, invoke]
   exact h1
  ·cases h
end Go.Ev
namespace Go.Ev
variable [Good] {P : Program} {K : KM} {L : KL} {w : World}
def FW (ro : Option Nat) : Fence := { fn := fun _ => True, depth := none, alive := false, round := ro }
def InR (K : KM) : Option Nat -> Prop
 | none => True
 | some B => ∃ (l : Nat) (kl : KL) (t : Bool), K[l]? = some (KB.l B kl t)
omit [Good] in
theorem InR.mono {K K' : KM} (hle : KM.le K K') {ro : Option Nat} (h : InR K ro) : InR K' ro := by
 cases ro with
 | none => trivial
 | some B =>
  obtain ⟨l, kl, t, h⟩ := h
  obtain ⟨e, he, kl', t', rfl⟩ := hle l _ h
  exact ⟨l, kl', t', he⟩
def MarksB (base : Nat) (K : KM) (L : KL) (ds : List Deferred) (w : World) : Prop :=
 ∃ Ds : List Nat, ds = Ds.map (fun D => { target := .collected D, args := #[] }) /\ Ds.Nodup /\ ∀ D ∈ Ds, base <= D /\ w.heap[D]? = some (.deferred (some [])) /\ ∀ o, ¬ OwnBy K L o D
structure SB (base : Nat) (K : KM) (L : KL) (s : St) (a : Act) (w : World) : Prop where
 env : ER K L s.e a.tmps
 mem : Mem K L s.l s.h w
 marks : MarksB base K L a.defers w
omit [Good] in
theorem MarksB.marks {base : Nat} {ds : List Deferred} (h : MarksB base K L ds w) : Marks K L ds w :=
 let ⟨Ds, h1, h2, h3⟩ := h; ⟨Ds, h1, h2, fun D hD => (h3 D hD).2⟩
omit [Good] in
theorem MarksB.step {base : Nat} {K K' : KM} {L L' : KL} {w w' : World} {ds : List Deferred} (h : MarksB base K L ds w) (hs : Step K L w K' L' w') : MarksB base K' L' ds w' := by
 obtain ⟨Ds, rfl, hn, hd⟩ := h
 refine ⟨Ds, rfl, hn, fun D hD => ?_⟩
 obtain ⟨h0, h1, h2⟩ := hd D hD
 have hlt : D < w.heap.size := (Array.getElem?_eq_some_iff.1 h1).1
 refine ⟨h0, (hs.same D hlt h2).trans h1, fun o ho => ?_⟩
 rcases hs.own o D ho with h3 | ⟨o', h3⟩
 ·omega
 ·exact h2 o' h3
theorem SB.sr {base : Nat} {s : St} {a : Act} (h : SB base K L s a w) : SR K L s a w := ⟨h.env, h.mem, h.marks.marks⟩
theorem BR.uses_not {x : Blk} {e : KB} (h : BR K w x e) {B : Nat} (hu : e.uses B) {d : Option (List Deferred)} : w.heap[B]? ≠ some (.deferred d) := by
 cases x with
 | cells g k c =>
  obtain ⟨B', S, N, rfl, c', ty, fr, h1, _⟩ := h
  cases hu; rw [h1]; simp
 | map ex es c =>
  obtain ⟨B', rfl, ents, clk, es', h1, _⟩ := h
  cases hu; rw [h1]; simp
 | loop r =>
  obtain ⟨B', L', rfl, R, h1, h2, h3⟩ := h
  rcases hu with rfl | ⟨ht, s, ver, hs, hv⟩
  ·rw [h1]; simp
  ·obtain ⟨hl, h4⟩ := h3 ht
   have hlt : s < r.l.length := by rw [hl]; exact (List.getElem?_eq_some_iff.1 hs).1
   obtain ⟨B2, h5, h6⟩ := h4 s (r.l[s]).1 (r.l[s]).2 (by simp [hlt])
   rw [hs] at h5; cases h5
   obtain ⟨c', ty, h7, _⟩ := h6 hv
   rw [h7]; simp
theorem Mem.keep {l : Locs} {h : Heap} (hm : Mem K L l h w) {w' : World} (hsz : w.heap.size <= w'.heap.size)
  (hs : ∀ B, B < w.heap.size -> (∀ d, w.heap[B]? ≠ some (.deferred d)) -> w'.heap[B]? = w.heap[B]?) : Mem K L l h w' := by
 refine ⟨hm.lr.keep (KM.le_refl K) fun s ver B hB hv => ?_, ⟨hm.hr.1, fun b x hx => ?_⟩, ⟨hm.inv.inj, fun o B ho => Nat.lt_of_lt_of_le (hm.inv.lt o B ho) hsz, fun b g B S N hb => ?_⟩⟩
 ·refine hs B (hm.inv.lt (.loc s) B ⟨ver, hB, hv⟩) fun d => ?_
  have hlt : s < l.length := by rw [hm.lr.1]; exact (List.getElem?_eq_some_iff.1 hB).1
  obtain ⟨B2, h5, h6⟩ := hm.lr.2 s (l[s]).1 (l[s]).2 (by simp [hlt])
  rw [hB] at h5; cases h5
  obtain ⟨c', ty, h7, _⟩ := h6 hv
  rw [h7]; simp
 ·obtain ⟨e, he, hb⟩ := hm.hr.2 b x hx
  exact ⟨e, he, hb.keep (KM.le_refl K) fun B hB => hs B (hm.inv.uses he hB).2 fun d => hb.uses_not hB⟩
 ·obtain ⟨h1, h2⟩ := hm.inv.ro b g B S N hb
  exact ⟨Nat.lt_of_lt_of_le h1 hsz, h2⟩
omit [Good] in
theorem own_nil {o : Owner} {B : Nat} (h : OwnBy K [] o B) (L : KL) : OwnBy K L o B := by
 cases o with
 | loc s => obtain ⟨ver, h, _⟩ := h; simp at h
 | blk b => exact h
 | lloc b s => exact h
omit [Good] in
theorem own_nil_loc {s B : Nat} : ¬ OwnBy K [] (.loc s) B := fun ⟨ver, h, _⟩ => by simp at h
theorem Mem.drop {l : Locs} {h : Heap} (hm : Mem K L l h w) : Mem K [] [] h w :=
 ⟨⟨rfl, fun s ver c h => by simp at h⟩, hm.hr, ⟨fun o o' B h1 h2 => hm.inv.inj o o' B (own_nil h1 L) (own_nil h2 L), fun o B h1 => hm.inv.lt o B (own_nil h1 L),
  fun b g B S N hb => ⟨(hm.inv.ro b g B S N hb).1, fun o ho => (hm.inv.ro b g B S N hb).2 o (own_nil ho L)⟩⟩⟩
theorem Mem.join {K' : KM} {w' : World} {l : Locs} {h h' : Heap} (hm : Mem K L l h w) (hst : Step K [] w K' [] w') (hm' : Mem K' [] [] h' w') :
  Mem K' L l h' w' /\ Step K L w K' L w' := by
 have hcase : ∀ o B, OwnBy K' L o B -> OwnBy K L o B \/ OwnBy K' [] o B := by
  intro o B ho
  cases o with
  | loc s => exact .inl ho
  | blk b => exact .inr ho
  | lloc b s => exact .inr ho
 have hno : ∀ s B, OwnBy K L (.loc s) B -> ∀ o, ¬ OwnBy K [] o B := fun s B hs o ho => by
  have := hm.inv.inj _ _ _ (own_nil ho L) hs
  subst this
  exact own_nil_loc ho
 have hno' : ∀ s B, OwnBy K L (.loc s) B -> ∀ o, ¬ OwnBy K' [] o B := fun s B hs o ho => by
  rcases hst.own o B ho with h1 | ⟨o', h1⟩
  ·have := hm.inv.lt _ _ hs; omega
  ·exact hno s B hs o' h1
 refine ⟨⟨hm.lr.keep hst.kle fun s ver B hB hv => hst.same B (hm.inv.lt (.loc s) B ⟨ver, hB, hv⟩) (hno s B ⟨ver, hB, hv⟩), hm'.hr, ⟨fun o o' B h1 h2 => ?_, fun o B h1 => ?_, fun b g B S N hb => ?_⟩⟩, ?_⟩
 ·cases o with
  | loc s =>
   cases o' with
   | loc s' => exact hm.inv.inj _ _ _ h1 h2
   | blk b => exact absurd h2 (hno' s B h1 (.blk b))
   | lloc b s' => exact absurd h2 (hno' s B h1 (.lloc b s'))
  | blk b =>
   cases o' with
   | loc s' => exact absurd h1 (hno' s' B h2 (.blk b))
   | blk b' => exact hm'.inv.inj (.blk b) (.blk b') B h1 h2
   | lloc b' s' => exact hm'.inv.inj (.blk b) (.lloc b' s') B h1 h2
  | lloc b s =>
   cases o' with
   | loc s' => exact absurd h1 (hno' s' B h2 (.lloc b s))
   | blk b' => exact hm'.inv.inj (.lloc b s) (.blk b') B h1 h2
   | lloc b' s' => exact hm'.inv.inj (.lloc b s) (.lloc b' s') B h1 h2
 ·cases o with
  | loc s => exact Nat.lt_of_lt_of_le (hm.inv.lt (.loc s) _ h1) hst.size
  | blk b => exact hm'.inv.lt (.blk b) B h1
  | lloc b s => exact hm'.inv.lt (.lloc b s) B h1
 ·refine ⟨(hm'.inv.ro b g B S N hb).1, fun o ho => ?_⟩
  cases o with
  | loc s =>
   rcases hst.ros b g B S N hb with ⟨b1, g1, S1, N1, h1⟩ | h1 | ⟨o', h1⟩
   ·exact (hm.inv.ro b1 g1 B S1 N1 h1).2 (.loc s) ho
   ·have := hm.inv.lt (.loc s) B ho; omega
   ·exact hno s B ho o' h1
  | blk b' => exact (hm'.inv.ro b g B S N hb).2 (.blk b') ho
  | lloc b' s => exact (hm'.inv.ro b g B S N hb).2 (.lloc b' s) ho
 ·refine ⟨hst.kle, KL.le_refl L, hst.size, fun B hB hn => hst.same B hB fun o ho => hn o (own_nil ho L), fun o B ho => ?_, hst.os, hst.tape, hst.output, fun b g B S N hb => (hst.ros b g B S N hb).imp id fun h1 => h1.imp id fun ⟨o', h2⟩ => ⟨o', own_nil h2 L⟩, hst.loops⟩
  cases o with
  | loc s => exact .inr ⟨.loc s, ho⟩
  | blk b => exact (hst.own (.blk b) B ho).imp id fun ⟨o', h1⟩ => ⟨o', own_nil h1 L⟩
  | lloc b s => exact (hst.own (.lloc b s) B ho).imp id fun ⟨o', h1⟩ => ⟨o', own_nil h1 L⟩
def Post (K : KM) (w : World) (v : V) (h' : Heap) : Ending -> World -> Prop
 | .returned y, w' => ∃ K', VR K' v y /\ Mem K' [] [] h' w' /\ Step K [] w K' [] w'
 | _, _ => False
def CallOk (P : Program) (K : KM) (w : World) (fv : V) (args : List V) (v : V) (h' : Heap) : Prop :=
 match fv with
 | .fn f cap => (∃ fn, P.funcs[f]? = some fn /\ fn.body.isSome = true /\ (fn.name == "runtime.NumGoroutine") = false) /\
   ∀ ys, VRs K (args ++ cap) ys -> CallsIn (FW none) 0 P f ys.toArray w (Post K w v h')
 | .yld l => ∀ B kl t R ys, K[l]? = some (.l B kl t) -> w.heap[B]? = some (.loop R) -> VRs K args ys ->
   ys.length = R.params.size /\ RoundIn (FW none) 0 P B R.fn ((R.params.zip ys.toArray).foldl (fun tmps (t, a) => tmps.setIfInBounds t a) R.tmps) R.assign R.body w (Post K w v h')
 | _ => False
def Spec (P : Program) (C : CallSem) : Prop := ∀ fv args h v h', C fv args h = some (v, h') -> ∀ K w, Mem K [] [] h w -> CallOk P K w fv args v h'
omit [Good] in
theorem run_callFunc {f : FuncId} {fn : Func} (h1 : P.funcs[f]? = some fn) (h2 : fn.body.isSome = true) (h3 : (fn.name == "runtime.NumGoroutine") = false) (args : Array Value) (w : World) :
  (callFunc f args).run P w = .ok (.enter f args) w := by
 have h4 : fn.body ≠ none := by cases hb : fn.body <;> simp_all
 have h5 : fn.name ≠ "runtime.NumGoroutine" := by simpa using h3
 simp [callFunc, h1, h5, h4]
omit [Good] in
theorem ER.put {e : List TV} {t : Array Value} (he : ER K L e t) (d : Nat) {v : TV} {y : Value} (hv : TVR K L v y) : ER K L (e.set d v) (t.setIfInBounds d y) := by
 refine ⟨by simp [he.1], fun i x hx => ?_⟩
 rw [List.getElem?_set] at hx
 by_cases h : d = i
 ·subst h
  simp only [if_true] at hx
  split at hx
  ·rename_i hlt
   cases hx
   exact ⟨y, by simp [he.1 ▸ hlt], hv⟩
  ·cases hx
 ·simp only [h,if_false] at hx
  obtain ⟨z, hz, h2⟩ := he.2 i x hx
  exact ⟨z, by rw [Array.getElem?_setIfInBounds_ne h]; exact hz, h2⟩
omit [Good] in
theorem ER.putD {e : List TV} {a : Act} (he : ER K L e a.tmps) (d : Option Tmp) {v : TV} {y : Value} (hv : TVR K L v y) : ER K L (setT e d v) (a.put d y).tmps := by
 cases d with
 | none => exact he
 | some d => exact he.put d hv
omit [Good] in
theorem put_defers (a : Act) (d : Option Tmp) (y : Value) : (a.put d y).defers = a.defers := by cases d <;> rfl
omit [Good] in
theorem wanted_ok {ops : List Oper} {e : List TV} {t : Array Value} {o : Oper} {b : Bool} (h : wantedT ops e o.guard = some b) (he : ER K L e t) :
    Region.wanted o (yielded ops.toArray t) = b := by
  unfold wantedT at h
  unfold Region.wanted
  cases hg : o.guard with
  | none => rw [hg] at h; simpa using h
  | some jw =>
    obtain ⟨j, want⟩ := jw
    rw [hg] at h
    simp only at h ⊢
    have hops : (ops.toArray[j]?) = ops[j]? := by simp
    simp only [yielded,hops]
    cases hd : (ops[j]?).bind (·.dst) with
    | none => rw [hd] at h; simpa using h
    | some d =>
      rw [hd] at h
      simp only [Option.bind_some] at h ⊢
      by_cases hlt : d < e.length
      · obtain ⟨y, hy, hv⟩ := he.2 d e[d] (by simp [hlt])
        have hgt : getT e d = e[d] := by simp [getT, List.getD, hlt]
        rw [hgt] at h
        rw [hy]
        cases hx : e[d] with
        | v x =>
          rw [hx] at h hv
          cases x with
          | bool b' =>
            simp only [TVR,VR] at hv
            subst hv
            simp only [Option.some.injEq] at h
            subst h
            cases b' <;> cases want <;> rfl
          | _ =>
            have hnb : ∀ b', y ≠ .bool b' := by
              intro b' e'
              subst e'
              simp only [TVR,VR] at hv
              first
                | (cases hv; done)
                | (obtain ⟨_, hv, _⟩ := hv; cases hv; done)
                | (obtain ⟨_, _, hv⟩ := hv; cases hv; done)
                | (obtain ⟨_, _, _, _, hv⟩ := hv; cases hv; done)
                | (rename_i a _ _ _; cases a <;> simp only [SlR] at hv
                   · obtain ⟨_, _, _, hv⟩ := hv; cases hv
                   · obtain ⟨_, _, hv, _⟩ := hv; cases hv
                   · obtain ⟨_, _, _, _, _, hv⟩ := hv; cases hv)
            simp only [Option.some.injEq] at h
            subst h
            cases y <;> first | rfl | exact absurd rfl (hnb _)
        | lp s ver o =>
          rw [hx] at h hv
          obtain ⟨_, _, _, _, _, _, rfl, _⟩ := hv
          simpa using h
        | ls s ver o n =>
          rw [hx] at h hv
          obtain ⟨_, _, _, _, _, _, _, rfl, _⟩ := hv
          simpa using h
        | u =>
          rw [hx] at h hv
          simp only [TVR] at hv
          subst hv
          simpa [undef] using h
        | bad => rw [hx] at h; simp at h
      · have hgt : getT e d = .u := by simp [getT, List.getD, hlt]
        rw [hgt] at h
        have hn : t[d]? = none := by
          rw [Array.getElem?_eq_none_iff, <- he.1]
          exact Nat.not_lt.1 hlt
        rw [hn]
        simpa using h
end Go.Ev
namespace Go.Ev
variable [Good] {P : Program} {K : KM} {L : KL} {w : World}
theorem SB.put {base : Nat} {s : St} {a : Act} (h : SB base K L s a w) (d : Option Tmp) {v : TV} {y : Value} (hv : TVR K L v y) : SB base K L (s.put d v) (a.put d y) w :=
 ⟨h.env.putD d hv, h.mem, by rw [put_defers]; exact h.marks⟩
theorem SB.called {base : Nat} {s : St} {a : Act} (h : SB base K L s a w) {v : V} {h' : Heap} {y : Value} {w' : World} (d : Option Tmp)
  (hp : Post K w v h' (.returned y) w') : ∃ K', SB base K' L ({ s with h := h' }.put d (.v v)) (a.put d y) w' /\ Step K L w K' L w' := by
 obtain ⟨K', hv, hm, hst⟩ := hp
 obtain ⟨h1, h2⟩ := h.mem.join hst hm
 exact ⟨K', SB.put (s := { s with h := h' }) ⟨h.env.mono hst.kle (KL.le_refl L), h1, h.marks.step h2⟩ d hv, h2⟩
omit [Good] in
theorem callsIn_ro {ro : Option Nat} {n : Nat} {f : FuncId} {args : Array Value} {R : Ending -> World -> Prop} (h : CallsIn (FW none) n P f args w R) : CallsIn (FW ro) n P f args w R := h
omit [Good] in
theorem roundIn_ro {ro : Option Nat} {n : Nat} {l : Nat} {f : FuncId} {tmps : Array Value} {c d : Code} {R : Ending -> World -> Prop} (h : RoundIn (FW none) n P l f tmps c d w R) : RoundIn (FW ro) n P l f tmps c d w R := h
omit [Good] in
theorem exPure_no_defer {T : TypeId -> TI} {sl : Option Nat} {op : Op} {s : St} {r : TV × St} (h : exPure T sl op s = some r) : ∀ c, op ≠ .defer c := by
 intro c e
 subst e
 simp [exPure] at h
theorem exOp_ok (hT : TypesOk P) {X : Env} (hX : X.ty = tyOf P) {C : CallSem} (hS : Spec P C) {f : FuncId} {o : Oper} {s s' : St} (h : exOp X C f o s = some s')
  {base : Nat} {a : Act} (hs : SB base K L s a w) (ro : Option Nat) {next : Act -> World -> Prop} {Q : Exit -> Act -> World -> Prop}
  (hn : ∀ a' w' K' L', SB base K' L' s' a' w' -> Step K L w K' L' w' -> next a' w') : o.wpIn (FW ro) 0 P a w next Q := by
 unfold exOp at h
 refine ⟨fun _ _ => trivial, ?_⟩
 split at h
 ·rename_i g args at' ho
  have hnd : ∀ c, o.op ≠ .defer c := by intro c; rw [ho]; simp
  rw [Oper.semAt_eq _ _ _ hnd]
  split at h
  ·rename_i fv hfv
   obtain ⟨vs, hvs, h⟩ := bnd_some h
   obtain ⟨p, hp, h⟩ := bnd_some h
   cases h
   have hg := opd_ok hs.env g
   rw [hfv] at hg
   have hys : VRs K vs (args.toList.map a.eval) := by
    refine allV_ok (L := L) hvs (fun i x hx => ?_) (by simp)
    rw [List.getElem?_map] at hx ⊢
    cases hx' : args.toList[i]? with
    | none => rw [hx'] at hx; cases hx
    | some y =>
     rw [hx'] at hx
     cases hx
     exact ⟨a.eval y, rfl, opd_ok hs.env y⟩
   have hC := hS fv vs s.h p.1 p.2 hp K w hs.mem.drop
   cases fv with
   | fn g' cap =>
    obtain ⟨⟨fn, h1, h2, h3⟩, hcall⟩ := hC
    simp only [TVR,VR] at hg
    obtain ⟨cs, hg, hcs⟩ := hg
    have hc := hcall _ (hys.append hcs)
    have hrun : (execOp a.eval o).run P w = .ok (.enter g' (args.toList.map a.eval ++ cs.toList).toArray) w := by
     have e : (args.toList.map a.eval ++ cs.toList).toArray = args.map a.eval ++ cs := by
      apply Array.ext'; simp
     rw [e]
     simp [execOp, ho, resolve, Deferred.ofValue, hg, invoke, run_callFunc h1 h2 h3]
    rw [hrun, Oper.uponIn_enter]
    refine ⟨by simp [FW], CallsIn.mono (callsIn_ro hc) fun e w' he => ?_⟩
    cases e with
    | returned y =>
     obtain ⟨K', h4, h5⟩ := hs.called o.dst he
     exact hn _ _ _ _ h4 h5
    | panicked ch => exact he.elim
    | outgrown => exact he.elim
   | yld l =>
    simp only [TVR,VR] at hg
    obtain ⟨B, kl, t, hK, hg⟩ := hg
    have hlt : l < s.h.length := by rw [hs.mem.hr.1]; exact (List.getElem?_eq_some_iff.1 hK).1
    obtain ⟨e, he, hb⟩ := hs.mem.hr.2 l s.h[l] (by simp [hlt])
    rw [hK] at he; cases he
    obtain ⟨R, hR⟩ : ∃ R, w.heap[B]? = some (.loop R) := by
     generalize s.h[l] = x at hb
     cases x with
     | cells => obtain ⟨_, _, _, h, _⟩ := hb; cases h
     | map => obtain ⟨_, h, _⟩ := hb; cases h
     | loop r => obtain ⟨_, _, h, R, hR, _⟩ := hb; cases h; exact ⟨R, hR⟩
    obtain ⟨hsz, hround⟩ := hC B kl t R _ hK hR hys
    have hrun : (execOp a.eval o).run P w = .ok (.round B R.fn ((R.params.zip (args.toList.map a.eval).toArray).foldl (fun tmps (t, a) => tmps.setIfInBounds t a) R.tmps) R.assign R.body) w := by
     have e : (args.toList.map a.eval).toArray = args.map a.eval := by
      apply Array.ext'; simp
     rw [e]
     have := run_yield (P := P) (args := args.map a.eval) hR (by simpa using hsz)
     simp [execOp, ho, resolve, Deferred.ofValue, hg, invoke, this]
    rw [hrun, Oper.uponIn_round]
    refine ⟨by simp [FW], RoundIn.mono (roundIn_ro hround) fun e w' he => ?_⟩
    cases e with
    | returned y =>
     obtain ⟨K', h4, h5⟩ := hs.called o.dst he
     exact hn _ _ _ _ h4 h5
    | panicked ch => exact he.elim
    | outgrown => exact he.elim
   | _ => exact hC.elim
  ·cases h
 ·obtain ⟨r, hr, h⟩ := bnd_some h
  cases h
  rw [hX] at hr
  rw [Oper.semAt_eq _ _ _ (exPure_no_defer hr)]
  obtain ⟨n, y, w', K', L', h1, h2, h3, h4, h5, h6⟩ := exPure_ok hT hs.sr o hr
  have hsb : SB base K' L' (r.2.put o.dst r.1) (a.put o.dst y) w' :=
   SB.put ⟨by rw [h6]; exact hs.env.mono h5.kle h5.lle, h4, hs.marks.step h5⟩ o.dst h3
  rw [h1]
  rcases h2 with rfl | ⟨rfl, rfl⟩
  ·rw [Oper.uponIn_value]; exact hn _ _ _ _ hsb h5
  ·rw [Oper.uponIn_skip]; exact hn _ _ _ _ hsb h5
theorem exOps_ok (hT : TypesOk P) {X : Env} (hX : X.ty = tyOf P) {C : CallSem} (hS : Spec P C) {f : FuncId} {ops : List Oper} {base : Nat} (ro : Option Nat) {Q : Exit -> Act -> World -> Prop} :
  ∀ (l : List Oper) (s s' : St) (K : KM) (L : KL) (a : Act) (w : World), exOps X C f ops l s = some s' -> SB base K L s a w ->
   (∀ a' w' K' L', SB base K' L' s' a' w' -> Step K L w K' L' w' -> Q .normal a' w') -> wpListIn (FW ro) 0 P ops.toArray Q l a w
 | [], s, s', K, L, a, w, h, hs, hq => by
  simp only [exOps] at h
  cases h
  exact hq a w K L hs (Step.refl K L w)
 | o :: r, s, s', K, L, a, w, h, hs, hq => by
  simp only [exOps] at h
  obtain ⟨b, hb, h⟩ := bnd_some h
  obtain ⟨s1, h1, hR⟩ := bnd_some h
  have hwant := wanted_ok hb hs.env
  unfold wpListIn
  rw [hwant]
  rcases cnd_some h1 with ⟨rfl, h2⟩ | ⟨rfl, h2⟩
  ·simp only [if_true]
   exact exOp_ok hT hX hS h2 hs ro fun a' w' K' L' hs' hst => exOps_ok hT hX hS ro r s1 s' K' L' a' w' hR hs' fun a2 w2 K2 L2 hs2 hst2 => hq a2 w2 K2 L2 hs2 (hst.trans hst2)
  ·cases h2
   refine ⟨fun _ _ => trivial, ?_⟩
   exact exOps_ok hT hX hS ro r _ s' K L (a.put o.dst undef) w hR (hs.put o.dst (v := .u) rfl) hq
end Go.Ev
namespace Go.Ev
variable [Good] {P : Program} {K : KM} {L : KL} {w : World}
omit [Good] in
theorem IInv.turn (hi : IInv K L w) {K' : KM} {L' : KL} {w' : World} (τ : Owner -> Owner) (hτ : ∀ o o', τ o = τ o' -> o = o') (o0 : Owner) (B0 : Nat)
  (hown : ∀ o B, OwnBy K' L' o B -> OwnBy K L (τ o) B \/ (o = o0 /\ B = B0 /\ w.heap.size <= B0 /\ B0 < w'.heap.size)) (hsz : w.heap.size <= w'.heap.size)
  (hro : ∀ b g B S N : Nat, K'[b]? = some (.c g B S N false) -> K[b]? = some (.c g B S N false)) : IInv K' L' w' := by
 refine ⟨fun o o' B h1 h2 => ?_, fun o B h1 => ?_, fun b g B S N hb => ?_⟩
 ·rcases hown o B h1 with h1' | ⟨rfl, rfl, h3, h4⟩
  ·rcases hown o' B h2 with h2' | ⟨rfl, rfl, h3, h4⟩
   ·exact hτ _ _ (hi.inj _ _ _ h1' h2')
   ·have := hi.lt _ _ h1'; omega
  ·rcases hown o' B h2 with h2' | ⟨rfl, _⟩
   ·have := hi.lt _ _ h2'; omega
   ·rfl
 ·rcases hown o B h1 with h1' | ⟨rfl, rfl, h3, h4⟩
  ·exact Nat.lt_of_lt_of_le (hi.lt _ _ h1') hsz
  ·exact h4
 ·obtain ⟨h1, h2⟩ := hi.ro b g B S N (hro b g B S N hb)
  refine ⟨Nat.lt_of_lt_of_le h1 hsz, fun o ho => ?_⟩
  rcases hown o B ho with h3 | ⟨_, rfl, h4, _⟩
  ·exact h2 _ h3
  ·omega
omit [Good] in
theorem getElem?_snoc {α : Type} {l : List α} {x y : α} {i : Nat} (h : (l ++ [x])[i]? = some y) : l[i]? = some y \/ (i = l.length /\ y = x) := by
 rcases Nat.lt_trichotomy i l.length with h1 | h1 | h1
 ·rw [List.getElem?_append_left h1] at h; exact .inl h
 ·subst h1
  rw [List.getElem?_append_right (Nat.le_refl _)] at h
  simp at h
  exact .inr ⟨rfl, h.symm⟩
 ·rw [List.getElem?_append_right (by omega)] at h
  rw [List.getElem?_eq_none (by simp; omega)] at h
  cases h
def lay (n : Nat) : Owner -> Owner
 | .lloc b s => if b = n then .loc s else .lloc b s
 | .loc s => .lloc n s
 | o => o
omit [Good] in
theorem lay_inj (n : Nat) : ∀ o o', lay n o = lay n o' -> o = o' := by
 intro o o' h
 cases o <;> cases o' <;> simp only [lay] at h <;> (try split at h) <;> (try split at h) <;> simp_all
omit [Good] in
theorem laid_own {B0 : Nat} {o : Owner} {B : Nat} (h : OwnBy (K ++ [.l B0 L false]) [] o B) : OwnBy K L (lay K.length o) B \/ (o = .blk K.length /\ B = B0) := by
 cases o with
 | loc s => exact absurd h own_nil_loc
 | blk b =>
  rcases h with ⟨g, S, N, k, h1, h2⟩ | h1 | ⟨l, t, h1⟩
  ·rcases getElem?_snoc h1 with h3 | ⟨_, h3⟩
   ·exact .inl (.inl ⟨g, S, N, k, h3, h2⟩)
   ·cases h3
  ·rcases getElem?_snoc h1 with h3 | ⟨_, h3⟩
   ·exact .inl (.inr (.inl h3))
   ·cases h3
  ·rcases getElem?_snoc h1 with h3 | ⟨h4, h3⟩
   ·exact .inl (.inr (.inr ⟨l, t, h3⟩))
   ·cases h3; exact .inr ⟨by rw [h4], rfl⟩
 | lloc b s =>
  obtain ⟨B', l, ver, h1, h2, h3⟩ := h
  left
  rcases getElem?_snoc h1 with h4 | ⟨h4, h5⟩
  ·have hne : b ≠ K.length := by have := (List.getElem?_eq_some_iff.1 h4).1; omega
   simp only [lay,hne,if_false]
   exact ⟨B', l, ver, h4, h2, h3⟩
  ·cases h5
   simp only [lay,h4,if_true]
   exact ⟨ver, h2, h3⟩
structure Laid (w w1 : World) (B0 : Nat) (R : Loop) : Prop where
 lo : w.heap.size <= B0
 hi : B0 < w1.heap.size
 same : ∀ B, B < w.heap.size -> w1.heap[B]? = w.heap[B]?
 at0 : w1.heap[B0]? = some (.loop R)
 os : w1.os = w.os
 tape : w1.tape = w.tape
 output : w1.output = w.output
theorem Mem.laid {l : Locs} {h : Heap} (hm : Mem K L l h w) {w1 : World} {B0 : Nat} {r : LoopR} {R : Loop} (hw : Laid w w1 B0 R)
  (hr : LoopRel K L r R) (hl : r.l = l) (ht : r.lent = false) : Mem (K ++ [.l B0 L false]) [] [] (h ++ [.loop r]) w1 := by
 have hle : KM.le K (K ++ [.l B0 L false]) := KM.le_append K _
 have hsz : w.heap.size <= w1.heap.size := by have := hw.lo; have := hw.hi; omega
 refine ⟨⟨rfl, fun s ver c h => by simp at h⟩, ⟨by simp [hm.hr.1], fun b x hx => ?_⟩, ?_⟩
 ·rcases getElem?_snoc hx with h1 | ⟨h1, rfl⟩
  ·obtain ⟨e, he, hb⟩ := hm.hr.2 b x h1
   refine ⟨e, ?_, hb.keep hle fun B hB => hw.same B (hm.inv.uses he hB).2⟩
   rw [List.getElem?_append_left (List.getElem?_eq_some_iff.1 he).1]; exact he
  ·refine ⟨.l B0 L false, ?_, B0, L, by rw [ht], R, hw.at0, { hr with tmps := hr.tmps.mono hle (KL.le_refl L) }, fun _ => ?_⟩
   ·rw [h1, hm.hr.1, List.getElem?_append_right (Nat.le_refl _)]; simp
   ·rw [hl]
    exact hm.lr.keep hle fun s ver B hB hv => hw.same B (hm.inv.lt (.loc s) B ⟨ver, hB, hv⟩)
 ·refine hm.inv.turn (lay K.length) (lay_inj _) (.blk K.length) B0 (fun o B ho => ?_) hsz fun b g B S N hb => ?_
  ·rcases laid_own ho with h1 | ⟨h1, h2⟩
   ·exact .inl h1
   ·exact .inr ⟨h1, h2, hw.lo, hw.hi⟩
  ·rcases getElem?_snoc hb with h1 | ⟨_, h1⟩
   ·exact h1
   ·cases h1
omit [Good] in
theorem get_set {K : KM} {b : Nat} {e e' : KB} {i : Nat} {x : KB} (h : (K.set b e')[i]? = some x) (hb : K[b]? = some e) : (i = b /\ x = e') \/ (i ≠ b /\ K[i]? = some x) := by
 rw [List.getElem?_set] at h
 by_cases hi : b = i
 ·subst hi
  simp only [if_true,(List.getElem?_eq_some_iff.1 hb).1] at h
  cases h; exact .inl ⟨rfl, rfl⟩
 ·simp only [hi,if_false] at h
  exact .inr ⟨Ne.symm hi, h⟩
omit [Good] in
theorem set_get {K : KM} {b : Nat} {e e' : KB} (hb : K[b]? = some e) : (K.set b e')[b]? = some e' := by
 rw [List.getElem?_set]; simp [(List.getElem?_eq_some_iff.1 hb).1]
omit [Good] in
theorem set_ne {K : KM} {b i : Nat} {e' : KB} (h : i ≠ b) : (K.set b e')[i]? = K[i]? := by
 rw [List.getElem?_set]; simp [Ne.symm h]
omit [Good] in
theorem KM.le_loop {b B : Nat} {kl kl' : KL} {t t' : Bool} (hb : K[b]? = some (.l B kl t)) : KM.le K (K.set b (.l B kl' t')) :=
 KM.le_set K b _ _ hb ⟨kl', t', rfl⟩
omit [Good] in
theorem lent_own {b B0 : Nat} {kl : KL} {kl0 : KL} {t : Bool} (hb : K[b]? = some (.l B0 kl0 t)) {o : Owner} {B : Nat} (h : OwnBy (K.set b (.l B0 kl true)) kl o B) (h0 : t = false -> kl0 = kl) (ht : t = false) : OwnBy K [] (lay b o) B := by
 cases o with
 | loc s =>
  obtain ⟨ver, h1, h2⟩ := h
  rw [ht, h0 ht] at hb
  exact ⟨B0, kl, ver, hb, h1, h2⟩
 | blk b' =>
  rcases h with ⟨g, S, N, k, h1, h2⟩ | h1 | ⟨l, t', h1⟩
  ·rcases get_set h1 hb with ⟨_, h3⟩ | ⟨_, h3⟩
   ·cases h3
   ·exact .inl ⟨g, S, N, k, h3, h2⟩
  ·rcases get_set h1 hb with ⟨_, h3⟩ | ⟨_, h3⟩
   ·cases h3
   ·exact .inr (.inl h3)
  ·rcases get_set h1 hb with ⟨rfl, h3⟩ | ⟨_, h3⟩
   ·cases h3; exact .inr (.inr ⟨kl0, t, hb⟩)
   ·exact .inr (.inr ⟨l, t', h3⟩)
 | lloc b' s =>
  obtain ⟨B', l, ver, h1, h2, h3⟩ := h
  rcases get_set h1 hb with ⟨_, h4⟩ | ⟨hne, h4⟩
  ·cases h4
  ·simp only [lay,hne,if_false]
   exact ⟨B', l, ver, h4, h2, h3⟩
omit [Good] in
theorem ro_set {b B0 : Nat} {kl : KL} {t : Bool} {e : KB} (hb : K[b]? = some e) {i g B S N : Nat} (h : (K.set b (.l B0 kl t))[i]? = some (.c g B S N false)) : K[i]? = some (.c g B S N false) := by
 rcases get_set h hb with ⟨_, h1⟩ | ⟨_, h1⟩
 ·cases h1
 ·exact h1
theorem Mem.back {l : Locs} {h : Heap} (hm : Mem K L l h w) {w1 : World} {B0 : Nat} {R : Loop} (hw : Laid w w1 B0 R) {K' : KM} {h' : Heap} {w' : World}
  (hst : Step (K ++ [.l B0 L false]) [] w1 K' [] w') (hm' : Mem K' [] [] h' w') {r : LoopR} (hr : h'[K.length]? = some (.loop r)) (ht : r.lent = false) :
  ∃ kl R', K'[K.length]? = some (.l B0 kl false) /\ w'.heap[B0]? = some (.loop R') /\ LoopRel K' kl r R' /\
   Mem (K'.set K.length (.l B0 kl true)) kl r.l (h'.set K.length (.loop { r with state := 3, lent := true })) (w'.putObj B0 (.loop { R' with state := .exhausted })) /\
   Step K L w (K'.set K.length (.l B0 kl true)) kl (w'.putObj B0 (.loop { R' with state := .exhausted })) /\
   ∀ D, D < w1.heap.size -> D ≠ B0 -> (∀ o, ¬ OwnBy K L o D) -> (w'.putObj B0 (.loop { R' with state := .exhausted })).heap[D]? = w1.heap[D]? /\ ∀ o, ¬ OwnBy (K'.set K.length (.l B0 kl true)) kl o D := by
 obtain ⟨kl, hK, _, hkl⟩ := hst.loops K.length B0 L false (by simp)
 obtain ⟨e, he, hbr⟩ := hm'.hr.2 _ _ hr
 obtain ⟨B1, kl1, heq, R', hR', hrel, hlr⟩ := hbr
 rw [hK, heq] at he
 simp only [Option.some.injEq,KB.l.injEq] at he
 obtain ⟨rfl, rfl, _⟩ := he
 have hle : KM.le K' (K'.set K.length (.l B0 kl true)) := KM.le_loop hK
 have hB0 : B0 < w'.heap.size := (Array.getElem?_eq_some_iff.1 hR').1
 have hownB0 : OwnBy K' [] (.blk K.length) B0 := .inr (.inr ⟨kl, false, hK⟩)
 have hoth : ∀ B, B ≠ B0 -> (w'.putObj B0 (.loop { R' with state := .exhausted })).heap[B]? = w'.heap[B]? := fun B hB => World.putObj_heap_other hB
 have hw1sz : w.heap.size <= w1.heap.size := by have := hw.lo; have := hw.hi; omega
 refine ⟨kl, R', hK, hR', hrel, ⟨?_, ⟨by simp [hm'.hr.1], fun b x hx => ?_⟩, ?_⟩, ?_, ?_⟩
 ·refine (hlr ht).keep hle fun s ver B hB hv => hoth B fun e => ?_
  subst e
  have := hm'.inv.inj (.lloc K.length s) (.blk K.length) B ⟨B, kl, ver, hK, hB, hv⟩ hownB0
  cases this
 ·rw [List.getElem?_set] at hx
  by_cases hb : K.length = b
  ·subst hb
   simp only [if_true,(List.getElem?_eq_some_iff.1 hr).1] at hx
   cases hx
   refine ⟨_, set_get hK, B0, kl, rfl, _, World.putObj_heap_same hB0, ?_, fun h => by cases h⟩
   exact { hrel with state := rfl, tmps := hrel.tmps.mono hle (KL.le_refl kl) }
  ·simp only [hb,if_false] at hx
   obtain ⟨e, he, hbr⟩ := hm'.hr.2 b x hx
   refine ⟨e, by rw [set_ne (Ne.symm hb)]; exact he, hbr.keep hle fun B hB => hoth B fun e' => ?_⟩
   subst e'
   rcases (hm'.inv.uses he hB).1 _ hownB0 with h1 | ⟨s, h1⟩
   ·cases h1; exact hb rfl
   ·cases h1
 ·exact hm'.inv.turn (lay K.length) (lay_inj _) (.blk 0) w'.heap.size (fun o B ho => .inl (lent_own hK ho (fun _ => rfl) rfl)) (by simp) fun b g B S N hb => ro_set hK hb
 ·refine ⟨?_, hkl, ?_, fun B hB hn => ?_, fun o B ho => ?_, ?_, ?_, ?_, fun b g B S N hb => ?_, fun b B kl2 t hb => ?_⟩
  ·exact KM.le_trans (KM.le_trans (KM.le_append K _) hst.kle) hle
  ·have := hst.size; simp; omega
  ·rw [hoth B (by have := hw.lo; omega), hst.same B (by omega) (fun o ho => ?_), hw.same B hB]
   rcases laid_own ho with h1 | ⟨_, h1⟩
   ·exact hn _ h1
   ·have := hw.lo; omega
  ·rcases hst.own _ _ (lent_own hK ho (fun _ => rfl) rfl) with h1 | ⟨o', h1⟩
   ·exact .inl (by omega)
   ·rcases laid_own h1 with h2 | ⟨_, h2⟩
    ·exact .inr ⟨_, h2⟩
    ·exact .inl (by have := hw.lo; omega)
  ·exact hst.os.trans hw.os
  ·exact hst.tape.trans hw.tape
  ·exact hst.output.trans hw.output
  ·rcases hst.ros b g B S N (ro_set hK hb) with ⟨b1, g1, S1, N1, h1⟩ | h1 | ⟨o, h1⟩
   ·rcases getElem?_snoc h1 with h2 | ⟨_, h2⟩
    ·exact .inl ⟨b1, g1, S1, N1, h2⟩
    ·cases h2
   ·exact .inr (.inl (by omega))
   ·rcases laid_own h1 with h2 | ⟨_, h2⟩
    ·exact .inr (.inr ⟨_, h2⟩)
    ·exact .inr (.inl (by have := hw.lo; omega))
  ·have hlt : b < K.length := (List.getElem?_eq_some_iff.1 hb).1
   obtain ⟨k1, h1, h2, h3⟩ := hst.loops b B kl2 t (by rw [List.getElem?_append_left hlt]; exact hb)
   exact ⟨k1, by rw [set_ne (by omega)]; exact h1, h2, h3⟩
 ·intro D hD hne hno
  have hno1 : ∀ o, ¬ OwnBy (K ++ [.l B0 L false]) [] o D := fun o ho => by
   rcases laid_own ho with h1 | ⟨_, h1⟩
   ·exact hno _ h1
   ·exact hne h1
  refine ⟨(hoth D hne).trans (hst.same D hD hno1), fun o ho => ?_⟩
  rcases hst.own _ _ (lent_own hK ho (fun _ => rfl) rfl) with h1 | ⟨o', h1⟩
  ·omega
  ·exact hno1 _ h1
theorem Mem.lend {h : Heap} (hm : Mem K [] [] h w) {b : Nat} {r : LoopR} (hr : h[b]? = some (.loop r)) (ht : r.lent = false) {B0 : Nat} {kl : KL} {R : Loop}
  (hK : K[b]? = some (.l B0 kl false)) (hrel : LoopRel K kl r R) (hR : w.heap[B0]? = some (.loop R)) (hlr : LR K kl r.l w) :
  Mem (K.set b (.l B0 kl true)) kl r.l (h.set b (.loop { r with lent := true })) w := by
 have hle : KM.le K (K.set b (.l B0 kl true)) := KM.le_loop hK
 refine ⟨hlr.keep hle fun _ _ _ _ _ => rfl, ⟨by simp [hm.hr.1], fun b' x hx => ?_⟩, ?_⟩
 ·rw [List.getElem?_set] at hx
  by_cases hb : b = b'
  ·subst hb
   simp only [if_true,(List.getElem?_eq_some_iff.1 hr).1] at hx
   cases hx
   exact ⟨_, set_get hK, B0, kl, rfl, R, hR, { hrel with tmps := hrel.tmps.mono hle (KL.le_refl kl) }, fun h => by cases h⟩
  ·simp only [hb,if_false] at hx
   obtain ⟨e, he, hbr⟩ := hm.hr.2 b' x hx
   exact ⟨e, by rw [set_ne (Ne.symm hb)]; exact he, hbr.keep hle fun _ _ => rfl⟩
 ·exact hm.inv.turn (lay b) (lay_inj _) (.blk 0) w.heap.size (fun o B ho => .inl (lent_own hK ho (fun _ => rfl) rfl)) (Nat.le_refl _) fun i g B S N hb => ro_set hK hb
theorem Mem.state {l : Locs} {h : Heap} (hm : Mem K L l h w) {b : Nat} {r r' : LoopR} {R' : Loop} (hr : h[b]? = some (.loop r)) (ht : r'.lent = true) {B0 : Nat} {kl : KL}
  (hK : K[b]? = some (.l B0 kl true)) (hlt : B0 < w.heap.size) (hrel : LoopRel K kl r' R') :
  Mem K L l (h.set b (.loop r')) (w.putObj B0 (.loop R')) /\ Step K L w K L (w.putObj B0 (.loop R')) := by
 have hownB0 : OwnBy K L (.blk b) B0 := .inr (.inr ⟨kl, true, hK⟩)
 have hoth : ∀ B, B ≠ B0 -> (w.putObj B0 (.loop R')).heap[B]? = w.heap[B]? := fun B hB => World.putObj_heap_other hB
 refine ⟨⟨?_, ⟨by simp [hm.hr.1], fun b' x hx => ?_⟩, ?_⟩, ?_⟩
 ·refine hm.lr.keep (KM.le_refl K) fun s ver B hB hv => hoth B fun e => ?_
  subst e
  have := hm.inv.inj (.loc s) (.blk b) B ⟨ver, hB, hv⟩ hownB0
  cases this
 ·rw [List.getElem?_set] at hx
  by_cases hb : b = b'
  ·subst hb
   simp only [if_true,(List.getElem?_eq_some_iff.1 hr).1] at hx
   cases hx
   exact ⟨_, hK, B0, kl, by rw [ht], R', World.putObj_heap_same hlt, hrel, fun h => by rw [ht] at h; cases h⟩
  ·simp only [hb,if_false] at hx
   obtain ⟨e, he, hbr⟩ := hm.hr.2 b' x hx
   refine ⟨e, he, hbr.keep (KM.le_refl K) fun B hB => hoth B fun e' => ?_⟩
   subst e'
   rcases (hm.inv.uses he hB).1 _ hownB0 with h1 | ⟨s, h1⟩
   ·cases h1; exact hb rfl
   ·cases h1
 ·exact ⟨hm.inv.inj, fun o B ho => by simpa using hm.inv.lt o B ho, fun b g B S N hb => by simpa using hm.inv.ro b g B S N hb⟩
 ·refine ⟨KM.le_refl K, KL.le_refl L, by simp, fun B hB hn => hoth B fun e => hn (.blk b) (e ▸ hownB0), fun o B h => .inr ⟨o, h⟩, rfl, rfl, rfl, fun _ _ _ _ _ h => .inl ⟨_, _, _, _, h⟩, fun _ _ kl _ h => ⟨kl, h, fun _ => rfl, KL.le_refl kl⟩⟩
omit [Good] in
theorem unlend_own {b B0 : Nat} {kl : KL} (hb : K[b]? = some (.l B0 kl true)) {o : Owner} {B : Nat} (h : OwnBy (K.set b (.l B0 L false)) [] o B) : OwnBy K L (lay b o) B := by
 cases o with
 | loc s => exact absurd h own_nil_loc
 | blk b' =>
  rcases h with ⟨g, S, N, k, h1, h2⟩ | h1 | ⟨l, t', h1⟩
  ·rcases get_set h1 hb with ⟨_, h3⟩ | ⟨_, h3⟩
   ·cases h3
   ·exact .inl ⟨g, S, N, k, h3, h2⟩
  ·rcases get_set h1 hb with ⟨_, h3⟩ | ⟨_, h3⟩
   ·cases h3
   ·exact .inr (.inl h3)
  ·rcases get_set h1 hb with ⟨rfl, h3⟩ | ⟨_, h3⟩
   ·cases h3; exact .inr (.inr ⟨kl, true, hb⟩)
   ·exact .inr (.inr ⟨l, t', h3⟩)
 | lloc b' s =>
  obtain ⟨B', l, ver, h1, h2, h3⟩ := h
  rcases get_set h1 hb with ⟨h5, h4⟩ | ⟨hne, h4⟩
  ·cases h4
   simp only [lay,h5,if_true]
   exact ⟨ver, h2, h3⟩
  ·simp only [lay,hne,if_false]
   exact ⟨B', l, ver, h4, h2, h3⟩
theorem Mem.unlend {K0 : KM} {w0 : World} {b B0 : Nat} {kl : KL} (hK0 : K0[b]? = some (.l B0 kl false)) {K' : KM} {L' : KL} {l' : Locs} {h' : Heap} {w' : World}
  (hst : Step (K0.set b (.l B0 kl true)) kl w0 K' L' w') (hm' : Mem K' L' l' h' w') {r r' : LoopR} (hr : h'[b]? = some (.loop r)) {R' : Loop} (hrel : LoopRel K' L' r' R')
  (hl : r'.l = l') (ht : r'.lent = false) :
  Mem (K'.set b (.l B0 L' false)) [] [] (h'.set b (.loop r')) (w'.putObj B0 (.loop R')) /\ Step K0 [] w0 (K'.set b (.l B0 L' false)) [] (w'.putObj B0 (.loop R')) := by
 obtain ⟨kl1, hK, hkl1, _⟩ := hst.loops b B0 kl true (set_get hK0)
 have := hkl1 rfl
 subst this
 have hle : KM.le K' (K'.set b (.l B0 L' false)) := KM.le_loop hK
 have hownB0 : OwnBy K' L' (.blk b) B0 := .inr (.inr ⟨kl1, true, hK⟩)
 have hlt : B0 < w'.heap.size := hm'.inv.lt _ _ hownB0
 have hoth : ∀ B, B ≠ B0 -> (w'.putObj B0 (.loop R')).heap[B]? = w'.heap[B]? := fun B hB => World.putObj_heap_other hB
 have hlr : LR (K'.set b (.l B0 L' false)) L' l' (w'.putObj B0 (.loop R')) := by
  refine hm'.lr.keep hle fun s ver B hB hv => hoth B fun e => ?_
  subst e
  have := hm'.inv.inj (.loc s) (.blk b) B ⟨ver, hB, hv⟩ hownB0
  cases this
 refine ⟨⟨⟨rfl, fun s ver c h => by simp at h⟩, ⟨by simp [hm'.hr.1], fun b' x hx => ?_⟩, ?_⟩, ?_⟩
 ·rw [List.getElem?_set] at hx
  by_cases hb : b = b'
  ·subst hb
   simp only [if_true,(List.getElem?_eq_some_iff.1 hr).1] at hx
   cases hx
   exact ⟨_, set_get hK, B0, L', by rw [ht], R', World.putObj_heap_same hlt, { hrel with tmps := hrel.tmps.mono hle (KL.le_refl L') }, fun _ => by rw [hl]; exact hlr⟩
  ·simp only [hb,if_false] at hx
   obtain ⟨e, he, hbr⟩ := hm'.hr.2 b' x hx
   refine ⟨e, by rw [set_ne (Ne.symm hb)]; exact he, hbr.keep hle fun B hB => hoth B fun e' => ?_⟩
   subst e'
   rcases (hm'.inv.uses he hB).1 _ hownB0 with h1 | ⟨s, h1⟩
   ·cases h1; exact hb rfl
   ·cases h1
 ·exact hm'.inv.turn (lay b) (lay_inj _) (.blk 0) w'.heap.size (fun o B ho => .inl (unlend_own hK ho)) (by simp) fun i g B S N hb => ro_set hK hb
 ·refine ⟨?_, KL.le_refl [], ?_, fun B hB hn => ?_, fun o B ho => ?_, hst.os, hst.tape, hst.output, fun i g B S N hi => ?_, fun i B kl2 t hi => ?_⟩
  ·exact KM.le_trans (KM.le_trans (KM.le_loop hK0) hst.kle) hle
  ·simpa using hst.size
  ·rw [hoth B fun e => ?_, hst.same B hB fun o ho => hn _ (lent_own hK0 ho (fun _ => rfl) rfl)]
   subst e
   exact hn (.blk b) (.inr (.inr ⟨kl1, false, hK0⟩))
  ·rcases hst.own _ _ (unlend_own hK ho) with h1 | ⟨o', h1⟩
   ·exact .inl h1
   ·exact .inr ⟨_, lent_own hK0 h1 (fun _ => rfl) rfl⟩
  ·rcases hst.ros _ _ _ _ _ (ro_set hK hi) with ⟨b1, g1, S1, N1, h1⟩ | h1 | ⟨o, h1⟩
   ·exact .inl ⟨_, _, _, _, ro_set hK0 h1⟩
   ·exact .inr (.inl h1)
   ·exact .inr (.inr ⟨_, lent_own hK0 h1 (fun _ => rfl) rfl⟩)
  ·by_cases hb : i = b
   ·subst hb
    rw [hK0] at hi; cases hi
    exact ⟨L', set_get hK, fun h => by (cases h), hst.lle⟩
   ·obtain ⟨k2, h1, h2, h3⟩ := hst.loops i B kl2 t (by rw [set_ne hb]; exact hi)
    exact ⟨k2, by rw [set_ne hb]; exact h1, h2, h3⟩
end Go.Ev
namespace Go.Ev
variable [Good] {P : Program} {K : KM} {L : KL} {w : World}
def exitOf : Ex -> Exit
 | .normal => .normal
 | .exit id => .exit id
 | .ret => .ret
def CodeOk (D : Nat -> Array Oper -> Prop) : Code -> Prop
 | .region id ops draw => draw = true -> D id ops
 | .seq a b => CodeOk D a /\ CodeOk D b
 | .cond _ a b => CodeOk D a /\ CodeOk D b
 | .block _ c => CodeOk D c
 | .scope c => CodeOk D c
 | .loop c => CodeOk D c
 | .rangeFunc _ _ a b => CodeOk D a /\ CodeOk D b
 | _ => True
def DrawSpec (P : Program) (X : Env) (C : CallSem) (D : FuncId -> Nat -> Array Oper -> Prop) : Prop :=
 ∀ (f : FuncId) (id : Nat) (ops : Array Oper), D f id ops -> ∀ (base : Nat) (s s' : St), exPlan X C f ops.toList (X.plan f id) s = some s' ->
  ∀ (ro : Option Nat) (K : KM) (L : KL) (a : Act) (w : World), SB base K L s a w -> ∀ Q : Exit -> Act -> World -> Prop,
   (∀ a' w' K' L', SB base K' L' s' a' w' -> Step K L w K' L' w' -> Q .normal a' w') -> ∀ t, wpOpsIn (FW ro) 0 P ops Q (Region.schedule (P.follows .mixedOrders) ops t) a w
def LSpec (P : Program) (D : Nat -> Array Oper -> Prop) (Lp : LoopSem) : Prop :=
 ∀ (c : Code), CodeOk D c -> ∀ (base : Nat) (s s' : St) (x : Ex), Lp c s = some (x, s') -> ∀ (ro : Option Nat) (K : KM) (L : KL) (a : Act) (w : World), SB base K L s a w -> InR K ro -> base <= w.heap.size ->
  ∀ Q : Exit -> Act -> World -> Prop, (∀ a' w' K' L', SB base K' L' s' a' w' -> Step K L w K' L' w' -> Q (exitOf x) a' w') -> (Code.loop c).wpIn (FW ro) 0 P Q a w
theorem SB.drew {base : Nat} {s : St} {a : Act} (h : SB base K L s a w) : SB base K L s a w.drew /\ Step K L w K L w.drew :=
 let ⟨h1, h2⟩ := h.mem.drew; ⟨⟨h.env, h1, h.marks.step h2⟩, h2⟩
omit [Good] in
theorem heap_alloc (w : World) (o : Obj) (k : Nat) (h : k < w.heap.size) : (w.alloc o).heap[k]? = w.heap[k]? := by
 show (w.heap.push o)[k]? = _
 rw [Array.getElem?_push, if_neg (by omega)]
theorem enter_ok {base : Nat} {s : St} {a : Act} (hs : SB base K L s a w) {ro : Option Nat} (hro : InR K ro) (hbase : base <= w.heap.size) (fn : FuncId) (ps : Array Tmp) (assign body : Code) :
  ∃ l mark w1 R, (Instr.enterLoop fn a.tmps ps assign body ro).run P w = .ok (l, mark) w1 /\ Laid w w1 l R /\
   R.state = .ready /\ R.pending = none /\ R.params = ps /\ R.assign = assign /\ R.body = body /\ R.tmps = a.tmps /\
   (mark = [] \/ (mark = [{ target := .collected w.heap.size, args := #[] }] /\ w1.heap[w.heap.size]? = some (.deferred (some [])) /\ l ≠ w.heap.size)) := by
 cases ro with
 | none =>
  refine ⟨w.heap.size + 1, _, _, { state := .ready, pending := none, fn, tmps := a.tmps, params := ps, assign, body, defers := w.heap.size }, run_enterLoop_outer _ _ _ _ _, ⟨by omega, ?_, fun B hB => ?_, ?_, rfl, rfl, rfl⟩, rfl, rfl, rfl, rfl, rfl, rfl, .inr ⟨rfl, ?_, by omega⟩⟩
  ·rw [World.size_alloc, World.size_alloc]; omega
  ·rw [heap_alloc _ _ _ (by rw [World.size_alloc]; omega), heap_alloc _ _ _ hB]
  ·have := World.alloc_heap_new (w.alloc (.deferred (some []))) (.loop { state := .ready, pending := none, fn, tmps := a.tmps, params := ps, assign, body, defers := w.heap.size })
   rwa [World.size_alloc] at this
  ·rw [heap_alloc _ _ _ (by rw [World.size_alloc]; omega)]; exact World.alloc_heap_new _ _
 | some B =>
  obtain ⟨l, kl, t, hK⟩ := hro
  have hlt : l < s.h.length := by rw [hs.mem.hr.1]; exact (List.getElem?_eq_some_iff.1 hK).1
  obtain ⟨e, he, hb⟩ := hs.mem.hr.2 l s.h[l] (by simp [hlt])
  rw [hK] at he; cases he
  obtain ⟨R0, hR0⟩ : ∃ R, w.heap[B]? = some (.loop R) := by
   generalize s.h[l] = x at hb
   cases x with
   | cells => obtain ⟨_, _, _, h, _⟩ := hb; cases h
   | map => obtain ⟨_, h, _⟩ := hb; cases h
   | loop r => obtain ⟨_, _, h, R, hR, _⟩ := hb; cases h; exact ⟨R, hR⟩
  refine ⟨w.heap.size, _, _, { state := .ready, pending := none, fn, tmps := a.tmps, params := ps, assign, body, defers := R0.defers }, run_enterLoop_inner hR0 _ _ _ _ _, ⟨Nat.le_refl _, ?_, fun B hB => heap_alloc _ _ _ hB, World.alloc_heap_new _ _, rfl, rfl, rfl⟩, rfl, rfl, rfl, rfl, rfl, rfl, .inl rfl⟩
  rw [World.size_alloc]; omega
omit [Good] in
theorem endRF_some {R : Type} {k : Ex -> St -> Option R} {e : List TV} {l : Nat} {h : Heap} {v : R} (hh : endRF k e l h = some v) :
    ∃ r, h[l]? = some (.loop r) /\ r.state ≠ 1 /\ r.lent = false /\
      ((r.pending = none /\ k .normal ⟨e, r.l, h.set l (.loop { r with state := 3, lent := true })⟩ = some v) \/
       (r.pending = some .ret /\ k .ret ⟨e, r.l, h.set l (.loop { r with state := 3, lent := true })⟩ = some v) \/
       ∃ id, r.pending = some (.exit id) /\ k (.exit id) ⟨e, r.l, h.set l (.loop { r with state := 3, lent := true })⟩ = some v) := by
  unfold endRF at hh
  split at hh
  · rename_i r hr
    obtain ⟨⟨h1, h2⟩, hv⟩ := grd_some hh
    refine ⟨r, hr, h1, h2, ?_⟩
    split at hv
    · rename_i hp; exact .inl ⟨hp, hv⟩
    · rename_i hp; exact .inr (.inl ⟨hp, hv⟩)
    · rename_i id hp; exact .inr (.inr ⟨id, hp, hv⟩)
    · cases hv
  · cases hh
omit [Good] in
theorem stepR_scope {b : Frame} {a : Act} {k : List Item} {cs : List Frame} {w : World} {c : Code} : step P (lone (b.atR a (.code (.scope c) :: k)) cs w) = .next (lone (b.atR a (.code c :: .inScope c :: k)) cs w) :=
 step_lone_go (by simp [stepG, stepG.exec, Frame.atR])
omit [Good] in
theorem stepR_inScope {b : Frame} {a : Act} {k : List Item} {cs : List Frame} {w : World} {c : Code} : step P (lone (b.atR a (.inScope c :: k)) cs w) = .next (lone (b.atR a k) cs w) :=
 step_lone_go (by simp [stepG, stepG.exec, Frame.atR])
def noJump (Q : Exit -> Act -> World -> Prop) : Exit -> Act -> World -> Prop
 | .goto _, _, _ => False
 | e, a, w => Q e a w
omit [Good] in
theorem wpIn_scope {F : Fence} {n : Nat} {Q : Exit -> Act -> World -> Prop} {a : Act} {c : Code} (h : c.wpIn F n P (noJump Q) a w) : (Code.scope c).wpIn F n P Q a w := by
 intro b k cs hro hb hr
 have h0 : (lone (b.atR a (.code (.scope c) :: k)) cs w).fenced P F := fenced_calm hb hr rfl
 obtain ⟨e, a₁, w₁, hq, harr⟩ := h b (.inScope c :: k) cs hro hb hr
 cases e with
 | normal => exact ⟨.normal, a₁, w₁, hq, .head h0 stepR_scope (StepsIn.trans harr (.one (fenced_calm hb hr rfl) stepR_inScope))⟩
 | exit id' =>
  have hx : exitTo id' (.inScope c :: k) = exitTo id' k := by simp [exitTo]
  exact ⟨.exit id', a₁, w₁, hq, fun k' hk => .head h0 stepR_scope (harr.1 k' (by rw [hx]; exact hk)),
   fun hr' hk => let ⟨k₁, h1, h2⟩ := harr.2 hr' (by rw [hx]; exact hk); ⟨k₁, h1, .head h0 stepR_scope h2⟩⟩
 | goto l => exact hq.elim
 | ret => exact ⟨_, a₁, w₁, hq, .of_steps (.one h0 stepR_scope) harr⟩
 | panic ch => exact ⟨_, a₁, w₁, hq, .of_steps (.one h0 stepR_scope) harr⟩
 | outgrown => exact ⟨_, a₁, w₁, hq, .of_steps (.one h0 stepR_scope) harr⟩
theorem evC_ok (hT : TypesOk P) {X : Env} (hX : X.ty = tyOf P) {C : CallSem} (hS : Spec P C) {D : FuncId -> Nat -> Array Oper -> Prop} (hD : DrawSpec P X C D)
  (hG : ∀ f c, CodeOk (D f) c -> Good.ok f c) {f : FuncId} {Lp : LoopSem} (hL : LSpec P (D f) Lp) :
  ∀ (c : Code), CodeOk (D f) c -> ∀ {R : Type} (base : Nat) (s : St) (k : Ex -> St -> Option R) (r : R), evC X C Lp f c s k = some r ->
   ∀ (ro : Option Nat) (K : KM) (L : KL) (a : Act) (w : World), SB base K L s a w -> InR K ro -> base <= w.heap.size -> ∀ Q : Exit -> Act -> World -> Prop,
    (∀ x s' a' w' K' L', k x s' = some r -> SB base K' L' s' a' w' -> Step K L w K' L' w' -> Q (exitOf x) a' w') -> c.wpIn (FW ro) 0 P Q a w := by
 intro c
 induction c with
 | skip =>
  intro _ R base s k r h ro K L a w hs hro hb Q hq
  exact wpIn_skip (hq .normal s a w K L h hs (Step.refl K L w))
 | label l =>
  intro _ R base s k r h ro K L a w hs hro hb Q hq
  exact wpIn_label (hq .normal s a w K L h hs (Step.refl K L w))
 | exit id =>
  intro _ R base s k r h ro K L a w hs hro hb Q hq
  exact wpIn_exit (hq (.exit id) s a w K L h hs (Step.refl K L w))
 | ret =>
  intro _ R base s k r h ro K L a w hs hro hb Q hq
  exact wpIn_ret (hq .ret s a w K L h hs (Step.refl K L w))
 | goto l => intro _ R base s k r h; simp [evC] at h
 | refuse why => intro _ R base s k r h; simp [evC] at h
 | scope c ih =>
  intro hok R base s k r h ro K L a w hs hro hb Q hq
  simp only [evC] at h
  refine wpIn_scope (ih hok base s k r h ro K L a w hs hro hb _ fun x s' a' w' K' L' hk hs' hst => ?_)
  cases x <;> exact hq _ s' a' w' K' L' hk hs' hst
 | region id ops draw =>
  intro hok R base s k r h ro K L a w hs hro hb Q hq
  simp only [evC] at h
  cases draw with
  | true =>
   obtain ⟨s1, h1, hk⟩ := bnd_some (x := exPlan X C f ops.toList (X.plan f id) s) h
   obtain ⟨hs2, hst2⟩ := hs.drew
   exact wpIn_region_draw fun t => hD f id ops (hok rfl) base s s1 h1 ro K L a _ hs2 Q (fun a' w' K' L' hs' hst => hq .normal s1 a' w' K' L' hk hs' (hst2.trans hst)) t
  | false =>
   obtain ⟨s1, h1, hk⟩ := bnd_some (x := exOps X C f ops.toList ops.toList s) h
   refine wpIn_region_list ?_
   have := exOps_ok hT hX hS ro (Q := Q) ops.toList s s1 K L a w h1 hs fun a' w' K' L' hs' hst => hq .normal s1 a' w' K' L' hk hs' hst
   simpa using this
 | seq c d ihc ihd =>
  intro hok R base s k r h ro K L a w hs hro hb Q hq
  simp only [evC] at h
  refine wpIn_seq (ihc hok.1 base s _ r h ro K L a w hs hro hb _ fun x s' a' w' K' L' hk hs' hst => ?_)
  cases x with
  | normal => exact ihd hok.2 base s' k r hk ro K' L' a' w' hs' (hro.mono hst.kle) (Nat.le_trans hb hst.size) Q fun x2 s2 a2 w2 K2 L2 hk2 hs2 hst2 => hq x2 s2 a2 w2 K2 L2 hk2 hs2 (hst.trans hst2)
  | exit id => exact hq (.exit id) s' a' w' K' L' hk hs' hst
  | ret => exact hq .ret s' a' w' K' L' hk hs' hst
 | cond o c d ihc ihd =>
  intro hok R base s k r h ro K L a w hs hro hb Q hq
  simp only [evC] at h
  split at h
  ·rename_i b ho
   have hv := opd_ok hs.env o
   rw [ho] at hv
   have hv' : a.eval o = .bool b := by simpa only [TVR,VR] using hv
   rcases cnd_some h with ⟨rfl, h1⟩ | ⟨rfl, h1⟩
   ·exact wpIn_cond_true hv' (ihc hok.1 base s k r h1 ro K L a w hs hro hb Q hq)
   ·exact wpIn_cond_false hv' (ihd hok.2 base s k r h1 ro K L a w hs hro hb Q hq)
  ·cases h
 | block id c ih =>
  intro hok R base s k r h ro K L a w hs hro hb Q hq
  simp only [evC] at h
  refine wpIn_block (ih hok base s _ r h ro K L a w hs hro hb _ fun x s' a' w' K' L' hk hs' hst => ?_)
  cases x with
  | normal => exact hq .normal s' a' w' K' L' hk hs' hst
  | exit id' =>
   simp only [exitOf,Exit.inBlock]
   rcases cnd_some hk with ⟨h1, h2⟩ | ⟨h1, h2⟩
   ·have : id' = id := by simpa using h1
    simp only [this,if_true]
    exact hq .normal s' a' w' K' L' h2 hs' hst
   ·have : id' ≠ id := by simpa using h1
    simp only [this,if_false]
    exact hq (.exit id') s' a' w' K' L' h2 hs' hst
  | ret => exact hq .ret s' a' w' K' L' hk hs' hst
 | loop c ih =>
  intro hok R base s k r h ro K L a w hs hro hb Q hq
  simp only [evC] at h
  obtain ⟨p, hp, hk⟩ := bnd_some h
  exact hL c hok base s p.2 p.1 hp ro K L a w hs hro hb Q fun a' w' K' L' hs' hst => hq p.1 p.2 a' w' K' L' hk hs' hst
 | rangeFunc g ps assign body _ _ =>
  intro hok R base s k r h ro K L a w hs hro hb Q hq
  simp only [evC] at h
  split at h
  ·rename_i gf cap hg
   obtain ⟨p, hp, hk⟩ := bnd_some h
   obtain ⟨r1, hr1, hst1, hlent, hend⟩ := endRF_some hk
   have hgv := opd_ok hs.env g
   rw [hg] at hgv
   obtain ⟨cs, hge, hcs⟩ : ∃ cs, a.eval g = .func (.func gf) #[] cs /\ VRs K cap cs.toList := by simpa only [TVR,VR] using hgv
   refine wpIn_rangeFunc fun fn _ => ?_
   obtain ⟨l, mark, w1, R0, hrun, hlaid, e1, e2, e3, e4, e5, e6, hmark⟩ := enter_ok (P := P) hs hro hb fn ps assign body
   have hrel : LoopRel K L { state := 0, pending := none, fn := f, e := s.e, l := s.l, params := ps.toList, assign := assign, body := body, lent := false } R0 :=
    {state := e1, pending := e2, good := ⟨hG f assign hok.1, hG f body hok.2⟩, params := by simp [e3], assign := e4, body := e5, tmps := by rw [e6]; exact hs.env }
   have hm1 := hs.mem.laid hlaid hrel rfl rfl
   have hlen : s.h.length = K.length := hs.mem.hr.1
   obtain ⟨⟨fn', h1, h2, h3⟩, hcall⟩ := hS _ _ _ _ _ hp (K ++ [.l l L false]) w1 hm1
   have hKnew : (K ++ [KB.l l L false])[s.h.length]? = some (.l l L false) := by rw [hlen, List.getElem?_append_right (Nat.le_refl _)]; simp
   have hargs : VRs (K ++ [.l l L false]) ([.yld s.h.length] ++ cap) ([.func (.yield l) #[] #[]] ++ cs.toList) := by
    refine VRs.append ?_ (VRs.mono (KM.le_append K _) _ _ hcs)
    simp only [VRs,VR]
    exact ⟨_, _, rfl, ⟨l, L, false, hKnew, rfl⟩, rfl⟩
   have hc := hcall _ hargs
   refine ⟨l, mark, w1, { target := .fn (.func gf) cs, args := #[.func (.yield l) #[] #[]] }, w1, gf, #[.func (.yield l) #[] #[]] ++ cs, w1, hrun, ?_, fun _ _ => trivial, ?_, by simp [FW], ?_⟩
   ·simp only [resolve,hge]
    simp [Deferred.ofValue, go_sem]
   ·simp [invoke, run_callFunc h1 h2 h3]
   ·have earr : ([Value.func (.yield l) #[] #[]] ++ cs.toList).toArray = #[Value.func (.yield l) #[] #[]] ++ cs := by apply Array.ext'; simp
    rw [<- earr]
    refine CallsIn.mono (callsIn_ro hc) fun e w' he => ?_
    cases e with
    | panicked ch => exact he.elim
    | outgrown => exact he.elim
    | returned y =>
     obtain ⟨K', _, hm', hst⟩ := he
     rw [hlen] at hr1 hend
     obtain ⟨kl, R', hK', hR', hrel', hm2, hst2, hD2⟩ := hs.mem.back hlaid hst hm' hr1 hlent
     have hnb : R'.state ≠ .busy := by
      rw [hrel'.state]
      generalize r1.state = n at hst1
      match n, hst1 with
      | 0, _ => simp [stateOf]
      | 1, h => exact absurd rfl h
      | 2, _ => simp [stateOf]
      | n + 3, _ => simp [stateOf]
     have hsb : SB base (K'.set K.length (.l l kl true)) kl ⟨s.e, r1.l, p.2.set K.length (.loop { r1 with state := 3, lent := true })⟩ { a with defers := mark ++ a.defers } (w'.putObj l (.loop { R' with state := .exhausted })) := by
      refine ⟨hs.env.mono hst2.kle hst2.lle, hm2, ?_⟩
      have hmk := hs.marks.step hst2
      rcases hmark with rfl | ⟨rfl, hdef, hne⟩
      ·exact hmk
      ·obtain ⟨Ds, e, hnd, hDs⟩ := hs.marks
       obtain ⟨Ds', e', hnd', hDs'⟩ := hmk
       have : Ds' = Ds := by
        rw [e] at e'
        have := congrArg (List.map fun d : Deferred => match d.target with | .collected D => D | _ => 0) e'
        simpa [List.map_map, Function.comp_def] using this.symm
       subst this
       refine ⟨w.heap.size :: Ds', by simp [e], List.nodup_cons.2 ⟨fun hin => ?_, hnd⟩, fun D hDin => ?_⟩
       ·have := (hDs _ hin).2.1
        have := (Array.getElem?_eq_some_iff.1 this).1
        omega
       ·rcases List.mem_cons.1 hDin with rfl | hDin
        ·have hown : ∀ o, ¬ OwnBy K L o w.heap.size := fun o ho => by have := hs.mem.inv.lt _ _ ho; omega
         obtain ⟨h5, h6⟩ := hD2 w.heap.size (Array.getElem?_eq_some_iff.1 hdef).1 (Ne.symm hne) hown
         exact ⟨hb, h5.trans hdef, h6⟩
        ·exact hDs' D hDin
     have hrl := run_endLoop (P := P) hR' hnb
     obtain ⟨W, hW⟩ : ∃ W, w'.putObj l (.loop { R' with state := .exhausted }) = W := ⟨_, rfl⟩
     rw [hW] at hrl hsb hst2
     refine ⟨R'.pending, W, hrl, ?_⟩
     rcases hend with ⟨hp1, hk1⟩ | ⟨hp1, hk1⟩ | ⟨id, hp1, hk1⟩
     ·rw [hrel'.pending, hp1]
      exact hq .normal _ _ _ _ _ hk1 hsb hst2
     ·rw [hrel'.pending, hp1]
      exact wpIn_ret (hq .ret _ _ _ _ _ hk1 hsb hst2)
     ·rw [hrel'.pending, hp1]
      exact wpIn_exit (hq (.exit id) _ _ _ _ _ hk1 hsb hst2)
  ·cases h
theorem loopN_ok (hT : TypesOk P) {X : Env} (hX : X.ty = tyOf P) {C : CallSem} (hS : Spec P C) {D : FuncId -> Nat -> Array Oper -> Prop} (hD : DrawSpec P X C D)
    (hG : ∀ f c, CodeOk (D f) c -> Good.ok f c) (f : FuncId) (n : Nat) : LSpec P (D f) (loopN X C f n) := by
  have key : ∀ m (c : Code), CodeOk (D f) c -> ∀ (base : Nat) (s s' : St) (x : Ex), loopN X C f m c s = some (x, s') ->
        ∀ (ro : Option Nat) (K : KM) (L : KL) (a : Act) (w : World), SB base K L s a w -> InR K ro -> base <= w.heap.size ->
        ∀ Q : Exit -> Act -> World -> Prop, (∀ a' w' K' L', SB base K' L' s' a' w' -> Step K L w K' L' w' -> Q (exitOf x) a' w') -> Code.roundsIn (FW ro) 0 P c Q m a w := by
    intro m
    induction m with
    | zero => intro c _ base s s' x h; simp [loopN] at h
    | succ m ih =>
      intro c hok base s s' x h ro K L a w hs hro hb Q hq
      simp only [loopN,loopBody] at h
      have hLm : LSpec P (D f) (loopN X C f m) := fun c hok base s s' x h ro K L a w hs hro hb Q hq => wpIn_loop_rounds m (ih c hok base s s' x h ro K L a w hs hro hb Q hq)
      rw [roundsIn_succ]
      refine evC_ok hT hX hS hD hG hLm c hok base s _ (x, s') h ro K L a w hs hro hb _ fun x1 s1 a1 w1 K1 L1 hk hs1 hst1 => ?_
      cases x1 with
      | normal => exact ih c hok base s1 s' x hk ro K1 L1 a1 w1 hs1 (hro.mono hst1.kle) (Nat.le_trans hb hst1.size) Q fun a2 w2 K2 L2 hs2 hst2 => hq a2 w2 K2 L2 hs2 (hst1.trans hst2)
      | exit id => cases hk; exact hq a1 w1 K1 L1 hs1 hst1
      | ret => cases hk; exact hq a1 w1 K1 L1 hs1 hst1
  exact fun c hok base s s' x h ro K L a w hs hro hb Q hq => wpIn_loop_rounds n (key n c hok base s s' x h ro K L a w hs hro hb Q hq)
end Go.Ev
namespace Go.Ev
variable [Good] {P : Program} {K : KM} {L : KL} {w : World}
omit [Good] in
theorem setArgs_ok {ps : List Tmp} {vs : List V} {ys : List Value} : ∀ {e : List TV} {t : Array Value}, ER K L e t -> VRs K vs ys -> ER K L (setArgs e ps vs) ((ps.zip ys).foldl (fun t (p : Tmp × Value) => t.setIfInBounds p.1 p.2) t) := by
 induction ps generalizing vs ys with
 | nil => intro e t he _; simpa [setArgs] using he
 | cons p ps ih =>
  intro e t he hv
  cases vs with
  | nil =>
   simp only [VRs] at hv
   subst hv
   simpa [setArgs] using he
  | cons v vs =>
   simp only [VRs] at hv
   obtain ⟨y, ys', rfl, h1, h2⟩ := hv
   simp only [setArgs,List.zip_cons_cons,List.foldl_cons]
   exact ih (he.put p (v := .v v) h1) h2
omit [Good] in
theorem params_fold (ps : List Tmp) (ys : List Value) (t : Array Value) :
  ((ps.toArray.zip ys.toArray).foldl (fun tmps (x : Tmp × Value) => match x with | (t, a) => tmps.setIfInBounds t a) t) = (ps.zip ys).foldl (fun t (p : Tmp × Value) => t.setIfInBounds p.1 p.2) t := by
 simp
omit [Good] in
theorem beginRound_some {l : Nat} {s s' : St} (h : beginRound l s = some s') : ∃ r, s.h[l]? = some (.loop r) /\ r.state = 0 /\ s' = { s with h := s.h.set l (.loop { r with state := 1 }) } := by
 unfold beginRound at h
 split at h
 ·rename_i r hr
  obtain ⟨h1, h2⟩ := grd_some h
  cases h2
  exact ⟨r, hr, h1, rfl⟩
 ·cases h
theorem lent_rec {base : Nat} {s : St} {a : Act} (hs : SB base K L s a w) {b B : Nat} {kl : KL} (hK : K[b]? = some (.l B kl true)) {r : LoopR} (hr : s.h[b]? = some (.loop r)) :
  ∃ R, w.heap[B]? = some (.loop R) /\ LoopRel K kl r R /\ r.lent = true /\ B < w.heap.size := by
 obtain ⟨e, he, hb⟩ := hs.mem.hr.2 b _ hr
 obtain ⟨B1, kl1, heq, R, hR, hrel, _⟩ := hb
 rw [hK, heq] at he
 simp only [Option.some.injEq,KB.l.injEq] at he
 obtain ⟨rfl, rfl, h⟩ := he
 exact ⟨R, hR, hrel, h.symm, (Array.getElem?_eq_some_iff.1 hR).1⟩
theorem evRound_ok (hT : TypesOk P) {X : Env} (hX : X.ty = tyOf P) {C : CallSem} (hS : Spec P C) {D : FuncId -> Nat -> Array Oper -> Prop} (hD : DrawSpec P X C D)
  (hG : ∀ f c, Good.ok f c ↔ CodeOk (D f) c) {Lp : FuncId -> LoopSem} (hL : ∀ f, LSpec P (D f) (Lp f)) {l : Nat} {args : List V} {h : Heap} {v : V} {h' : Heap}
  (hev : evRound X C Lp l args h = some (v, h')) (hm : Mem K [] [] h w) : CallOk P K w (.yld l) args v h' := by
 unfold evRound at hev
 split at hev
 ·rename_i r hr
  obtain ⟨⟨hlen, hlent⟩, hev⟩ := grd_some hev
  intro B kl t R ys hK hR hys
  obtain ⟨e, he, hb⟩ := hm.hr.2 l _ hr
  obtain ⟨B1, kl1, heq, R1, hR1, hrel, hlr⟩ := hb
  rw [hK, heq] at he
  simp only [Option.some.injEq,KB.l.injEq] at he
  obtain ⟨rfl, rfl, ht⟩ := he
  rw [hR] at hR1
  cases hR1
  rw [hlent] at ht
  subst ht
  refine ⟨by rw [hys.length, hrel.params]; simpa using hlen, ?_⟩
  refine roundIn_of_wpIn (F := FW none) trivial ?_
  have hm1 := hm.lend hr hlent hK hrel hR (hlr hlent)
  have hle1 : KM.le K (K.set l (.l B kl true)) := KM.le_loop hK
  have hs1 : SB w.heap.size (K.set l (.l B kl true)) kl ⟨setArgs r.e r.params args, r.l, h.set l (.loop { r with lent := true })⟩
    {tmps := (R.params.zip ys.toArray).foldl (fun tmps (t, a) => tmps.setIfInBounds t a) R.tmps, defers := [] } w := by
   refine ⟨?_, hm1, ⟨[], rfl, List.nodup_nil, fun D hD => by cases hD⟩⟩
   rw [hrel.params]
   show ER _ _ _ ((r.params.toArray.zip ys.toArray).foldl _ R.tmps)
   rw [params_fold]
   exact setArgs_ok (hrel.tmps.mono hle1 (KL.le_refl kl)) (VRs.mono hle1 _ _ hys)
  have hIn : InR (K.set l (.l B kl true)) (some B) := ⟨l, kl, true, set_get hK⟩
  rw [hrel.assign, hrel.body]
  refine evC_ok hT hX hS hD (fun f c => (hG f c).2) (hL r.fn) r.assign ((hG _ _).1 hrel.good.1) w.heap.size _ _ (v, h') hev (some B) _ _ _ _ hs1 hIn (Nat.le_refl _) _ fun x s2 a2 w2 K2 L2 hk hs2 hst2 => ?_
  cases x with
  | exit id => cases hk
  | ret => cases hk
  | normal =>
   obtain ⟨s3, h3, hk3⟩ := bnd_some hk
   obtain ⟨r2, hr2, hst, rfl⟩ := beginRound_some h3
   obtain ⟨kl2, hK2, hkl2, _⟩ := hst2.loops l B kl true (set_get hK)
   have := hkl2 rfl
   subst this
   obtain ⟨R2, hR2, hrel2, hlent2, hlt2⟩ := lent_rec hs2 hK2 hr2
   have hready : R2.state = .ready := by rw [hrel2.state, hst]; rfl
   have hrel3 : LoopRel K2 kl2 { r2 with state := 1 } { R2 with state := .busy } := { hrel2 with state := rfl }
   obtain ⟨hm3, hst3⟩ := hs2.mem.state hr2 (r' := { r2 with state := 1 }) hlent2 hK2 hlt2 hrel3
   refine ⟨_, run_beginRound hR2 hready, ?_⟩
   have hs3 : SB w.heap.size K2 L2 { s2 with h := s2.h.set l (.loop { r2 with state := 1 }) } a2 (w2.putObj B (.loop { R2 with state := .busy })) :=
    ⟨hs2.env, hm3, hs2.marks.step hst3⟩
   have hst13 := hst2.trans hst3
   refine evC_ok hT hX hS hD (fun f c => (hG f c).2) (hL r.fn) r.body ((hG _ _).1 hrel.good.2) w.heap.size _ _ (v, h') hk3 (some B) K2 L2 a2 _ hs3 ⟨l, kl2, true, hK2⟩ hst13.size _ fun x s4 a4 w4 K4 L4 hk4 hs4 hst4 => ?_
   have hst14 := hst13.trans hst4
   unfold endRound at hk4
   split at hk4
   ·rename_i r4 hr4
    obtain ⟨kl4, hK4, hkl4, _⟩ := hst4.loops l B kl2 true hK2
    have := hkl4 rfl
    subst this
    obtain ⟨R4, hR4, hrel4, hlent4, hlt4⟩ := lent_rec hs4 hK4 hr4
    have htm : ER K4 L4 r4.e R4.tmps := hrel4.tmps.mono (KM.le_refl _) hst14.lle
    have fin : ∀ (n : Nat) (jump : Option Code), stateOf n = (if jump.isNone then .ready else .done) ->
      some (V.bool jump.isNone, s4.h.set l (.loop { r4 with state := n, pending := jump, l := s4.l, lent := false })) = some (v, h') ->
      ∃ v' w', (Instr.endRound B jump).run P w4 = .ok v' w' /\ Post K w v h' (.returned v') w' := by
     intro n jump hn heq
     cases heq
     have hrel5 : LoopRel K4 L4 { r4 with state := n, pending := jump, l := s4.l, lent := false } { R4 with state := if jump.isNone then .ready else .done, pending := jump } :=
      {state := hn.symm, pending := rfl, good := hrel4.good, params := hrel4.params, assign := hrel4.assign, body := hrel4.body, tmps := htm }
     obtain ⟨hm5, hst5⟩ := Mem.unlend hK hst14 hs4.mem hr4 hrel5 rfl rfl
     exact ⟨_, _, run_endRound jump hR4, _, by simp [VR], hm5, hst5⟩
    cases x with
    | normal => exact fin 0 none rfl hk4
    | ret => exact fin 2 (some .ret) rfl hk4
    | exit id => exact fin 2 (some (.exit id)) rfl hk4
   ·cases hk4
 ·cases hev
omit [Good] in
theorem run_cell {t : TypeId} {xv y : Value} (h : (Instr.loadAt t xv).run P w = .ok y w) : (do loadVar t (<- asAddr xv) : Sem Value).run P w = .ok y w := by
 cases xv with
 | pointer p =>
  cases p with
  | none => simp [Instr.loadAt, Instr.sureAddr, stuck, Sem.run] at h
  | some a => simpa [Instr.loadAt, Instr.sureAddr, asAddr] using h
 | _ => simp [Instr.loadAt, Instr.sureAddr, stuck, Sem.run] at h
def resM (tmps : Array Value) : ResultVar -> Sem Value
 | .tmp t => pure (tmps.getD t undef)
 | .cell a t => do loadVar t (<- asAddr (tmps.getD a undef))
omit [Good] in
theorem results_eq (fn : Func) (tmps : Array Value) : Go.results fn tmps = (do let vs <- fn.results.mapM (resM tmps); pure (if h : vs.size = 1 then vs[0] else .tuple vs)) := rfl
theorem results_list {X : Env} (hX : X.ty = tyOf P) {s : St} {tmps : Array Value} (he : ER K L s.e tmps) (hm : Mem K L s.l s.h w) :
  ∀ (rs : List ResultVar) (vs : List V), results X s rs = some vs -> ∃ ys, (rs.mapM (resM tmps)).run P w = .ok ys w /\ VRs K vs ys
 | [], vs, h => by
  simp only [results] at h
  cases h
  exact ⟨[], by simp, rfl⟩
 | .tmp t :: rs, vs, h => by
  simp only [results] at h
  split at h
  ·rename_i x hx
   obtain ⟨l, hl, hR⟩ := bnd_some h
   cases hR
   obtain ⟨ys, h1, h2⟩ := results_list hX he hm rs l hl
   have hv : VR K x (tmps.getD t undef) := by
    by_cases hlt : t < s.e.length
    ·obtain ⟨y, hy, hv⟩ := he.2 t s.e[t] (by simp [hlt])
     have hgt : getT s.e t = s.e[t] := by simp [getT, List.getD, hlt]
     rw [<- hgt, hx] at hv
     have : tmps.getD t undef = y := by simp [Array.getD_eq_getD_getElem?, hy]
     rw [this]; exact hv
    ·have hgt : getT s.e t = .u := by simp [getT, List.getD, hlt]
     rw [hgt] at hx; cases hx
   refine ⟨tmps.getD t undef :: ys, ?_, by simp only [VRs]; exact ⟨_, _, rfl, hv, h2⟩⟩
   simp only [List.mapM_cons,resM,Sem.run_bind,Sem.run_pure,Result.andThen]
   rw [h1]
  ·cases h
 | .cell a t :: rs, vs, h => by
  simp only [results] at h
  obtain ⟨x, hx, h'⟩ := bnd_some h
  obtain ⟨l, hl, hR⟩ := bnd_some h'
  cases hR
  obtain ⟨ys, h1, h2⟩ := results_list hX he hm rs l hl
  rw [hX] at hx
  have ht : TVR K L (getT s.e a) (tmps.getD a undef) := by
   by_cases hlt : a < s.e.length
   ·obtain ⟨y, hy, hv⟩ := he.2 a s.e[a] (by simp [hlt])
    have hgt : getT s.e a = s.e[a] := by simp [getT, List.getD, hlt]
    have : tmps.getD a undef = y := by simp [Array.getD_eq_getD_getElem?, hy]
    rw [this, hgt]; exact hv
   ·have hgt : getT s.e a = .u := by simp [getT, List.getD, hlt]
    rw [hgt] at hx
    simp [load] at hx
  obtain ⟨y, hy, hv⟩ := load_ok (P := P) hx ht hm
  refine ⟨y :: ys, ?_, by simp only [VRs]; exact ⟨_, _, rfl, hv, h2⟩⟩
  have := run_cell hy
  simp only [List.mapM_cons,resM,Sem.run_bind,Sem.run_pure,Result.andThen] at this ⊢
  rw [this]
  simp only [h1]
omit [Good] in
theorem resV_ok {vs : List V} {ys : List Value} (h : VRs K vs ys) : VR K (resV vs) (if h : ys.toArray.size = 1 then ys.toArray[0] else .tuple ys.toArray) := by
 match vs, ys, h with
 | [], ys, h =>
  simp only [VRs] at h
  subst h
  simp [resV, VR, VRs]
 | [v], ys, h =>
  simp only [VRs] at h
  obtain ⟨y, _, rfl, h1, rfl⟩ := h
  simpa [resV] using h1
 | v :: u :: vs, ys, h =>
  have hl := h.length
  have hne : ¬ ys.toArray.size = 1 := by simp [hl]
  rw [dif_neg hne]
  simp only [resV,VR]
  exact ⟨_, rfl, by simpa using h⟩
omit [Good] in
theorem run_results {fn : Func} {tmps : Array Value} {ys : List Value} {rs : List ResultVar} (hr : fn.results.toList = rs)
  (h : (rs.mapM (resM tmps)).run P w = .ok ys w) :
  (Go.results fn tmps).run P w = .ok (if h : ys.toArray.size = 1 then ys.toArray[0] else .tuple ys.toArray) w := by
 rw [results_eq]
 subst hr
 rw [Array.mapM_eq_mapM_toList]
 simp only [Sem.run_bind,Sem.run_map,h,Result.andThen,Sem.run_pure]
omit [Good] in
theorem leaves_ok {fn : Func} {tmps : Array Value} {R : Ending -> World -> Prop} : ∀ (Ds : List Nat) (w : World), (∀ D ∈ Ds, w.heap[D]? = some (.deferred (some []))) -> Ds.Nodup ->
  (∀ w', w'.heap.size = w.heap.size -> (∀ B, B ∉ Ds -> w'.heap[B]? = w.heap[B]?) -> w'.os = w.os -> w'.tape = w.tape -> w'.output = w.output -> LeavesIn (FW none) 0 P fn tmps R [] .returning w') ->
  LeavesInM (FW none) 0 P fn tmps R (Ds.map fun D => { target := .collected D, args := #[] }) .returning w
 | [], w, _, _, h => h w rfl (fun _ _ => rfl) rfl rfl rfl
 | D :: Ds, w, hd, hn, h => by
  obtain ⟨hn1, hn2⟩ := List.nodup_cons.1 hn
  refine ⟨by simp, .inl ⟨D, _, rfl, run_takeDeferred (hd D (by simp)), ?_⟩⟩
  refine leaves_ok Ds _ (fun D' hD' => ?_) hn2 fun w' h1 h2 h3 h4 h5 => ?_
  ·have hne : D' ≠ D := fun e => hn1 (e ▸ hD')
   rw [World.putObj_heap_other hne]
   exact hd D' (by simp [hD'])
  ·refine h w' (by simpa using h1) (fun B hB => ?_) h3 h4 h5
   rw [h2 B fun hB' => hB (by simp [hB']), World.putObj_heap_other fun e => hB (by simp [e])]
def FuncsOk (P : Program) : Prop := ∀ (f : FuncId) (fn : Func), P.funcs[f]? = some fn -> fn.body.isSome = true -> (fn.name == "runtime.NumGoroutine") = false
theorem evBody_ok (hT : TypesOk P) (hF : FuncsOk P) {X : Env} (hX : X.ty = tyOf P) (hXb : X.body = bodyOf P) {C : CallSem} (hS : Spec P C) {D : FuncId -> Nat -> Array Oper -> Prop} (hD : DrawSpec P X C D)
  (hB : ∀ f b, bodyOf P f = some b -> CodeOk (D f) b.1) (hG : ∀ f c, Good.ok f c ↔ CodeOk (D f) c) {Lp : FuncId -> LoopSem} (hL : ∀ f, LSpec P (D f) (Lp f)) {f : FuncId} {cap args : List V} {h : Heap} {v : V} {h' : Heap}
  (hev : evBody X C Lp f (args ++ cap) h = some (v, h')) (hm : Mem K [] [] h w) : CallOk P K w (.fn f cap) args v h' := by
 unfold evBody at hev
 split at hev
 ·rename_i b hb
  rw [hXb] at hb
  have hok := hB f b hb
  obtain ⟨fn, c, hfn, hc, rfl⟩ : ∃ fn c, P.funcs[f]? = some fn /\ fn.body = some c /\ b = (c, fn.ntmps, fn.results.toList) := by
   unfold bodyOf at hb
   split at hb
   ·rename_i fn hfn
    split at hb
    ·rename_i c hc
     cases hb; exact ⟨fn, c, hfn, hc, rfl⟩
    ·cases hb
   ·cases hb
  refine ⟨⟨fn, hfn, by simp [hc], hF f fn hfn (by simp [hc])⟩, fun ys hys => ?_⟩
  refine callsIn_of_wp_marks hfn hc trivial ?_
  have hno : ∀ o B, OwnBy K (List.replicate (X.nslots f) (0, 0)) o B -> OwnBy K [] o B := by
   intro o B ho
   cases o with
   | loc s =>
    obtain ⟨ver, h1, h2⟩ := ho
    rw [List.getElem?_replicate] at h1
    split at h1
    ·cases h1; omega
    ·cases h1
   | blk b => exact ho
   | lloc b s => exact ho
  have hm0 : Mem K (List.replicate (X.nslots f) (0, 0)) (List.replicate (X.nslots f) (0, [])) h w := by
   refine ⟨⟨by simp, fun s ver c hsc => ?_⟩, hm.hr, ⟨fun o o' B h1 h2 => hm.inv.inj o o' B (hno o B h1) (hno o' B h2), fun o B h1 => hm.inv.lt o B (hno o B h1), fun b g B S N hb => ⟨(hm.inv.ro b g B S N hb).1, fun o ho => (hm.inv.ro b g B S N hb).2 o (hno o B ho)⟩⟩⟩
   rw [List.getElem?_replicate] at hsc
   split at hsc
   ·rename_i hlt
    cases hsc
    exact ⟨0, by rw [List.getElem?_replicate, if_pos hlt], fun h => absurd h (by omega)⟩
   ·cases hsc
  have hs0 : SB w.heap.size K (List.replicate (X.nslots f) (0, 0)) ⟨(args ++ cap).map .v ++ List.replicate (fn.ntmps - (args ++ cap).length) .u, List.replicate (X.nslots f) (0, []), h⟩
    {tmps := ys.toArray ++ Array.replicate (fn.ntmps - ys.toArray.size) undef, defers := [] } w := by
   refine ⟨⟨by simp [hys.length]; omega, fun i x hx => ?_⟩, hm0, ⟨[], rfl, List.nodup_nil, fun D hD => by cases hD⟩⟩
   have hl := hys.length
   rcases Nat.lt_or_ge i (args ++ cap).length with hi | hi
   ·rw [List.getElem?_append_left (by simpa using hi), List.getElem?_map] at hx
    cases hv : (args ++ cap)[i]? with
    | none => rw [hv] at hx; cases hx
    | some u =>
     rw [hv] at hx
     cases hx
     obtain ⟨y, hy, h2⟩ := hys.get i u hv
     refine ⟨y, ?_, h2⟩
     show (ys.toArray ++ Array.replicate (fn.ntmps - ys.toArray.size) undef)[i]? = some y
     rw [Array.getElem?_append_left (by simp [hl]; simpa using hi)]
     simpa using hy
   ·rw [List.getElem?_append_right (by simpa using hi), List.getElem?_replicate] at hx
    split at hx
    ·rename_i hlt
     cases hx
     refine ⟨undef, ?_, rfl⟩
     have hsz : ys.toArray.size = (args ++ cap).length := by simp [hl]
     show (ys.toArray ++ Array.replicate (fn.ntmps - ys.toArray.size) undef)[i]? = some undef
     rw [Array.getElem?_append_right (by rw [hsz]; exact hi), hsz, Array.getElem?_replicate]
     simp only [List.length_map] at hlt
     rw [if_pos hlt]
    ·cases hx
  have hq : ∀ x s' a' w' K' L', (match x with | Ex.exit _ => none | _ => bnd (results X s' fn.results.toList) fun vs => some (resV vs, s'.h)) = some (v, h') -> SB w.heap.size K' L' s' a' w' ->
    Step K (List.replicate (X.nslots f) (0, 0)) w K' L' w' -> (∀ id, x ≠ Ex.exit id) -> LeavesInM (FW none) 0 P fn a'.tmps (Post K w v h') a'.defers .returning w' := by
   intro x s' a' w' K' L' hk hs' hst hx
   obtain ⟨vs, hvs, hk⟩ : ∃ vs, results X s' fn.results.toList = some vs /\ some (resV vs, s'.h) = some (v, h') := by
    cases x with
    | exit id => exact absurd rfl (hx id)
    | normal => exact bnd_some hk
    | ret => exact bnd_some hk
   cases hk
   obtain ⟨Ds, hds, hnd, hDs⟩ := hs'.marks
   rw [hds]
   refine leaves_ok Ds w' (fun D hD => (hDs D hD).2.1) hnd fun w2 h1 h2 h3 h4 h5 => ?_
   have hm2 : Mem K' L' s'.l s'.h w2 := hs'.mem.keep (Nat.le_of_eq h1.symm) fun B hB hd => h2 B fun hin => hd _ (hDs B hin).2.1
   obtain ⟨zs, h6, h7⟩ := results_list hX hs'.env hm2 _ _ hvs
   refine ⟨_, run_results rfl h6, K', resV_ok h7, hm2.drop, ?_⟩
   refine ⟨hst.kle, KL.le_refl [], by rw [h1]; exact hst.size, fun B hB hn => ?_, fun o B ho => ?_, h3.trans hst.os, h4.trans hst.tape, h5.trans hst.output, fun b g B S N hb => (hst.ros b g B S N hb).imp id fun h8 => h8.imp id fun ⟨o', h9⟩ => ⟨o', hno o' B h9⟩, hst.loops⟩
   ·rw [h2 B fun hin => by have := (hDs B hin).1; omega]
    exact hst.same B hB fun o ho => hn o (hno o B ho)
   ·exact (hst.own o B (own_nil ho L')).imp id fun ⟨o', h8⟩ => ⟨o', hno o' B h8⟩
  refine evC_ok hT hX hS hD (fun f c => (hG f c).2) (hL f) c hok w.heap.size _ _ (v, h') hev none K _ _ w hs0 trivial (Nat.le_refl _) _ fun x s' a' w' K' L' hk hs' hst => ?_
  cases x with
  | exit id => cases hk
  | normal => exact hq .normal s' a' w' K' L' hk hs' hst (by simp)
  | ret => exact hq .ret s' a' w' K' L' hk hs' hst (by simp)
 ·cases hev
def PinOk (P : Program) (f : FuncId) (p : Pin) : Prop := ∀ (K : KM) (w : World) (args : List V) (h : Heap) (v : V) (h' : Heap), pinRun p args h = some (v, h') -> Mem K [] [] h w -> CallOk P K w (.fn f []) args v h'
theorem callN_ok (hT : TypesOk P) (hF : FuncsOk P) {X : Env} (hX : X.ty = tyOf P) (hXb : X.body = bodyOf P) {D : FuncId -> Nat -> Array Oper -> Prop} (hD : ∀ C, Spec P C -> DrawSpec P X C D)
  (hB : ∀ f b, bodyOf P f = some b -> CodeOk (D f) b.1) (hG : ∀ f c, Good.ok f c ↔ CodeOk (D f) c)
  (hP : ∀ f p, X.pin f = some p -> PinOk P f p) : ∀ n, Spec P (callN X n)
 | 0 => fun fv args h v h' hc => by simp [callN] at hc
 | n + 1 => by
  intro fv args h v h' hc K w hm
  have ih := callN_ok hT hF hX hXb hD hB hG hP n
  have hL : ∀ f, LSpec P (D f) (loopN X (callN X n) f n) := fun f => loopN_ok hT hX ih (hD _ ih) (fun f c => (hG f c).2) f n
  simp only [callN,callBody] at hc
  split at hc
  ·split at hc
   ·rename_i p hb
    split at hc
    ·exact hP _ _ hb K w _ _ _ _ hc hm
    ·cases hc
   ·exact evBody_ok hT hF hX hXb ih (hD _ ih) hB hG hL hc hm
  ·exact evRound_ok hT hX ih (hD _ ih) hG hL hc hm
  ·cases hc
end Go.Ev
namespace Go.Ev
variable {X : Env} {C : CallSem} {f : FuncId} {ops : Array Oper}
def GoodRun (X : Env) (C : CallSem) (f : FuncId) (ops : Array Oper) : List PE -> St -> St -> Prop
 | [], s, s' => s' = s
 | p :: r, s, s' => ∃ o s1, ops[p.1]? = some o /\ Eff X C f ops o p.2.1 s s1 /\ (∀ j ∈ p.2.2, again X ops.toList s1 j = true) /\ GoodRun X C f ops r s1 s'
theorem exPlan_good : ∀ (π : List PE) (s s' : St), exPlan X C f ops.toList π s = some s' -> GoodRun X C f ops π s s'
 | [], s, s', h => by simp only [exPlan] at h; cases h; rfl
 | p :: r, s, s', h => by
  simp only [exPlan] at h
  split at h
  ·rename_i o ho
   obtain ⟨wt, hw, h1⟩ := bnd_some' h
   obtain ⟨s1, hs1, h2⟩ := bnd_some' h1
   have ho' : ops[p.1]? = some o := by simpa using ho
   have h3 : p.2.2.all (again X ops.toList s1) = true /\ exPlan X C f ops.toList r s1 = some s' := by
    cases hb : p.2.2.all (again X ops.toList s1) with
    | true => rw [hb] at h2; exact ⟨rfl, h2⟩
    | false => rw [hb] at h2; cases h2
   refine ⟨o, s1, ho', ?_, fun j hj => List.all_eq_true.1 h3.1 j hj, exPlan_good r s1 s' h3.2⟩
   cases wt with
   | false => injection hs1 with hs1; exact .inl ⟨hw, hs1.symm⟩
   | true =>
    refine .inr ⟨hw, ?_⟩
    cases hl : leadsT s.e p.2.1 o.op.operands.toList with
    | true => rw [hl] at hs1; exact ⟨rfl, hs1⟩
    | false => rw [hl] at hs1; cases hs1
  ·cases h
def Still (X : Env) (f : FuncId) (ops : Array Oper) (j : Nat × List Nat) (o : Oper) : Prop :=
 ∀ oj, ops[j.1]? = some oj -> (∀ d, o.dst = some d -> d ∉ Oper.looksAt ops oj /\ oj.dst ≠ some d) /\ ∀ k, cls X f o = .S k -> j.2.elem k = false
theorem again_put {j : Nat × List Nat} {o : Oper} {s : St} {v : TV} (hst : Still X f ops j o) : again X ops.toList (s.put o.dst v) j = again X ops.toList s j := by
 unfold again
 cases hj : ops.toList[j.1]? with
 | none => rfl
 | some oj =>
  have hj' : ops[j.1]? = some oj := by simpa using hj
  obtain ⟨h1, _⟩ := hst oj hj'
  have hag : Agree ops oj s.e (s.put o.dst v).e := agree_put fun d hd => (h1 d hd).1
  simp only
  rw [hag.2, leadsT_e hag.1, rdV_we X.ty oj.op s (s.put o.dst v) rfl rfl hag.1]
  split
  ·congr 1
   split
   ·split
    ·rename_i d hd
     have hg : getT (s.put o.dst v).e d = getT s.e d := getT_setT fun t ht htd => (h1 t ht).2 (by rw [hd, htd])
     rw [hg]
    ·rfl
   ·rfl
  ·rfl
  ·rfl
theorem again_l {j : Nat × List Nat} {s : St} {k : Nat} {y : Nat × List V} (hk : j.2.elem k = false) : again X ops.toList ({ s with l := s.l.set k y } : St) j = again X ops.toList s j := by
 unfold again
 dsimp only
 cases ops.toList[j.1]? with
 | none => rfl
 | some oj =>
  dsimp only
  cases wantedT ops.toList s.e oj.guard with
  | none => rfl
  | some wt =>
   cases wt with
   | false => rfl
   | true =>
    dsimp only
    cases hl : leadsT s.e j.2 oj.op.operands.toList with
    | false => rfl
    | true => rw [rdV_l hl hk]
theorem again_eff {j : Nat × List Nat} {o : Oper} {sl : List Nat} {s s' : St} (h : Eff X C f ops o sl s s') (hst : Still X f ops j o) (hoj : ∃ oj, ops[j.1]? = some oj)
  (hc : wantedT ops.toList s.e o.guard = some false \/ (cls X f o ≠ .C /\ cls X f o ≠ .H)) : again X ops.toList s' j = again X ops.toList s j := by
 by_cases hw : wantedT ops.toList s.e o.guard = some false
 ·obtain ⟨v, rfl, _⟩ := eff_N h (.inl hw)
  exact again_put hst
 ·have hc' := hc.resolve_left hw
  cases hcl : cls X f o with
  | N =>
   obtain ⟨v, rfl, _⟩ := eff_N h (.inr hcl)
   exact again_put hst
  | L =>
   obtain ⟨v, _, _, _, rfl⟩ := eff_L h hw hcl
   exact again_put hst
  | S k =>
   obtain ⟨v, y, p, _, rfl, _⟩ := eff_S h hw hcl
   obtain ⟨oj, hoj⟩ := hoj
   rw [again_put hst]
   exact again_l ((hst oj hoj).2 k hcl)
  | C => exact absurd hcl hc'.1
  | H => exact absurd hcl hc'.2
def pairOk (X : Env) (f : FuncId) (ops : Array Oper) (a q : PE) : Prop :=
 ∃ oa oq, ops[a.1]? = some oa /\ ops[q.1]? = some oq /\ Oper.apart ops oa oq = true /\ (okCls (cls X f oa) a.2.1 (cls X f oq) q.2.1 = true \/ (mapPair oa oq = true /\ a.2.2 = [] /\ q.2.2 = [])) /\
  (cls X f oa = .L -> cls X f oq = .C \/ cls X f oq = .H -> (a.1, a.2.1) ∈ q.2.2) /\ (cls X f oa = .L -> ∀ d, oa.dst = some d -> d ∉ Oper.looksAt ops oa)
def entryOk (X : Env) (f : FuncId) (ops : Array Oper) (p : PE) : Prop :=
 ∀ o, ops[p.1]? = some o -> (p.2.2 ≠ [] -> cls X f o = .C \/ cls X f o = .H) /\ ∀ j ∈ p.2.2, (∃ oj, ops[j.1]? = some oj) /\ j.1 ≠ p.1
def stillOk (X : Env) (f : FuncId) (ops : Array Oper) (B : Array Nat) (p q : PE) : Prop :=
 ∀ j ∈ p.2.2, ∀ o, ops[q.1]? = some o -> q.1 ≠ j.1 -> (B.getD j.1 0).testBit q.1 = true \/ Still X f ops j o
theorem front {q : PE} {oq : Oper} (hoq : ops[q.1]? = some oq) : ∀ (α : List PE) (β : List PE) (s s' : St), GoodRun X C f ops (α ++ q :: β) s s' ->
  (∀ a ∈ α, pairOk X f ops a q /\ entryOk X f ops a /\ ∀ j ∈ a.2.2, Still X f ops j oq) -> entryOk X f ops q -> (α.map (·.1)).Nodup ->
  (∀ pre b r, α = pre ++ b :: r -> ∀ ob, ops[b.1]? = some ob -> ∀ j ∈ q.2.2, (∀ c ∈ b :: r, c.1 ≠ j.1) -> Still X f ops j ob) ->
  ∃ s2, Eff X C f ops oq q.2.1 s s2 /\ (∀ j ∈ q.2.2, (∀ b ∈ α, b.1 ≠ j.1) -> again X ops.toList s2 j = true) /\ GoodRun X C f ops (α ++ β) s2 s'
 | [], β, s, s', h, _, _, _, _ => by
  obtain ⟨o, s1, ho, he, hre, hg⟩ := h
  rw [hoq] at ho; cases ho
  exact ⟨s1, he, fun j hj _ => hre j hj, hg⟩
 | a :: α, β, s, s', h, hα, hq, hnd, hst => by
  obtain ⟨oa, s1, hoa, hea, hrea, hg⟩ := h
  have hnd' : a.1 ∉ α.map (·.1) /\ (α.map (·.1)).Nodup := List.nodup_cons.1 hnd
  obtain ⟨s2, heq, hreq, hg2⟩ := front hoq α β s1 s' hg (fun b hb => hα b (by simp [hb])) hq hnd'.2 fun pre b r e => hst (a :: pre) b r (by rw [e]; rfl)
  obtain ⟨⟨oa', oq', h1, h2, hap, hok, hL, hself⟩, hea1, hst2⟩ := hα a (by simp)
  rw [hoa] at h1; cases h1
  rw [hoq] at h2; cases h2
  have hnot : ∀ b ∈ α, b.1 ≠ a.1 := fun b hb e => hnd'.1 (List.mem_map.2 ⟨b, hb, e⟩)
  obtain ⟨s1', he1, he2⟩ := swap hap hea heq (hok.imp id fun h => h.1) hoa (fun hl hch => hreq _ (hL hl hch) hnot) hself
  refine ⟨s1', he1, fun j hj hj2 => ?_, oa, s2, hoa, he2, fun j hj => ?_, hg2⟩
  ·
   have h3 := hreq j hj fun b hb => hj2 b (by simp [hb])
   obtain ⟨hqc, hqj⟩ := hq oq hoq
   have hqch := hqc (List.ne_nil_of_mem hj)
   rw [<- again_eff he2 (hst [] a α rfl oa hoa j hj hj2) (hqj j hj).1]
   ·exact h3
   ·rcases hok with hok | ⟨_, _, hq0⟩
    case inr => rw [hq0] at hj; cases hj
    refine .inr ?_
    rcases hqch with hc | hc <;> rw [hc] at hok <;> cases hca : cls X f oa <;> rw [hca] at hok <;> simp [okCls] at hok <;> simp
  ·have h3 := hrea j hj
   obtain ⟨hac, haj⟩ := hea1 oa hoa
   have hach := hac (List.ne_nil_of_mem hj)
   rw [again_eff heq (hst2 j hj) (haj j hj).1]
   ·exact h3
   ·rcases hok with hok | ⟨_, ha0, _⟩
    case inr => rw [ha0] at hj; cases hj
    refine .inr ?_
    rcases hach with hc | hc <;> rw [hc] at hok <;> cases hcq : cls X f oq <;> rw [hcq] at hok <;> simp [okCls] at hok <;> simp
def tabOk (B : Array Nat) (ops : Array Oper) : Prop :=
 ∀ j o, ops[j]? = some o -> (∀ e ∈ o.after, Region.binds .any e = true -> e.on < j) /\
  ∀ a, (B.getD j 0).testBit a = true -> ∃ e ∈ o.after, Region.binds .any e = true /\ (e.on = a \/ (B.getD e.on 0).testBit a = true)
def Down (ops : Array Oper) (listed : Array Bool) : Prop :=
 ∀ j o, listed.getD j false = true -> ops[j]? = some o -> ∀ e ∈ o.after, Region.binds .any e = true -> listed.getD e.on false = true
theorem ahead_listed {B : Array Nat} (hB : tabOk B ops) {listed : Array Bool} (hd : Down ops listed) : ∀ (n j : Nat), j < n -> ∀ o, ops[j]? = some o -> (∀ e ∈ o.after, Region.binds .any e = true -> listed.getD e.on false = true) ->
  ∀ a, (B.getD j 0).testBit a = true -> listed.getD a false = true := by
 intro n
 induction n with
 | zero => intro j hj; omega
 | succ n ih =>
  intro j hj o ho hl a ha
  obtain ⟨h1, h2⟩ := hB j o ho
  obtain ⟨e, he, hb, h3⟩ := h2 a ha
  rcases h3 with rfl | h3
  ·exact hl e he hb
  ·have hlt := h1 e he hb
   cases hoe : ops[e.on]? with
   | none =>
    have : ops.size <= e.on := by rwa [Array.getElem?_eq_none_iff] at hoe
    have := (Array.getElem?_eq_some_iff.1 ho).1
    omega
   | some oe => exact ih e.on (by omega) oe hoe (fun e' he' hb' => hd e.on oe (hl e he hb) hoe e' he' hb') a h3
structure PlanOk (X : Env) (f : FuncId) (ops : Array Oper) (B : Array Nat) (π : List PE) : Prop where
 len : π.length = ops.size
 nodup : (π.map (·.1)).Nodup
 lt : ∀ p ∈ π, p.1 < ops.size
 all : ∀ i, i < ops.size -> i ∈ π.map (·.1)
 tab : tabOk B ops
 pairs : π.Pairwise fun a q => ((B.getD q.1 0).testBit a.1 = true \/ pairOk X f ops a q) /\ (∀ j ∈ a.2.2, j.1 ≠ q.1) /\ (B.getD a.1 0).testBit q.1 = false
 lin : π.Pairwise fun a q => ∀ o, ops[a.1]? = some o -> ∀ e ∈ o.after, Region.binds .any e = true -> e.on ≠ q.1
 entry : ∀ p ∈ π, entryOk X f ops p
 still : ∀ p ∈ π, ∀ q ∈ π, stillOk X f ops B p q
def planNo (ops : Array Oper) : List PE -> Bool
 | p :: _ => decide (ops.size <= p.1)
 | [] => false
theorem planNo_none {X : Env} {C : CallSem} {f : FuncId} {ops : Array Oper} {π : List PE} {s : St} (h : planNo ops π = true) : exPlan X C f ops.toList π s = none := by
 cases π with
 | nil => cases h
 | cons p r =>
  have h1 : ops.size <= p.1 := by simpa [planNo] using h
  have h2 : ops.toList[p.1]? = none := by rw [Array.getElem?_toList, Array.getElem?_eq_none_iff]; exact h1
  unfold exPlan
  rw [h2]
section
variable [Good] {P : Program}
theorem any_ok (hT : TypesOk P) (hX : X.ty = tyOf P) (hS : Spec P C) {B : Array Nat} {π0 : List PE} (h0 : PlanOk X f ops B π0) {base : Nat} (ro : Option Nat) {s' : St} {Q : Exit -> Act -> World -> Prop} :
  ∀ (fuel : Nat) (π : List PE) (listed : Array Bool) (s : St) (K : KM) (L : KL) (a : Act) (w : World), π.length = fuel -> π.Sublist π0 -> listed.size = ops.size ->
   (∀ p ∈ π0, (listed.getD p.1 true = false ↔ p ∈ π)) -> Down ops listed -> GoodRun X C f ops π s s' -> SB base K L s a w ->
   (∀ a' w' K' L', SB base K' L' s' a' w' -> Step K L w K' L' w' -> Q .normal a' w') -> wpAnyIn (FW ro) 0 P .any ops Q fuel listed a w := by
 intro fuel
 induction fuel with
 | zero =>
  intro π listed s K L a w hlen hsub hsz hmem hd hg hs hq
  cases π with
  | cons p r => simp at hlen
  | nil =>
   cases hg
   refine ⟨?_, hq a w K L hs (Step.refl K L w)⟩
   refine List.eq_nil_iff_forall_not_mem.2 fun i hi => ?_
   obtain ⟨h1, o, ho, _⟩ := mem_ready.1 hi
   obtain ⟨p, hp, rfl⟩ := List.mem_map.1 (h0.all i (Array.getElem?_eq_some_iff.1 ho).1)
   have := (hmem p hp).1 h1
   cases this
 | succ fuel ih =>
  intro π listed s K L a w hlen hsub hsz hmem hd hg hs hq
  refine ⟨fun hr => ?_, fun i hi => ?_⟩
  ·
   exfalso
   cases π with
   | nil => simp at hlen
   | cons p r =>
    have hp0 : p ∈ π0 := hsub.subset (by simp)
    have hlt := h0.lt p hp0
    have ho : ops[p.1]? = some ops[p.1] := by simp [hlt]
    have : p.1 ∈ Region.ready .any ops listed := by
     refine mem_ready.2 ⟨(hmem p hp0).2 (by simp), ops[p.1], ho, fun e he hb => ?_⟩
     have hlt2 : e.on < p.1 := (h0.tab p.1 _ ho).1 e he hb
     obtain ⟨q, hq0, hqe⟩ := List.mem_map.1 (h0.all e.on (by omega))
     cases hlq : listed.getD q.1 true with
     | true =>
      have hq1 : q.1 < listed.size := by rw [hsz]; exact h0.lt q hq0
      rw [<- hqe]
      simp only [Array.getD_eq_getD_getElem?,hq1,Array.getElem?_eq_getElem,Option.getD_some] at hlq ⊢
      exact hlq
     | false =>
      exfalso
      have hin := (hmem q hq0).1 hlq
      rcases List.mem_cons.1 hin with rfl | hin
      ·omega
      ·have hpw : (p :: r).Pairwise _ := h0.lin.sublist hsub
       exact (List.pairwise_cons.1 hpw).1 q hin _ ho e he hb hqe.symm
    rw [hr] at this
    cases this
  ·obtain ⟨h1, o, ho, hall⟩ := mem_ready.1 hi
   have hlt := (Array.getElem?_eq_some_iff.1 ho).1
   obtain ⟨q, hq0, hqi⟩ := List.mem_map.1 (h0.all i hlt)
   have hqπ : q ∈ π := (hmem q hq0).1 (by rw [hqi]; exact h1)
   obtain ⟨α, β, rfl⟩ := List.append_of_mem hqπ
   have hoq : ops[q.1]? = some o := by rw [hqi]; exact ho
   have hpw : (α ++ q :: β).Pairwise _ := h0.pairs.sublist hsub
   have hnd : ((α ++ q :: β).map (·.1)).Nodup := h0.nodup.sublist (hsub.map _)
   have hnda : (α.map (·.1)).Nodup := by
    rw [List.map_append] at hnd
    exact (List.nodup_append.1 hnd).1
   have hpa := List.pairwise_append.1 hpw
   have hblisted : ∀ b ∈ α ++ q :: β, listed.getD b.1 false = false := by
    intro b hb
    have hb0 : b ∈ π0 := hsub.subset hb
    have h5 := (hmem b hb0).2 hb
    have hb1 : b.1 < listed.size := by rw [hsz]; exact h0.lt b hb0
    simp only [Array.getD_eq_getD_getElem?,hb1,Array.getElem?_eq_getElem,Option.getD_some] at h5 ⊢
    exact h5
   have hfree : ∀ j oj, ops[j]? = some oj -> listed.getD j false = true -> ∀ b ∈ α ++ q :: β, (B.getD j 0).testBit b.1 = false := by
    intro j oj hoj hj b hb
    cases hbit : (B.getD j 0).testBit b.1 with
    | false => rfl
    | true =>
     have h4 := ahead_listed h0.tab hd (j + 1) j (by omega) oj hoj (fun e he hb' => hd j oj hj hoj e he hb') b.1 hbit
     rw [hblisted b hb] at h4; cases h4
   have hwhere : ∀ p ∈ α ++ [q], ∀ j ∈ p.2.2, listed.getD j.1 false = true \/ ∃ c ∈ α, c.1 = j.1 /\ (∀ pre r, α ++ [q] = pre ++ p :: r -> c ∈ pre) := by
    intro p hp j hj
    have hp1 : p ∈ α ++ q :: β := by rcases List.mem_append.1 hp with h5 | h5 <;> simp_all
    have hp0 : p ∈ π0 := hsub.subset hp1
    obtain ⟨op, hop⟩ : ∃ op, ops[p.1]? = some op := ⟨ops[p.1]'(h0.lt p hp0), by simp [h0.lt p hp0]⟩
    obtain ⟨⟨oj, hoj⟩, hjp⟩ := (h0.entry p hp0 op hop).2 j hj
    have hjlt := (Array.getElem?_eq_some_iff.1 hoj).1
    obtain ⟨c, hc0, hcj⟩ := List.mem_map.1 (h0.all j.1 hjlt)
    cases hl : listed.getD j.1 false with
    | true => exact .inl rfl
    | false =>
     right
     have hcin : c ∈ α ++ q :: β := by
      refine (hmem c hc0).1 ?_
      have hc1 : c.1 < listed.size := by rw [hsz]; exact h0.lt c hc0
      rw [<- hcj] at hl
      simp only [Array.getD_eq_getD_getElem?,hc1,Array.getElem?_eq_getElem,Option.getD_some] at hl ⊢
      exact hl
     have hall2 : ∀ pre r, α ++ q :: β = pre ++ p :: r -> c ∈ pre := by
      intro pre r e
      rw [e] at hcin hpw
      rcases List.mem_append.1 hcin with h5 | h5
      ·exact h5
      ·rcases List.mem_cons.1 h5 with h5 | h5
       ·exact absurd (by rw [<- h5]; exact hcj.symm) hjp
       ·have := ((List.pairwise_cons.1 (List.pairwise_append.1 hpw).2.1).1 c h5).2.1 j hj
        exact absurd hcj.symm this
     have hcα : c ∈ α := by
      rcases List.mem_append.1 hp with h5 | h5
      ·obtain ⟨pre, r, e⟩ := List.append_of_mem h5
       have := hall2 pre (r ++ q :: β) (by rw [e]; simp)
       rw [e]; simp [this]
      ·rw [List.mem_singleton.1 h5] at hall2
       exact hall2 α β rfl
     refine ⟨c, hcα, hcj, fun pre r e => hall2 pre (r ++ β) ?_⟩
     have := congrArg (· ++ β) e
     simpa using this
   have hα : ∀ b ∈ α, pairOk X f ops b q /\ entryOk X f ops b /\ ∀ j ∈ b.2.2, Still X f ops j o := by
    intro b hb
    have hb0 : b ∈ π0 := hsub.subset (by simp [hb])
    obtain ⟨h2, h3, _⟩ := hpa.2.2 b hb q (by simp)
    refine ⟨h2.resolve_left fun hbit => ?_, h0.entry b hb0, fun j hj => ?_⟩
    ·have h4 := ahead_listed h0.tab hd (q.1 + 1) q.1 (by omega) o hoq hall b.1 hbit
     rw [hblisted b (by simp [hb])] at h4; cases h4
    ·refine (h0.still b hb0 q hq0 j hj o hoq (Ne.symm (h3 j hj))).resolve_left fun hbit => ?_
     obtain ⟨⟨oj, hoj⟩, _⟩ := (h0.entry b hb0 _ (by simp [h0.lt b hb0] : ops[b.1]? = some (ops[b.1]'(h0.lt b hb0)))).2 j hj
     rcases hwhere b (by simp [hb]) j hj with h5 | ⟨c, hc, hcj, _⟩
     ·rw [hfree j.1 oj hoj h5 q (by simp)] at hbit; cases hbit
     ·have := (hpa.2.2 c hc q (by simp)).2.2
      rw [hcj, hbit] at this; cases this
   have hst : ∀ pre b r, α = pre ++ b :: r -> ∀ ob, ops[b.1]? = some ob -> ∀ j ∈ q.2.2, (∀ c ∈ b :: r, c.1 ≠ j.1) -> Still X f ops j ob := by
    intro pre b r e ob hob j hj hnc
    have hbα : b ∈ α := by rw [e]; simp
    have hb0 : b ∈ π0 := hsub.subset (by simp [hbα])
    refine (h0.still q hq0 b hb0 j hj ob hob (hnc b (by simp))).resolve_left fun hbit => ?_
    obtain ⟨⟨oj, hoj⟩, _⟩ := (h0.entry q hq0 o hoq).2 j hj
    rcases hwhere q (by simp) j hj with h5 | ⟨c, hc, hcj, _⟩
    ·rw [hfree j.1 oj hoj h5 b (by simp [hbα])] at hbit; cases hbit
    ·rw [e] at hc
     rcases List.mem_append.1 hc with h6 | h6
     ·have h7 := hpa.1
      rw [e] at h7
      have := ((List.pairwise_append.1 h7).2.2 c h6 b (by simp)).2.2
      rw [hcj, hbit] at this; cases this
     ·exact hnc c h6 hcj
   obtain ⟨s2, he, _, hg2⟩ := front hoq α β s s' hg hα (h0.entry q hq0) hnda hst
   have hsub2 : (α ++ β).Sublist π0 := (List.Sublist.append (List.Sublist.refl α) (List.sublist_cons_self q β)).trans hsub
   have hi1 : i < listed.size := by rw [hsz]; exact hlt
   have hqn : q ∉ α ++ β := by
    intro hin
    rw [List.map_append, List.map_cons] at hnd
    have hmid := List.nodup_append.1 hnd
    rcases List.mem_append.1 hin with h5 | h5
    ·exact hmid.2.2 q.1 (List.mem_map.2 ⟨q, h5, rfl⟩) q.1 (by simp) rfl
    ·exact (List.nodup_cons.1 hmid.2.1).1 (List.mem_map.2 ⟨q, h5, rfl⟩)
   have hmem2 : ∀ p ∈ π0, ((listed.setIfInBounds i true).getD p.1 true = false ↔ p ∈ α ++ β) := by
    intro p hp
    by_cases hpi : p.1 = i
    ·have hpq : p = q := by
      have := h0.nodup
      obtain ⟨n1, hn1, e1⟩ := List.getElem_of_mem hp
      obtain ⟨n2, hn2, e2⟩ := List.getElem_of_mem hq0
      have hmap := (List.pairwise_iff_getElem.1 this)
      rcases Nat.lt_trichotomy n1 n2 with h5 | h5 | h5
      ·have h6 := hmap n1 n2 (by simpa using hn1) (by simpa using hn2) h5
       simp [e1, e2, hpi, hqi] at h6
      ·subst h5; rw [<- e1, <- e2]
      ·have h6 := hmap n2 n1 (by simpa using hn2) (by simpa using hn1) h5
       simp [e1, e2, hpi, hqi] at h6
     subst hpq
     constructor
     ·intro h5
      rw [hpi] at h5
      simp [hi1] at h5
     ·intro h5; exact absurd h5 hqn
    ·rw [getD_set_ne true (Ne.symm hpi), hmem p hp]
     have hpq : p ≠ q := fun e => hpi (by rw [e]; exact hqi)
     simp [hpq]
   have hd2 : Down ops (listed.setIfInBounds i true) := by
    intro j oj hj hoj e he hb
    by_cases hji : j = i
    ·subst hji
     rw [ho] at hoj; cases hoj
     exact getD_set_true (hall e he hb)
    ·rw [getD_set_ne false (Ne.symm hji)] at hj
     exact getD_set_true (hd j oj hj hoj e he hb)
   have hlen2 : (α ++ β).length = fuel := by simp at hlen ⊢; omega
   unfold wpOpIn
   rw [ho]
   simp only
   rcases he with ⟨hw, rfl⟩ | ⟨hw, _, hex⟩
   ·have hwant := wanted_ok (t := a.tmps) hw hs.env
    have hwant' : Region.wanted o (yielded ops a.tmps) = false := by simpa using hwant
    rw [hwant']
    refine ⟨fun _ _ => trivial, ?_⟩
    exact ih (α ++ β) _ _ K L _ w hlen2 hsub2 (by simp [hsz]) hmem2 hd2 hg2 (hs.put o.dst (v := .u) rfl) hq
   ·have hwant := wanted_ok (t := a.tmps) hw hs.env
    have hwant' : Region.wanted o (yielded ops a.tmps) = true := by simpa using hwant
    rw [hwant']
    simp only [if_true]
    exact exOp_ok hT hX hS hex hs ro fun a' w' K' L' hs2 hst2 =>
     ih (α ++ β) _ _ K' L' a' w' hlen2 hsub2 (by simp [hsz]) hmem2 hd2 hg2 hs2 fun a3 w3 K3 L3 hs3 hst3 => hq a3 w3 K3 L3 hs3 (hst2.trans hst3)
theorem draw_ok (hT : TypesOk P) (hX : X.ty = tyOf P) (hm : P.follows .mixedOrders = true) {C : CallSem} (hS : Spec P C) :
  DrawSpec P X C fun f id ops => (∃ B, PlanOk X f ops B (X.plan f id)) \/ planNo ops (X.plan f id) = true := by
 intro f id ops hok base s s' hex ro K L a w hs Q hq t
 rcases hok with ⟨B, hok⟩ | hno
 case inr => rw [planNo_none hno] at hex; cases hex
 simp only [Region.schedule,hm,Bool.true_or,if_true]
 have hlen : (X.plan f id).length = ops.size := hok.len
 refine wpAnyIn_sound ops.size t _ a _ ?_
 exact any_ok hT hX hS hok ro ops.size (X.plan f id) _ s K L a w hlen (List.Sublist.refl _) (by simp) (fun p hp => by simp [hok.lt p hp, hp]) (fun j o hj => by
  simp only [Array.getD_eq_getD_getElem?,Array.getElem?_replicate] at hj
  split at hj <;> cases hj) (exPlan_good _ _ _ hex) hs hq
end
end Go.Ev
namespace Go.Ev
variable {X : Env} {C : CallSem} {f : FuncId} {ops : Array Oper}
def pw (r : PE -> PE -> Bool) : List PE -> Bool
 | [] => true
 | p :: l => l.all (r p) && pw r l
theorem pw_ok {r : PE -> PE -> Bool} {R : PE -> PE -> Prop} (h : ∀ a q, r a q = true -> R a q) : ∀ {l : List PE}, pw r l = true -> l.Pairwise R
 | [], _ => .nil
 | p :: l, h' => by
  simp only [pw,Bool.and_eq_true,List.all_eq_true] at h'
  exact .cons (fun q hq => h p q (h'.1 q hq)) (pw_ok h h'.2)
def aheadOf (B : Array Nat) (o : Oper) : Nat := o.after.foldl (fun s e => if Region.binds .any e then s ||| 2 ^ e.on ||| B.getD e.on 0 else s) 0
def tabChk (B : Array Nat) (ops : Array Oper) : Bool :=
 (List.range ops.size).all fun j => match ops[j]? with
  | some o => (o.after.toList.all fun e => !Region.binds .any e || decide (e.on < j)) && (B.getD j 0 == aheadOf B o)
  | none => true
theorem aheadOf_ok {B : Array Nat} {o : Oper} {a : Nat} (h : (aheadOf B o).testBit a = true) : ∃ e ∈ o.after, Region.binds .any e = true /\ (e.on = a \/ (B.getD e.on 0).testBit a = true) := by
 unfold aheadOf at h
 rw [<- Array.foldl_toList] at h
 have key : ∀ (l : List Edge) (s : Nat), (l.foldl (fun s e => if Region.binds .any e then s ||| 2 ^ e.on ||| B.getD e.on 0 else s) s).testBit a = true ->
   s.testBit a = true \/ ∃ e ∈ l, Region.binds .any e = true /\ (e.on = a \/ (B.getD e.on 0).testBit a = true) := by
  intro l
  induction l with
  | nil => intro s h; exact .inl h
  | cons e l ih =>
   intro s h
   rw [List.foldl_cons] at h
   rcases ih _ h with h1 | ⟨e', he', h2⟩
   ·by_cases hb : Region.binds .any e = true
    ·rw [if_pos hb, Nat.testBit_or, Nat.testBit_or, Nat.testBit_two_pow] at h1
     simp only [Bool.or_eq_true,decide_eq_true_eq] at h1
     rcases h1 with (h1 | h1) | h1
     ·exact .inl h1
     ·exact .inr ⟨e, by simp, hb, .inl h1⟩
     ·exact .inr ⟨e, by simp, hb, .inr h1⟩
    ·rw [if_neg hb] at h1
     exact .inl h1
   ·exact .inr ⟨e', by simp [he'], h2⟩
 rcases key _ _ h with h1 | ⟨e, he, h2⟩
 ·simp at h1
 ·exact ⟨e, by simpa using he, h2⟩
theorem tabChk_ok {B : Array Nat} (h : tabChk B ops = true) : tabOk B ops := by
 intro j o ho
 have hlt := (Array.getElem?_eq_some_iff.1 ho).1
 have h1 := List.all_eq_true.1 h j (List.mem_range.2 hlt)
 rw [ho] at h1
 simp only [Bool.and_eq_true,List.all_eq_true,Bool.or_eq_true,Bool.not_eq_true',decide_eq_true_eq,beq_iff_eq] at h1
 refine ⟨fun e he hb => ?_, fun a ha => ?_⟩
 ·rcases h1.1 e (by simpa using he) with h2 | h2
  ·rw [hb] at h2; cases h2
  ·exact h2
 ·rw [h1.2] at ha
  exact aheadOf_ok ha
def pairChk (X : Env) (f : FuncId) (ops : Array Oper) (a q : PE) : Bool :=
 match ops[a.1]?, ops[q.1]? with
 | some oa, some oq =>
  Oper.apart ops oa oq && (okCls (cls X f oa) a.2.1 (cls X f oq) q.2.1 || (mapPair oa oq && a.2.2.isEmpty && q.2.2.isEmpty)) &&
  (!decide (cls X f oa = .L) || ((!(decide (cls X f oq = .C) || decide (cls X f oq = .H)) || q.2.2.elem (a.1, a.2.1)) &&
   (match oa.dst with | some d => !(Oper.looksAt ops oa).elem d | none => true)))
 | _, _ => false
theorem pairChk_ok {a q : PE} (h : pairChk X f ops a q = true) : pairOk X f ops a q := by
 unfold pairChk at h
 split at h
 ·rename_i oa oq h1 h2
  simp only [Bool.and_eq_true,Bool.or_eq_true,Bool.not_eq_true',decide_eq_false_iff_not,Bool.or_eq_false_iff,List.elem_eq_mem,decide_eq_true_eq,List.isEmpty_iff] at h
  obtain ⟨⟨h3, h4⟩, h5⟩ := h
  refine ⟨oa, oq, h1, h2, h3, h4.imp id fun h => ⟨h.1.1, h.1.2, h.2⟩, fun hl hch => ?_, fun hl d hd => ?_⟩
  ·rcases h5 with h5 | ⟨h5, _⟩
   ·exact absurd hl h5
   ·rcases h5 with ⟨h6, h7⟩ | h5
    ·rcases hch with hch | hch
     ·exact absurd hch h6
     ·exact absurd hch h7
    ·exact h5
  ·rcases h5 with h5 | ⟨_, h5⟩
   ·exact absurd hl h5
   ·rw [hd] at h5
    simpa using h5
 ·cases h
def entryChk (X : Env) (f : FuncId) (ops : Array Oper) (p : PE) : Bool :=
 match ops[p.1]? with
 | some o => (p.2.2.isEmpty || decide (cls X f o = .C) || decide (cls X f o = .H)) && p.2.2.all fun j => decide (j.1 < ops.size) && decide (j.1 ≠ p.1)
 | none => true
theorem entryChk_ok {p : PE} (h : entryChk X f ops p = true) : entryOk X f ops p := by
 intro o ho
 unfold entryChk at h
 rw [ho] at h
 simp only [Bool.and_eq_true,Bool.or_eq_true,decide_eq_true_eq,List.all_eq_true,List.isEmpty_iff] at h
 refine ⟨fun hne => ?_, fun j hj => ?_⟩
 ·rcases h.1 with (h1 | h1) | h1
  ·exact absurd h1 hne
  ·exact .inl h1
  ·exact .inr h1
 ·obtain ⟨h1, h2⟩ := h.2 j hj
  exact ⟨⟨ops[j.1], by simp [h1]⟩, h2⟩
def stillChk1 (X : Env) (f : FuncId) (ops : Array Oper) (j : Nat × List Nat) (o : Oper) : Bool :=
 match ops[j.1]? with
 | some oj => (match o.dst with | some d => !(Oper.looksAt ops oj).elem d && decide (oj.dst ≠ some d) | none => true) && (match cls X f o with | .S k => !j.2.elem k | _ => true)
 | none => true
theorem stillChk1_ok {j : Nat × List Nat} {o : Oper} (h : stillChk1 X f ops j o = true) : Still X f ops j o := by
 intro oj hoj
 unfold stillChk1 at h
 rw [hoj] at h
 simp only [Bool.and_eq_true] at h
 refine ⟨fun d hd => ?_, fun k hk => ?_⟩
 ·have h1 := h.1
  rw [hd] at h1
  simpa using h1
 ·have h1 := h.2
  rw [hk] at h1
  simpa using h1
def stillChk (X : Env) (f : FuncId) (ops : Array Oper) (B : Array Nat) (p q : PE) : Bool :=
 p.2.2.all fun j => match ops[q.1]? with
  | some o => decide (q.1 = j.1) || (B.getD j.1 0).testBit q.1 || stillChk1 X f ops j o
  | none => true
theorem stillChk_ok {B : Array Nat} {p q : PE} (h : stillChk X f ops B p q = true) : stillOk X f ops B p q := by
 intro j hj o ho hne
 have h1 := List.all_eq_true.1 h j hj
 rw [ho] at h1
 simp only [Bool.or_eq_true,decide_eq_true_eq] at h1
 rcases h1 with (h1 | h1) | h1
 ·exact absurd h1 hne
 ·exact .inl h1
 ·exact .inr (stillChk1_ok h1)
def linChk (ops : Array Oper) (a q : PE) : Bool :=
 match ops[a.1]? with
 | some o => o.after.toList.all fun e => !Region.binds .any e || decide (e.on ≠ q.1)
 | none => true
def planChk (X : Env) (f : FuncId) (ops : Array Oper) (B : Array Nat) (π : List PE) : Bool :=
 decide (π.length = ops.size) && decide (π.map (·.1)).Nodup && (π.all fun p => decide (p.1 < ops.size)) && ((List.range ops.size).all fun i => (π.map (·.1)).elem i) && tabChk B ops &&
 (pw (fun a q => ((B.getD q.1 0).testBit a.1 || pairChk X f ops a q) && (a.2.2.all fun j => decide (j.1 ≠ q.1)) && !(B.getD a.1 0).testBit q.1 && linChk ops a q) π) &&
 π.all (entryChk X f ops) && π.all fun p => p.2.2.isEmpty || π.all fun q => stillChk X f ops B p q
theorem planChk_ok {B : Array Nat} {π : List PE} (h : planChk X f ops B π = true) : PlanOk X f ops B π := by
 unfold planChk at h
 simp only [Bool.and_eq_true,decide_eq_true_eq,List.all_eq_true,Bool.or_eq_true,List.isEmpty_iff] at h
 obtain ⟨⟨⟨⟨⟨⟨⟨h1, h2⟩, h3⟩, h4⟩, h5⟩, h6⟩, h7⟩, h8⟩ := h
 refine ⟨h1, h2, h3, fun i hi => by simpa using h4 i (List.mem_range.2 hi), tabChk_ok h5, ?_, ?_, fun p hp => entryChk_ok (h7 p hp), fun p hp q hq => ?_⟩
 ·refine pw_ok (fun a q h => ?_) h6
  simp only [Bool.and_eq_true,Bool.or_eq_true,List.all_eq_true,decide_eq_true_eq,Bool.not_eq_true'] at h
  obtain ⟨⟨⟨h1, h2⟩, h3⟩, _⟩ := h
  exact ⟨h1.imp id pairChk_ok, h2, h3⟩
 ·refine pw_ok (fun a q h => ?_) h6
  simp only [Bool.and_eq_true] at h
  intro o ho e he hb
  have h1 := h.2
  unfold linChk at h1
  rw [ho] at h1
  simp only [List.all_eq_true,Bool.or_eq_true,Bool.not_eq_true',decide_eq_true_eq] at h1
  rcases h1 e (by simpa using he) with h2 | h2
  ·rw [hb] at h2; cases h2
  ·exact h2
 ·rcases h8 p hp with h1 | h1
  ·intro j hj; rw [h1] at hj; cases hj
  ·exact stillChk_ok (h1 q hq)
def codeChk (X : Env) (f : FuncId) : Code -> Bool
 | .region id ops draw => !draw || (planChk X f ops (Region.before ops) (X.plan f id) || planNo ops (X.plan f id))
 | .seq a b => codeChk X f a && codeChk X f b
 | .cond _ a b => codeChk X f a && codeChk X f b
 | .block _ c => codeChk X f c
 | .scope c => codeChk X f c
 | .loop c => codeChk X f c
 | .rangeFunc _ _ a b => codeChk X f a && codeChk X f b
 | _ => true
abbrev DOk (X : Env) : FuncId -> Nat -> Array Oper -> Prop := fun f id ops => (∃ B, PlanOk X f ops B (X.plan f id)) \/ planNo ops (X.plan f id) = true
theorem codeChk_ok : ∀ (c : Code), codeChk X f c = true -> CodeOk (DOk X f) c := by
 intro c
 induction c with
 | region id ops draw =>
  intro h hd
  subst hd
  simp only [codeChk,Bool.not_true,Bool.false_or,Bool.or_eq_true] at h
  exact h.imp (fun h => ⟨_, planChk_ok h⟩) fun h => h
 | seq a b iha ihb => intro h; simp only [codeChk,Bool.and_eq_true] at h; exact ⟨iha h.1, ihb h.2⟩
 | cond c a b iha ihb => intro h; simp only [codeChk,Bool.and_eq_true] at h; exact ⟨iha h.1, ihb h.2⟩
 | block id c ih => intro h; exact ih h
 | scope c ih => intro h; exact ih h
 | loop c ih => intro h; exact ih h
 | rangeFunc g ps a b iha ihb => intro h; simp only [codeChk,Bool.and_eq_true] at h; exact ⟨iha h.1, ihb h.2⟩
 | _ => intro _; trivial
def bodyChk (X : Env) (P : Program) (f : FuncId) : Bool :=
 match P.funcs[f]? with
 | some fn => match fn.body with
  | some c => codeChk X f c && !(fn.name == "runtime.NumGoroutine")
  | none => true
 | none => true
def typeChk (P : Program) (t : TypeId) : Bool :=
 (match P.underlying t with
  | some (.slice e) => (P.info? e).isSome
  | some (.array _ e) => (P.info? e).isSome
  | some (.struct fs) => fs.toList.all fun f => (P.info? f.type).isSome
  | _ => true) &&
 (match P.info? t with
  | some i => match i.zero with | some v => v.cells.size == i.size && (match (tyOf P t).kind with | some ag => isAggV v == ag | none => true) | none => true
  | none => true)
abbrev goodOf (X : Env) : Good := ⟨fun f c => CodeOk (DOk X f) c⟩
structure Fit (P : Program) (X : Env) : Prop where
 ty : X.ty = tyOf P
 body : X.body = bodyOf P
 mixed : P.follows .mixedOrders = true
 types : ∀ t, t < P.types.size -> typeChk P t = true
 bodies : ∀ f, f < P.funcs.size -> bodyChk X P f = true
 pins : ∀ f p, X.pin f = some p -> @PinOk (goodOf X) P f p
theorem Fit.typesOk {P : Program} (h : Fit P X) : TypesOk P := by
 refine ⟨fun t e hlt hu => ?_, fun t fs f hlt hu hf => ?_, fun t i v hlt hi hz => ?_, fun t i v ag hlt hi hz hk => ?_⟩
 ·have h1 := h.types t hlt
  unfold typeChk at h1
  simp only [Bool.and_eq_true] at h1
  rcases hu with hu | ⟨n, hu⟩
  ·have h2 := h1.1; rw [hu] at h2; exact h2
  ·have h2 := h1.1; rw [hu] at h2; exact h2
 ·have h1 := h.types t hlt
  unfold typeChk at h1
  simp only [Bool.and_eq_true] at h1
  have h2 := h1.1
  rw [hu] at h2
  exact List.all_eq_true.1 h2 f hf
 ·have h1 := h.types t hlt
  unfold typeChk at h1
  simp only [Bool.and_eq_true] at h1
  have h2 := h1.2
  rw [hi] at h2
  simp only [hz,Bool.and_eq_true,beq_iff_eq] at h2
  exact h2.1
 ·have h1 := h.types t hlt
  unfold typeChk at h1
  simp only [Bool.and_eq_true] at h1
  have h2 := h1.2
  rw [hi] at h2
  simp only [hz,Bool.and_eq_true,beq_iff_eq,hk] at h2
  exact h2.2
theorem Fit.funcsOk {P : Program} (h : Fit P X) : FuncsOk P := by
 intro f fn hf hb
 have h1 := h.bodies f (Array.getElem?_eq_some_iff.1 hf).1
 unfold bodyChk at h1
 rw [hf] at h1
 simp only at h1
 cases hc : fn.body with
 | none => rw [hc] at hb; cases hb
 | some c =>
  rw [hc] at h1
  simp only [Bool.and_eq_true,Bool.not_eq_true'] at h1
  exact h1.2
theorem Fit.code {P : Program} (h : Fit P X) : ∀ f b, bodyOf P f = some b -> CodeOk (DOk X f) b.1 := by
 intro f b hb
 unfold bodyOf at hb
 split at hb
 ·rename_i fn hf
  split at hb
  ·rename_i c hc
   cases hb
   have h1 := h.bodies f (Array.getElem?_eq_some_iff.1 hf).1
   unfold bodyChk at h1
   rw [hf] at h1
   simp only [hc,Bool.and_eq_true] at h1
   exact codeChk_ok c h1.1
  ·cases hb
 ·cases hb
theorem pinOk_bool [Good] {P : Program} (hF : FuncsOk P) {f : FuncId} {b : Bool} (h1 : (bodyOf P f).isSome = true) (h2 : ∀ w, Calls P f #[] w fun e w' => e = .returned (.bool b) /\ RowKit.Below w.heap.size w w') : PinOk P f (.b b) := by
 intro K w args hh v h' hrun hm
 simp only [pinRun] at hrun
 split at hrun
 ·cases hrun
  refine ⟨?_, fun ys hys => ?_⟩
  ·unfold bodyOf at h1
   split at h1
   ·rename_i fn hf
    split at h1
    ·rename_i c hc
     exact ⟨fn, hf, by simp [hc], hF f fn hf (by simp [hc])⟩
    ·cases h1
   ·cases h1
  ·simp only [List.append_nil,VRs] at hys
   subst hys
   have h3 : CallsIn (FW none) 0 P f #[] w fun e w' => e = .returned (.bool b) /\ RowKit.Below w.heap.size w w' := (callsIn_wide (n := 0)).2 (h2 w)
   refine CallsIn.mono h3 fun e w' he => ?_
   obtain ⟨rfl, hb⟩ := he
   refine ⟨K, by simp [VR], hm.keep hb.size fun B hB _ => hb.block B hB, KM.le_refl K, KL.le_refl [], hb.size, fun B hB _ => hb.block B hB, fun o B ho => .inr ⟨o, ho⟩, hb.os, hb.tape, hb.output, fun _ _ _ _ _ h => .inl ⟨_, _, _, _, h⟩, fun _ _ kl _ h => ⟨kl, h, fun _ => rfl, KL.le_refl kl⟩⟩
 ·cases hrun
theorem Fit.spec {P : Program} (h : Fit P X) (n : Nat) : @Spec (goodOf X) P (callN X n) :=
 letI := goodOf X
 callN_ok h.typesOk h.funcsOk h.ty h.body (fun _ hS => draw_ok h.typesOk h.ty h.mixed hS) h.code (fun _ _ => Iff.rfl) h.pins n
end Go.Ev
namespace Go.Ev
def Even {α : Type} (x : Nat -> Option α) (r : α) : Prop := ∃ n, ∀ m, n <= m -> x m = some r
theorem Even.const {α : Type} {x : Option α} {r : α} (h : x = some r) : Even (fun _ => x) r := ⟨0, fun _ _ => h⟩
theorem Even.bnd {α β : Type} {x : Nat -> Option α} {a : α} {k : Nat -> α -> Option β} {r : β} (h : Even x a) (hk : Even (fun m => k m a) r) : Even (fun m => Ev.bnd (x m) (k m)) r := by
 obtain ⟨n1, h1⟩ := h
 obtain ⟨n2, h2⟩ := hk
 refine ⟨max n1 n2, fun m hm => ?_⟩
 show Ev.bnd (x m) (k m) = some r
 rw [h1 m (by omega)]
 exact h2 m (by omega)
theorem Even.unique {α : Type} {x : Nat -> Option α} {r r' : α} (h : Even x r) (h' : Even x r') : r = r' := by
 obtain ⟨n1, h1⟩ := h
 obtain ⟨n2, h2⟩ := h'
 have e1 := h1 (max n1 n2) (by omega)
 have e2 := h2 (max n1 n2) (by omega)
 rw [e1] at e2; injection e2
theorem Even.of_eq {α : Type} {x y : Nat -> Option α} {r : α} (h : Even x r) (e : ∀ m, y m = x m) : Even y r := by
 obtain ⟨n, hn⟩ := h
 exact ⟨n, fun m hm => (e m).trans (hn m hm)⟩
theorem bnd_get {α β : Type} {x : Option α} {k : α -> Option β} {r : β} (h : bnd x k = some r) : ∃ a, x = some a /\ k a = some r := by
 cases x with
 | none => cases h
 | some a => exact ⟨a, rfl, h⟩
def LimC (Cm : Nat -> CallSem) (C : CallSem) : Prop := ∀ fv a h r, C fv a h = some r -> Even (fun m => Cm m fv a h) r
def LimL (Lm : Nat -> LoopSem) (L : LoopSem) : Prop := ∀ c s r, L c s = some r -> Even (fun m => Lm m c s) r
section
variable {X : Env} {Cm : Nat -> CallSem} {C : CallSem} {Lm : Nat -> LoopSem} {L : LoopSem} {f : FuncId}
theorem exOp_lim (hC : LimC Cm C) {o : Oper} {s s' : St} (h : exOp X C f o s = some s') : Even (fun m => exOp X (Cm m) f o s) s' := by
 unfold exOp at h ⊢
 split at h
 ·rename_i g args ats ho
  split at h
  ·rename_i fv hg
   obtain ⟨vs, hvs, h1⟩ := bnd_get h
   obtain ⟨p, hp, h2⟩ := bnd_get h1
   exact Even.bnd (.const hvs) (Even.bnd (hC _ _ _ _ hp) (.const h2))
  ·cases h
 ·rename_i hno
  exact .const h
theorem step_lim (hC : LimC Cm C) {o : Oper} {s s' : St} {b : Bool} {ls : Bool -> Bool} {y : Option St} (h : cnd b (cnd (ls b) (exOp X C f o s) none) y = some s') :
  Even (fun m => cnd b (cnd (ls b) (exOp X (Cm m) f o s) none) y) s' := by
 cases b with
 | false => exact .const h
 | true =>
  revert h
  cases ls true with
  | false => exact fun h => .const h
  | true => exact fun h => exOp_lim hC h
theorem exOps_lim (hC : LimC Cm C) {ops : List Oper} : ∀ {l : List Oper} {s s' : St}, exOps X C f ops l s = some s' -> Even (fun m => exOps X (Cm m) f ops l s) s'
 | [], s, s', h => .const h
 | o :: r, s, s', h => by
  simp only [exOps] at h ⊢
  obtain ⟨b, hb, h1⟩ := bnd_get h
  obtain ⟨s1, hs1, h2⟩ := bnd_get h1
  refine Even.bnd (.const hb) (Even.bnd ?_ (exOps_lim hC h2))
  cases b with
  | false => exact .const hs1
  | true => exact exOp_lim hC hs1
theorem exPlan_lim (hC : LimC Cm C) {ops : List Oper} : ∀ {l : List PE} {s s' : St}, exPlan X C f ops l s = some s' -> Even (fun m => exPlan X (Cm m) f ops l s) s'
 | [], s, s', h => .const h
 | p :: r, s, s', h => by
  simp only [exPlan] at h ⊢
  split at h
  ·rename_i o ho
   obtain ⟨b, hb, h1⟩ := bnd_get h
   obtain ⟨s1, hs1, h2⟩ := bnd_get h1
   refine Even.bnd (.const hb) (Even.bnd (a := s1) ?_ ?_)
   ·exact step_lim (ls := fun _ => leadsT s.e p.2.1 o.op.operands.toList) hC hs1
   ·revert h2
    cases p.2.2.all (again X ops s1) with
    | false => intro h2; cases h2
    | true => exact fun h2 => exPlan_lim hC h2
  ·cases h
theorem evC_lim (hC : LimC Cm C) (hL : LimL Lm L) : ∀ (c : Code) {R : Type} (s : St) (k : Ex -> St -> Option R) (km : Nat -> Ex -> St -> Option R) (r : R), evC X C L f c s k = some r ->
  (∀ x s', k x s' = some r -> Even (fun m => km m x s') r) -> Even (fun m => evC X (Cm m) (Lm m) f c s (km m)) r := by
 intro c
 induction c with
 | skip => intro R s k km r h hk; exact hk _ _ h
 | label l => intro R s k km r h hk; exact hk _ _ h
 | exit id => intro R s k km r h hk; exact hk _ _ h
 | ret => intro R s k km r h hk; exact hk _ _ h
 | goto l => intro R s k km r h hk; cases h
 | refuse w => intro R s k km r h hk; cases h
 | scope c ih =>
  intro R s k km r h hk
  simp only [evC] at h ⊢
  exact ih s k km r h hk
 | region id ops draw =>
  intro R s k km r h hk
  simp only [evC] at h ⊢
  cases draw with
  | true =>
   obtain ⟨s1, h1, h2⟩ := bnd_get (x := exPlan X C f ops.toList (X.plan f id) s) h
   exact Even.bnd (exPlan_lim hC h1) (hk _ _ h2)
  | false =>
   obtain ⟨s1, h1, h2⟩ := bnd_get (x := exOps X C f ops.toList ops.toList s) h
   exact Even.bnd (exOps_lim hC h1) (hk _ _ h2)
 | seq a b iha ihb =>
  intro R s k km r h hk
  simp only [evC] at h ⊢
  refine iha s _ _ r h fun x s' hx => ?_
  cases x with
  | normal => exact ihb s' k km r hx hk
  | exit id => exact hk _ _ hx
  | ret => exact hk _ _ hx
 | cond o a b iha ihb =>
  intro R s k km r h hk
  simp only [evC] at h ⊢
  split at h
  ·rename_i t ho
   cases t with
   | true => exact iha s k km r h hk
   | false => exact ihb s k km r h hk
  ·cases h
 | block id c ih =>
  intro R s k km r h hk
  simp only [evC] at h ⊢
  refine ih s _ _ r h fun x s' hx => ?_
  cases x with
  | normal => exact hk _ _ hx
  | exit id' =>
   have hx' : cnd (decide (id' = id)) (k .normal s') (k (.exit id') s') = some r := hx
   show Even (fun m => cnd (decide (id' = id)) (km m .normal s') (km m (.exit id') s')) r
   revert hx'
   cases decide (id' = id) with
   | true => exact fun hx => hk _ _ hx
   | false => exact fun hx => hk _ _ hx
  | ret => exact hk _ _ hx
 | loop c _ =>
  intro R s k km r h hk
  simp only [evC] at h ⊢
  obtain ⟨p, hp, h2⟩ := bnd_get h
  exact Even.bnd (hL _ _ _ hp) (hk _ _ h2)
 | rangeFunc g ps a b _ _ =>
  intro R s k km r h hk
  simp only [evC] at h ⊢
  split at h
  ·rename_i gf cap hg
   obtain ⟨p, hp, h2⟩ := bnd_get h
   refine Even.bnd (hC _ _ _ _ hp) ?_
   unfold endRF at h2 ⊢
   split at h2
   ·rename_i lr hlr
    unfold grd at h2 ⊢
    split at h2
    ·rename_i hg
     simp only [if_pos hg]
     split at h2
     ·exact hk _ _ h2
     ·exact hk _ _ h2
     ·exact hk _ _ h2
     ·cases h2
    ·cases h2
   ·cases h2
  ·cases h
theorem evBody_lim {Lf : Nat -> FuncId -> LoopSem} {L : FuncId -> LoopSem} (hC : LimC Cm C) (hL : ∀ f, LimL (fun m => Lf m f) (L f)) {args : List V} {h : Heap} {r : V × Heap}
  (hh : evBody X C L f args h = some r) : Even (fun m => evBody X (Cm m) (Lf m) f args h) r := by
 unfold evBody at hh ⊢
 split at hh
 ·refine evC_lim hC (hL f) _ _ _ _ r hh fun x s' hx => ?_
  exact .const hx
 ·cases hh
theorem evRound_lim {Lf : Nat -> FuncId -> LoopSem} {L : FuncId -> LoopSem} (hC : LimC Cm C) (hL : ∀ f, LimL (fun m => Lf m f) (L f)) {l : Nat} {args : List V} {h : Heap} {r : V × Heap}
  (hh : evRound X C L l args h = some r) : Even (fun m => evRound X (Cm m) (Lf m) l args h) r := by
 unfold evRound at hh ⊢
 split at hh
 ·rename_i lr hlr
  unfold grd at hh ⊢
  split at hh
  ·rename_i hg
   simp only [if_pos hg]
   refine evC_lim hC (hL lr.fn) _ _ _ _ r hh fun x s' hx => ?_
   cases x with
   | normal =>
    obtain ⟨s2, h2, h3⟩ := bnd_get hx
    refine Even.bnd (.const h2) ?_
    exact evC_lim hC (hL lr.fn) _ _ _ _ r h3 fun x s' hx => .const hx
   | exit id => cases hx
   | ret => cases hx
  ·cases hh
 ·cases hh
theorem loopBody_lim {Am : Nat -> LoopSem} {A : LoopSem} (hC : LimC Cm C) (hL : LimL Lm L) (hA : LimL Am A) {c : Code} {s : St} {r : Ex × St} (hh : loopBody X C L A f c s = some r) :
  Even (fun m => loopBody X (Cm m) (Lm m) (Am m) f c s) r := by
 unfold loopBody at hh ⊢
 refine evC_lim hC hL c s _ _ r hh fun x s' hx => ?_
 cases x with
 | normal => exact hA _ _ _ hx
 | exit id => exact .const hx
 | ret => exact .const hx
end
open Classical in
noncomputable def last {α : Type} (x : Nat -> Option α) : Option α := if h : ∃ r, Even x r then some h.choose else none
theorem last_some {α : Type} {x : Nat -> Option α} {r : α} : last x = some r ↔ Even x r := by
 unfold last
 split
 ·rename_i h
  constructor
  ·intro e; injection e with e; exact e ▸ h.choose_spec
  ·intro e; rw [h.choose_spec.unique e]
 ·rename_i h
  constructor
  ·intro e; cases e
  ·intro e; exact absurd ⟨r, e⟩ h
noncomputable def D (X : Env) : CallSem := fun fv a h => last fun m => callN X m fv a h
noncomputable def Lo (X : Env) (f : FuncId) : LoopSem := fun c s => last fun m => loopN X (D X) f m c s
theorem limD (X : Env) : LimC (callN X) (D X) := fun _ _ _ _ h => last_some.1 h
theorem loopN_lim {X : Env} {f : FuncId} : ∀ (n : Nat) (c : Code) (s : St) (r : Ex × St), loopN X (D X) f n c s = some r -> ∀ g : Nat -> Nat, (∀ b, ∃ N, ∀ m, N <= m -> b <= g m) ->
  Even (fun m => loopN X (callN X m) f (g m) c s) r
 | 0, c, s, r, h, g, hg => by cases h
 | n + 1, c, s, r, h, g, hg => by
  have hg' : ∀ b, ∃ N, ∀ m, N <= m -> b <= g m - 1 := fun b => let ⟨N, hN⟩ := hg (b + 1); ⟨N, fun m hm => by have := hN m hm; omega⟩
  have ih : LimL (fun m => loopN X (callN X m) f (g m - 1)) (loopN X (D X) f n) := fun c s r h => loopN_lim n c s r h (fun m => g m - 1) hg'
  obtain ⟨N, hN⟩ := loopBody_lim (limD X) ih ih h
  obtain ⟨N', hN'⟩ := hg 1
  refine ⟨max N N', fun m hm => ?_⟩
  have h1 := hN m (by omega)
  have h2 := hN' m (by omega)
  obtain ⟨q, hq⟩ : ∃ q, g m = q + 1 := ⟨g m - 1, by omega⟩
  simp only [hq,Nat.add_sub_cancel] at h1 ⊢
  exact h1
theorem limL (X : Env) (f : FuncId) : LimL (fun m => loopN X (callN X m) f m) (Lo X f) := fun c s r h => by
 obtain ⟨n, hn⟩ := last_some.1 h
 exact loopN_lim n c s r (hn n (Nat.le_refl n)) (fun m => m) fun b => ⟨b, fun m hm => hm⟩
theorem Even.succ {α : Type} {x : Nat -> Option α} {r : α} (h : Even (fun m => x (m + 1)) r) : Even x r := by
 obtain ⟨n, hn⟩ := h
 refine ⟨n + 1, fun m hm => ?_⟩
 obtain ⟨k, rfl⟩ : ∃ k, m = k + 1 := ⟨m - 1, by omega⟩
 exact hn k (by omega)
theorem D_fn {X : Env} {f : FuncId} (hp : X.pin f = none) {cap args : List V} {h : Heap} {r : V × Heap} (hh : evBody X (D X) (Lo X) f (args ++ cap) h = some r) : D X (.fn f cap) args h = some r := by
 refine last_some.2 (Even.succ (Even.of_eq (evBody_lim (Lf := fun m f => loopN X (callN X m) f m) (limD X) (limL X) hh) fun m => ?_))
 simp only [callN,callBody,hp]
theorem D_pin {X : Env} {f : FuncId} {b : Bool} (hp : X.pin f = some (.b b)) (h : Heap) : D X (.fn f []) [] h = some (.bool b, h) := by
 refine last_some.2 (Even.succ (Even.of_eq (.const rfl) fun m => ?_))
 simp only [callN,callBody,hp,pinRun]
theorem D_yld {X : Env} {l : Nat} {args : List V} {h : Heap} {r : V × Heap} (hh : evRound X (D X) (Lo X) l args h = some r) : D X (.yld l) args h = some r :=
 last_some.2 (Even.succ (evRound_lim (Lf := fun m f => loopN X (callN X m) f m) (limD X) (limL X) hh))
theorem Lo_of {X : Env} {f : FuncId} {c : Code} {s : St} {r : Ex × St} (hh : loopBody X (D X) (Lo X f) (Lo X f) f c s = some r) : Lo X f c s = some r :=
 last_some.2 (Even.succ (loopBody_lim (Cm := fun _ => D X) (Lm := fun m => loopN X (D X) f m) (Am := fun m => loopN X (D X) f m) (fun _ _ _ _ h => .const h) (fun _ _ _ h => last_some.1 h) (fun _ _ _ h => last_some.1 h) hh))
end Go.Ev
namespace Go.Ev
open Go.RowKit
def RoK (K : KM) : Prop := ∀ (b : Nat) (e : KB), K[b]? = some e -> ∃ g B S N, e = .c g B S N false
theorem RoK.free [Good] {K : KM} (h : RoK K) (o : Owner) (B : Nat) : ¬ OwnBy K [] o B := by
 intro ho
 cases o with
 | loc s => exact own_nil_loc ho
 | blk b =>
  rcases ho with ⟨g, S, N, k, h1, h2⟩ | h1 | ⟨l, t, h1⟩
  ·obtain ⟨_, _, _, _, e⟩ := h b _ h1; cases e; cases h2
  ·obtain ⟨_, _, _, _, e⟩ := h b _ h1; cases e
  ·obtain ⟨_, _, _, _, e⟩ := h b _ h1; cases e
 | lloc b s =>
  obtain ⟨B', l, ver, h1, _⟩ := ho
  obtain ⟨_, _, _, _, e⟩ := h b _ h1; cases e
theorem Fit.callsN {P : Program} {X : Env} (h : Fit P X) {n : Nat} {f : FuncId} {xs : List V} {hp h' : Heap} {v : V} (hn : callN X n (.fn f []) xs hp = some (v, h')) {K : KM} {w : World}
  (hm : @Mem (goodOf X) K [] [] hp w) (hro : RoK K) {ys : List Value} (hy : VRs K xs ys) :
  Calls P f ys.toArray w fun e w' => (∃ y K', e = .returned y /\ VR K' v y) /\ Below w.heap.size w w' := by
 letI := goodOf X
 have h1 := h.spec n _ _ _ _ _ hn K w hm
 have h2 := h1.2 ys (by simpa using hy)
 refine ((callsIn_wide (n := 0)).1 h2).mono fun e w' he => ?_
 cases e with
 | returned y =>
  obtain ⟨K', hv, _, hst⟩ := he
  exact ⟨⟨y, K', rfl, hv⟩, hst.os, hst.tape, hst.output, hst.size, fun k hk => hst.same k hk fun o ho => hro.free o k ho⟩
 | panicked ch => exact he.elim
 | outgrown => exact he.elim
theorem Fit.calls {P : Program} {X : Env} (h : Fit P X) {f : FuncId} {xs : List V} {hp h' : Heap} {v : V} (hD : D X (.fn f []) xs hp = some (v, h')) {K : KM} {w : World}
  (hm : @Mem (goodOf X) K [] [] hp w) (hro : RoK K) {ys : List Value} (hy : VRs K xs ys) :
  Calls P f ys.toArray w fun e w' => (∃ y K', e = .returned y /\ VR K' v y) /\ Below w.heap.size w w' := by
 obtain ⟨n, hn⟩ := last_some.1 hD
 exact h.callsN (hn n (Nat.le_refl n)) hm hro hy
theorem Fit.law {P : Program} {X : Env} (h : Fit P X) {f : FuncId} {xs : List V} {hp h' : Heap} (hD : D X (.fn f []) xs hp = some (.bool true, h')) {K : KM} {w : World}
  (hm : @Mem (goodOf X) K [] [] hp w) (hro : RoK K) {ys : List Value} (hy : VRs K xs ys) :
  Calls P f ys.toArray w fun e w' => e = .returned (.bool true) /\ Below w.heap.size w w' := by
 refine (h.calls hD hm hro hy).mono fun e w' ⟨⟨y, K', he, hv⟩, hb⟩ => ⟨?_, hb⟩
 rw [he]
 simp only [VR] at hv
 rw [hv]
theorem Mem.read [Good] {K : KM} {hp : Heap} {w : World} (hm : Mem K [] [] hp w) (hro : RoK K) {B S : Nat} {c : List V} {c' : Array Value} {ty : TypeId} {fr : Nat × Nat}
  (hB : w.heap[B]? = some (.cells c' ty fr)) (hN : S + c.length <= c'.size) (hc : CR K c c' S) :
  Mem (K ++ [.c 0 B S c'.size false]) [] [] (hp ++ [.cells 0 false c]) w /\ RoK (K ++ [.c 0 B S c'.size false]) := by
 have hle := KM.le_append K (.c 0 B S c'.size false)
 have hro' : RoK (K ++ [.c 0 B S c'.size false]) := by
  intro b e he
  rcases getElem?_snoc he with h1 | ⟨_, h1⟩
  ·exact hro b e h1
  ·exact ⟨_, _, _, _, h1⟩
 refine ⟨⟨⟨rfl, fun s ver c h => by simp at h⟩, ⟨by simp [hm.hr.1], fun b x hx => ?_⟩, ⟨fun o o' B' h1 _ => absurd h1 (hro'.free o B'), fun o B' h1 => absurd h1 (hro'.free o B'), fun b g B' S' N' hb => ⟨?_, fun o => hro'.free o B'⟩⟩⟩, hro'⟩
 ·rcases getElem?_snoc hx with h1 | ⟨h1, rfl⟩
  ·obtain ⟨e, he, hb⟩ := hm.hr.2 b x h1
   refine ⟨e, ?_, hb.keep hle fun _ _ => rfl⟩
   rw [List.getElem?_append_left (List.getElem?_eq_some_iff.1 he).1]; exact he
  ·refine ⟨.c 0 B S c'.size false, ?_, B, S, c'.size, rfl, c', ty, fr, hB, rfl, hN, hc.mono hle, fun h => by cases h⟩
   rw [h1, hm.hr.1, List.getElem?_append_right (Nat.le_refl _)]; simp
 ·rcases getElem?_snoc hb with h1 | ⟨_, h1⟩
  ·exact (hm.inv.ro b g B' S' N' h1).1
  ·cases h1
   exact (Array.getElem?_eq_some_iff.1 hB).1
theorem mem_nil [Good] (w : World) : Mem [] [] [] [] w /\ RoK [] :=
 ⟨⟨⟨rfl, fun s ver c h => by simp at h⟩, ⟨rfl, fun b x h => by simp at h⟩, ⟨fun o o' B h1 _ => absurd h1 (RoK.free (fun b e h => by simp at h) o B), fun o B h1 => absurd h1 (RoK.free (fun b e h => by simp at h) o B), fun b g B S N h => by simp at h⟩⟩, fun b e h => by simp at h⟩
theorem Fit.closed {P : Program} {X : Env} (h : Fit P X) {n : Nat} {f : FuncId} {b : Bool}
  (hn : ((callN X n (.fn f []) [] []).map fun r => match r.1 with | .bool b => some b | _ => none) = some (some b)) (w : World) :
  Calls P f #[] w fun e w' => e = .returned (.bool b) /\ Below w.heap.size w w' := by
 letI := goodOf X
 cases hc : callN X n (.fn f []) [] [] with
 | none => rw [hc] at hn; cases hn
 | some r =>
  obtain ⟨v, h'⟩ := r
  rw [hc] at hn
  simp only [Option.map_some,Option.some.injEq] at hn
  obtain ⟨hm, hro⟩ := mem_nil w
  refine (h.callsN hc hm hro (ys := []) rfl).mono fun e w' ⟨⟨y, K', he, hv⟩, hb⟩ => ⟨?_, hb⟩
  rw [he]
  cases v <;> simp at hn
  subst hn
  simp only [VR] at hv
  rw [hv]
def Env.pins (X : Env) (p : FuncId -> Option Pin) : Env := { X with pin := p }
theorem codeChk_pins (X : Env) (p : FuncId -> Option Pin) (f : FuncId) : ∀ c : Code, codeChk (X.pins p) f c = codeChk X f c := by
 intro c
 induction c with
 | region id ops draw => rfl
 | seq a b iha ihb => simp only [codeChk,iha,ihb]
 | cond c a b iha ihb => simp only [codeChk,iha,ihb]
 | block id c ih => simp only [codeChk,ih]
 | scope c ih => simp only [codeChk,ih]
 | loop c ih => simp only [codeChk,ih]
 | rangeFunc g ps a b iha ihb => simp only [codeChk,iha,ihb]
 | _ => rfl
theorem bodyChk_pins (X : Env) (p : FuncId -> Option Pin) (P : Program) (f : FuncId) : bodyChk (X.pins p) P f = bodyChk X P f := by
 unfold bodyChk
 split
 ·split
  ·rw [codeChk_pins]
  ·rfl
 ·rfl
theorem planOk_pins (X : Env) (p : FuncId -> Option Pin) (f : FuncId) (ops : Array Oper) (B : Array Nat) (π : List PE) : PlanOk (X.pins p) f ops B π ↔ PlanOk X f ops B π :=
 ⟨fun h => ⟨h.len, h.nodup, h.lt, h.all, h.tab, h.pairs, h.lin, h.entry, h.still⟩, fun h => ⟨h.len, h.nodup, h.lt, h.all, h.tab, h.pairs, h.lin, h.entry, h.still⟩⟩
theorem dOk_pins (X : Env) (p : FuncId -> Option Pin) : DOk (X.pins p) = DOk X := by
 funext f id ops
 exact propext ⟨Or.imp (fun ⟨B, h⟩ => ⟨B, (planOk_pins X p f ops B _).1 h⟩) (fun h => h), Or.imp (fun ⟨B, h⟩ => ⟨B, (planOk_pins X p f ops B _).2 h⟩) (fun h => h)⟩
theorem goodOf_pins (X : Env) (p : FuncId -> Option Pin) : goodOf (X.pins p) = goodOf X := by unfold goodOf; rw [dOk_pins]
theorem Fit.pinsFit {P : Program} {X : Env} (h : Fit P X) {p : FuncId -> Option Pin} (hp : ∀ f q, p f = some q -> @PinOk (goodOf X) P f q) : Fit P (X.pins p) :=
 ⟨h.ty, h.body, h.mixed, h.types, fun f hf => (bodyChk_pins X p P f).trans (h.bodies f hf), fun f q hq => by rw [goodOf_pins]; exact hp f q hq⟩
end Go.Ev
namespace Go.Ev
open Go.RowKit
def tiles (T : TypeId -> TI) : List (Nat × TypeId) -> Nat -> Nat -> Bool
 | [], o, n => decide (o = n)
 | p :: r, o, n => decide (p.1 = o) && tiles T r (o + (T p.2).size) n
def plainT (T : TypeId -> TI) : Nat -> TypeId -> Bool
 | 0, _ => false
 | d + 1, t => match (T t).desc with
  | .bool | .int _ | .str => true
  | .slice e => decide (0 < (T e).size) && plainT T d e
  | .struct fs => tiles T fs 0 (T t).size && fs.all fun p => plainT T d p.2
  | .arr n e => decide (n * (T e).size = (T t).size) && plainT T d e
  | _ => false
def Fits (T : TypeId -> TI) (h : Heap) : Nat -> TypeId -> List V -> Prop
 | 0, _, _ => False
 | d + 1, t, cs => match (T t).desc with
  | .bool => ∃ b, cs = [.bool b]
  | .int k => ∃ i, cs = [.int k i] /\ (Lit.int k i).wf = true
  | .str => ∃ s : ByteArray, cs = [.str s] /\ s.size <= maxLen
  | .slice e => cs = [.sl .nil 0 0 0] \/ cs = [.sl .any 0 0 1] \/ ∃ b len cap full, cs = [.sl (.at b 0 0) len cap 0] /\ 0 < cap /\ len <= cap /\ cap <= maxLen /\ h[b]? = some (.cells 0 false full) /\
    full.length = cap * (T e).size /\ ∀ i, i < cap -> Fits T h d e ((full.drop (i * (T e).size)).take (T e).size)
  | .struct fs => cs.length = (T t).size /\ ∀ p ∈ fs, Fits T h d p.2 ((cs.drop p.1).take (T p.2).size)
  | .arr n e => cs.length = (T t).size /\ ∀ i, i < n -> Fits T h d e ((cs.drop (i * (T e).size)).take (T e).size)
  | _ => False
theorem Fits.mono {T : TypeId -> TI} {h : Heap} (g : Heap) : ∀ {d : Nat} {t : TypeId} {cs : List V}, Fits T h d t cs -> Fits T (h ++ g) d t cs := by
 intro d
 induction d with
 | zero => intro t cs hf; exact hf
 | succ d ih =>
  intro t cs hf
  unfold Fits at hf ⊢
  split at hf
  ·exact hf
  ·exact hf
  ·exact hf
  ·rcases hf with hf | hf | ⟨b, len, cap, full, h1, h2, h3, h4, h5, h6, h7⟩
   ·exact .inl hf
   ·exact .inr (.inl hf)
   ·exact .inr (.inr ⟨b, len, cap, full, h1, h2, h3, h4, by rw [List.getElem?_append_left (List.getElem?_eq_some_iff.1 h5).1]; exact h5, h6, fun i hi => ih (h7 i hi)⟩)
  ·exact ⟨hf.1, fun p hp => ih (hf.2 p hp)⟩
  ·exact ⟨hf.1, fun i hi => ih (hf.2 i hi)⟩
  ·exact hf
theorem KM.le_apps (K K' : KM) : KM.le K (K ++ K') := fun b x hx => by
 refine ⟨x, ?_, x.le_refl⟩
 rw [List.getElem?_append_left (List.getElem?_eq_some_iff.1 hx).1]; exact hx
theorem desc_of {P : Program} {t : TypeId} {d : TD} (h : (tyOf P t).desc = d) (hd : d ≠ .other) : ∃ u, P.underlying t = some u /\ descOf u = d := by
 simp only [tyOf] at h
 cases hlt : decide (t < P.types.size) with
 | false => rw [hlt] at h; simp only [cond_false] at h; exact absurd h.symm hd
 | true =>
  rw [hlt] at h
  simp only [cond_true] at h
  cases hu : P.underlying t with
  | none => rw [hu] at h; simp only [Option.map_none,Option.getD_none] at h; exact absurd h.symm hd
  | some u => rw [hu] at h; simp only [Option.map_some,Option.getD_some] at h; exact ⟨u, rfl, h⟩
theorem flat_part {α : Type} : ∀ (L : List (List α)) (i : Nat) (x : List α), L[i]? = some x -> (L.flatten.drop ((L.take i).flatten.length)).take x.length = x
 | [], i, x, h => by simp at h
 | a :: L, 0, x, h => by
  simp at h; subst h
  simp
 | a :: L, i + 1, x, h => by
  have ih := flat_part L i x (by simpa using h)
  simp only [List.take_succ_cons,List.flatten_cons,List.length_append]
  rw [<- List.drop_drop, List.drop_left]
  exact ih
section
variable [Good] {H : Type} {enc : TypeId × Value -> H} {P : Program} {w : World}
def Got (P : Program) (w : World) (d : Nat) (K : KM) (hp : Heap) (t : TypeId) (cs : List Value) : Prop :=
 ∃ K' hp' xs, Mem (K ++ K') [] [] (hp ++ hp') w /\ RoK (K ++ K') /\ VRs (K ++ K') xs cs /\ Fits (tyOf P) (hp ++ hp') d t xs /\ xs.all isCell = true
theorem got_seq {d : Nat} : ∀ (segs : List (TypeId × List Value)), (∀ p ∈ segs, ∀ K hp, Mem K [] [] hp w -> RoK K -> Got P w d K hp p.1 p.2) -> ∀ K hp, Mem K [] [] hp w -> RoK K ->
  ∃ (K' : KM) (hp' : Heap) (xss : List (List V)), Mem (K ++ K') [] [] (hp ++ hp') w /\ RoK (K ++ K') /\ VRs (K ++ K') xss.flatten (segs.map (·.2)).flatten /\ xss.flatten.all isCell = true /\ xss.length = segs.length /\
   ∀ (i : Nat) (p : TypeId × List Value), segs[i]? = some p -> ∃ xs, xss[i]? = some xs /\ xs.length = p.2.length /\ Fits (tyOf P) (hp ++ hp') d p.1 xs
 | [], _, K, hp, hm, hro => ⟨[], [], [], by simpa using hm, by simpa using hro, by simp [VRs], rfl, rfl, fun i p h => by simp at h⟩
 | p :: segs, hg, K, hp, hm, hro => by
  obtain ⟨K1, hp1, xs, hm1, hro1, hv1, hf1, hc1⟩ := hg p (by simp) K hp hm hro
  obtain ⟨K2, hp2, xss, hm2, hro2, hv2, hc2, hl2, hf2⟩ := got_seq segs (fun q hq => hg q (by simp [hq])) (K ++ K1) (hp ++ hp1) hm1 hro1
  refine ⟨K1 ++ K2, hp1 ++ hp2, xs :: xss, by simpa using hm2, by simpa using hro2, ?_, by simp [hc1, hc2], by simp [hl2], ?_⟩
  ·simp only [List.map_cons,List.flatten_cons]
   rw [<- List.append_assoc]
   exact (VRs.mono (KM.le_apps _ _) _ _ hv1).append hv2
  ·intro i q hq
   cases i with
   | zero =>
    simp at hq; subst hq
    exact ⟨xs, rfl, hv1.length.symm, by rw [<- List.append_assoc]; exact hf1.mono _⟩
   | succ i =>
    obtain ⟨ys, h1, h2, h3⟩ := hf2 i q (by simpa using hq)
    exact ⟨ys, by simpa using h1, h2, by rw [<- List.append_assoc]; exact h3⟩
omit [Good] in
theorem parts_flat {α : Type} (s : Nat) : ∀ (n : Nat) (l : List α), l.length = n * s -> ((List.range n).map fun i => (l.drop (i * s)).take s).flatten = l
 | 0, l, h => by
  have h0 : l.length = 0 := by omega
  simp [List.length_eq_zero_iff.1 h0]
 | n + 1, l, h => by
  have hl : (l.take (n * s)).length = n * s := by rw [List.length_take, h, Nat.add_mul]; omega
  have e : ((List.range n).map fun i => (l.drop (i * s)).take s) = (List.range n).map fun i => ((l.take (n * s)).drop (i * s)).take s := by
   apply List.map_congr_left
   intro i hi
   have hi' : i < n := List.mem_range.1 hi
   rw [List.drop_take, List.take_take]
   have : (i + 1) * s <= n * s := Nat.mul_le_mul_right s hi'
   rw [Nat.add_mul] at this
   rw [Nat.min_eq_left (by omega)]
  rw [List.range_succ, List.map_append, List.flatten_append, e, parts_flat s n _ hl]
  simp only [List.map_cons,List.map_nil,List.flatten_cons,List.flatten_nil,List.append_nil]
  rw [List.take_of_length_le (l := l.drop (n * s)) (by rw [List.length_drop, h, Nat.add_mul]; omega), List.take_append_drop]
omit [Good] in
theorem flat_len {α : Type} {s : Nat} : ∀ {L : List (List α)}, (∀ x ∈ L, x.length = s) -> L.flatten.length = L.length * s
 | [], _ => by simp
 | a :: L, h => by
  have h1 := flat_len (L := L) (s := s) fun x hx => h x (List.mem_cons_of_mem _ hx)
  have h2 := h a (by simp)
  simp only [List.flatten_cons,List.length_append,List.length_cons,h1,h2,Nat.add_mul]
  omega
omit [Good] in
theorem flat_part_same {α : Type} {s : Nat} {L : List (List α)} (h : ∀ x ∈ L, x.length = s) {i : Nat} {x : List α} (hx : L[i]? = some x) : (L.flatten.drop (i * s)).take s = x := by
 have h1 := flat_part L i x hx
 have hi := (List.getElem?_eq_some_iff.1 hx).1
 rw [flat_len (fun y hy => h y (List.mem_of_mem_take hy)), List.length_take, Nat.min_eq_left (by omega), h x (List.mem_of_getElem? hx)] at h1
 exact h1
omit [Good] in
theorem tiles_flat {T : TypeId -> TI} {α : Type} : ∀ (fs : List (Nat × TypeId)) (o n : Nat) (l : List α), tiles T fs o n = true -> l.length = n -> (fs.map fun p => (l.drop p.1).take (T p.2).size).flatten = l.drop o
 | [], o, n, l, h, hl => by
  simp only [tiles,decide_eq_true_eq] at h
  simp [List.drop_of_length_le (show l.length <= o by omega)]
 | p :: fs, o, n, l, h, hl => by
  simp only [tiles,Bool.and_eq_true,decide_eq_true_eq] at h
  obtain ⟨rfl, h⟩ := h
  simp only [List.map_cons,List.flatten_cons]
  rw [tiles_flat fs _ n l h hl, <- List.drop_drop, List.take_append_drop]
omit [Good] in
theorem tiles_le {T : TypeId -> TI} : ∀ {fs : List (Nat × TypeId)} {o n : Nat}, tiles T fs o n = true -> o <= n
 | [], o, n, h => by simp only [tiles,decide_eq_true_eq] at h; omega
 | p :: fs, o, n, h => by
  simp only [tiles,Bool.and_eq_true,decide_eq_true_eq] at h
  have := tiles_le h.2
  omega
omit [Good] in
theorem tiles_part {T : TypeId -> TI} {α : Type} : ∀ (fs : List (Nat × TypeId)) (o n : Nat) (L : List (List α)) (pre : List α), tiles T fs o n = true -> L.length = fs.length -> pre.length = o ->
  (∀ (i : Nat) (p : Nat × TypeId), fs[i]? = some p -> ∃ x, L[i]? = some x /\ x.length = (T p.2).size) -> ∀ (i : Nat) (p : Nat × TypeId), fs[i]? = some p -> ∃ x, L[i]? = some x /\ (((pre ++ L.flatten).drop p.1).take (T p.2).size) = x
 | [], o, n, L, pre, h, hl, hp, hx, i, p, hi => by simp at hi
 | q :: fs, o, n, [], pre, h, hl, hp, hx, i, p, hi => by simp at hl
 | q :: fs, o, n, a :: L, pre, h, hl, hp, hx, i, p, hi => by
  simp only [tiles,Bool.and_eq_true,decide_eq_true_eq] at h
  obtain ⟨h1, h2⟩ := h
  cases i with
  | zero =>
   simp at hi; subst hi
   obtain ⟨x, hx1, hx2⟩ := hx 0 q (by simp)
   simp at hx1; subst hx1
   refine ⟨a, by simp, ?_⟩
   rw [show q.1 = pre.length by omega, List.drop_left, List.flatten_cons, <- hx2, List.take_left]
  | succ i =>
   obtain ⟨x0, hx1, hx2⟩ := hx 0 q (by simp)
   simp at hx1; subst hx1
   have := tiles_part fs (o + (T q.2).size) n L (pre ++ a) h2 (by simpa using hl) (by simp [hp, hx2]) (fun j r hj => by simpa using hx (j + 1) r (by simpa using hj)) i p (by simpa using hi)
   simpa using this
omit [Good] in
theorem addr_none {a : Addr} (h : a.spot = none) (n : Nat) : a.add n = ⟨a.block, a.off + n, none⟩ := by
 cases a
 simp only at h
 subst h
 unfold Addr.add
 split
 ·rename_i h0; subst h0; rfl
 ·rfl
omit [Good] in
theorem rows_get {w : World} {a : Addr} {n : Nat} {vs : List Value} (h : w.cells? 0 a n = some vs) : vs.length = n /\ ∀ i, i < n -> w.cell? (a.add i) = vs[i]? := by
 unfold World.cells? at h
 rw [if_pos (Nat.zero_le _)] at h
 exact ⟨by simpa using mapM_some_length h, fun i hi => mapM_some_get h i i (by simp [hi])⟩
theorem got_of : ∀ (d : Nat) (t : TypeId), plainT (tyOf P) d t = true -> ∀ (n : Nat) (cs : List Value) (x : DataW H × List MemPlace), DataW.trod enc P w 0 (fun _ => true) true n t cs = some x ->
  (cs.length = (tyOf P t).size \/ True) -> ∀ K hp, Mem K [] [] hp w -> RoK K -> Got P w d K hp t cs := by
 intro d
 induction d with
 | zero => intro t h; cases h
 | succ d ih =>
  intro t hp n cs x hx _ K hp0 hm hro
  unfold plainT at hp
  split at hp
  ·rename_i hd
   obtain ⟨u, hu, hdu⟩ := desc_of hd (by simp)
   cases u <;> simp only [descOf] at hdu <;> try (cases hdu)
   obtain ⟨b, rfl, _⟩ := DataW.trod_bool hu hx
   exact ⟨[], [], [.bool b], by simpa using hm, by simpa using hro, by simp [VRs, VR], by unfold Fits; rw [hd]; exact ⟨b, rfl⟩, rfl⟩
  ·rename_i k hd
   obtain ⟨u, hu, hdu⟩ := desc_of hd (by simp)
   cases u <;> simp only [descOf] at hdu <;> try (cases hdu)
   obtain ⟨i, rfl, _, hw⟩ := DataW.trod_int hu hx
   exact ⟨[], [], [.int k i], by simpa using hm, by simpa using hro, by simp [VRs, VR], by unfold Fits; rw [hd]; exact ⟨i, rfl, hw⟩, rfl⟩
  ·rename_i hd
   obtain ⟨u, hu, hdu⟩ := desc_of hd (by simp)
   cases u <;> simp only [descOf] at hdu <;> try (cases hdu)
   obtain ⟨s, rfl, _, hs⟩ := DataW.trod_string hu hx
   exact ⟨[], [], [.str s], by simpa using hm, by simpa using hro, by simp [VRs, VR], by unfold Fits; rw [hd]; exact ⟨s, rfl, hs⟩, rfl⟩
  ·rename_i e hd
   obtain ⟨u, hu, hdu⟩ := desc_of hd (by simp)
   cases u <;> simp only [descOf] at hdu <;> try (cases hdu)
   simp only [Bool.and_eq_true,decide_eq_true_eq] at hp
   obtain ⟨hsz, hpe⟩ := hp
   have hsz' : 0 < P.cellsOf e := hsz
   rcases DataW.trod_slice hu hx with ⟨rfl, _⟩ | ⟨a, len, cap, elems, rest, m, rfl, rfl, _, _, hlc, hcm, hel, hel2, hsp, _⟩
   ·exact ⟨[], [], [.sl .nil 0 0 0], by simpa using hm, by simpa using hro, by simp [VRs, VR, SlR], by unfold Fits; rw [hd]; exact .inl rfl, rfl⟩
   ·obtain ⟨hrl, hr2⟩ := hsp rfl
    by_cases hc0 : cap = 0
    ·subst hc0
     obtain rfl : len = 0 := by omega
     refine ⟨[], [], [.sl .any 0 0 1], by simpa using hm, by simpa using hro, ?_, by unfold Fits; rw [hd]; exact .inr (.inl rfl), rfl⟩
     simp only [List.append_nil,VRs,VR,SlR]
     exact ⟨_, [], rfl, ⟨trivial, trivial, by omega, a, 0, rfl⟩, rfl⟩
    ·have hall : ∀ i, i < cap -> ∃ vs y, w.cells? 0 (a.add (i * P.cellsOf e)) (P.cellsOf e) = some vs /\ DataW.trod enc P w 0 (fun _ => true) true m e vs = some y := by
      intro i hi
      have : ∃ z, (w.cells? 0 (a.add (i * P.cellsOf e)) (P.cellsOf e)).bind (DataW.trod enc P w 0 (fun _ => true) true m e) = some z := by
       by_cases hil : i < len
       ·rw [hel2 i hil]; exact ⟨elems[i]'(by omega), by simp⟩
       ·have := hr2 (i - len) (by omega)
        rw [show len + (i - len) = i by omega] at this
        rw [this]; exact ⟨rest[i - len]'(by omega), by simp⟩
      obtain ⟨z, hz⟩ := this
      rw [Option.bind_eq_some_iff] at hz
      obtain ⟨vs, h1, h2⟩ := hz
      exact ⟨vs, z, h1, h2⟩
     obtain ⟨vs0, y0, hv0, _⟩ := hall 0 (by omega)
     have hv00 := rows_get hv0
     have hcell0 : ∃ v, w.cell? a = some v := by
      have h1 := hv00.2 0 hsz'
      rw [show (a.add (0 * P.cellsOf e)).add 0 = a by simp [Addr.add]] at h1
      rw [h1]
      exact ⟨vs0[0]'(by omega), by simp⟩
     have hblk : ∃ c ty fr, w.heap[a.block]? = some (.cells c ty fr) /\ a.spot = none := by
      obtain ⟨v, hv⟩ := hcell0
      unfold World.cell? at hv
      split at hv
      ·rename_i c ty fr hh
       refine ⟨c, ty, fr, hh, ?_⟩
       split at hv
       ·cases hv
       ·rename_i hs; simpa using hs
      ·cases hv
     obtain ⟨c, ty, fr, hblk, hspot⟩ := hblk
     have hcell : ∀ j, j < cap * P.cellsOf e -> ∃ v, c[a.off + j]? = some v /\ v = c[a.off + j]! := by
      intro j hj
      have hdiv : j / P.cellsOf e < cap := (Nat.div_lt_iff_lt_mul hsz').2 hj
      obtain ⟨vs, y, h1, _⟩ := hall (j / P.cellsOf e) hdiv
      have h2 := rows_get h1
      have h3 := h2.2 (j % P.cellsOf e) (Nat.mod_lt _ hsz')
      have hlt : j % P.cellsOf e < vs.length := by rw [h2.1]; exact Nat.mod_lt _ hsz'
      rw [show (a.add (j / P.cellsOf e * P.cellsOf e)).add (j % P.cellsOf e) = ⟨a.block, a.off + j, none⟩ by
       have := Nat.div_add_mod' j (P.cellsOf e)
       rw [addr_none hspot, addr_none rfl]
       simp only [Nat.add_assoc]; rw [this]] at h3
      unfold World.cell? at h3
      simp only [hblk,hspot,Option.isSome_none,Bool.false_eq_true,if_false] at h3
      rw [List.getElem?_eq_getElem hlt] at h3
      exact ⟨_, h3, by rw [getElem!_def, h3]⟩
     let l : List Value := (List.range (cap * P.cellsOf e)).map fun j => c[a.off + j]!
     have hll : l.length = cap * P.cellsOf e := by simp [l]
     have hlg : ∀ j, j < cap * P.cellsOf e -> c[a.off + j]? = l[j]? := by
      intro j hj
      obtain ⟨v, h1, h2⟩ := hcell j hj
      rw [h1, h2]
      simp [l, hj]
     have hseg : ∀ i, i < cap -> ∃ y, DataW.trod enc P w 0 (fun _ => true) true m e ((l.drop (i * P.cellsOf e)).take (P.cellsOf e)) = some y := by
      intro i hi
      obtain ⟨vs, y, h1, h2⟩ := hall i hi
      have h3 := rows_get h1
      have e1 : (l.drop (i * P.cellsOf e)).take (P.cellsOf e) = vs := by
       apply List.ext_getElem?
       intro j
       by_cases hj : j < P.cellsOf e
       ·rw [List.getElem?_take, if_pos hj, List.getElem?_drop, <- h3.2 j hj]
        have hij : i * P.cellsOf e + j < cap * P.cellsOf e := by
         have := Nat.mul_le_mul_right (P.cellsOf e) (show i + 1 <= cap from hi)
         rw [Nat.add_mul] at this; omega
        rw [<- hlg _ hij]
        rw [addr_none hspot, addr_none rfl]
        unfold World.cell?
        simp only [hblk,hspot,Option.isSome_none,Bool.false_eq_true,if_false,Nat.add_assoc]
       ·rw [List.getElem?_take, if_neg hj, List.getElem?_eq_none (by omega)]
      rw [e1]; exact ⟨y, h2⟩
     obtain ⟨K1, hp1, xss, hm1, hro1, hv1, hc1, hl1, hf1⟩ := got_seq (P := P) (d := d) ((List.range cap).map fun i => (e, (l.drop (i * P.cellsOf e)).take (P.cellsOf e))) (by
      intro p hpm K2 hp2 hm2 hro2
      obtain ⟨i, hi, rfl⟩ := List.mem_map.1 hpm
      obtain ⟨y, hy⟩ := hseg i (List.mem_range.1 hi)
      exact ih e hpe m _ y hy (.inr trivial) K2 hp2 hm2 hro2) K hp0 hm hro
     have eflat : (((List.range cap).map fun i => (e, (l.drop (i * P.cellsOf e)).take (P.cellsOf e))).map (·.2)).flatten = l := by
      rw [List.map_map]
      exact parts_flat (P.cellsOf e) cap l hll
     rw [eflat] at hv1
     have hxl : xss.flatten.length = cap * P.cellsOf e := by rw [<- hv1.length, hll]
     have hsz2 : a.off + cap * P.cellsOf e <= c.size := by
      have hpos : 0 < cap * P.cellsOf e := Nat.mul_pos (by omega) hsz'
      obtain ⟨v, h1, _⟩ := hcell (cap * P.cellsOf e - 1) (by omega)
      have := (Array.getElem?_eq_some_iff.1 h1).1
      omega
     have hcr : CR (K ++ K1) xss.flatten c a.off := by
      intro j v hj
      have hjl : j < cap * P.cellsOf e := by rw [<- hxl]; exact (List.getElem?_eq_some_iff.1 hj).1
      refine ⟨List.all_eq_true.1 hc1 v (List.mem_of_getElem? hj), ?_⟩
      obtain ⟨x, h1, h2⟩ := hv1.get j v hj
      exact ⟨x, by rw [hlg j hjl]; exact h1, h2⟩
     have hm2 := Mem.read hm1 hro1 hblk (S := a.off) (c := xss.flatten) (by rw [hxl]; exact hsz2) hcr
     have hxs : ∀ x ∈ xss, x.length = P.cellsOf e := by
      intro x hx
      obtain ⟨i, hi⟩ := List.getElem?_of_mem hx
      have hi' : i < cap := by have := (List.getElem?_eq_some_iff.1 hi).1; simp at hl1; omega
      obtain ⟨xs, h1, h2, _⟩ := hf1 i (e, (l.drop (i * P.cellsOf e)).take (P.cellsOf e)) (by simp [hi'])
      rw [hi] at h1; cases h1
      rw [h2]
      have := Nat.mul_le_mul_right (P.cellsOf e) (show i + 1 <= cap from hi')
      rw [Nat.add_mul] at this
      simp [hll]; omega
     refine ⟨K1 ++ [.c 0 a.block a.off c.size false], hp1 ++ [.cells 0 false xss.flatten], [.sl (.at (hp0 ++ hp1).length 0 0) len cap 0], by simpa using hm2.1, by simpa using hm2.2, ?_, ?_, rfl⟩
     ·simp only [VRs,VR,SlR]
      refine ⟨_, [], rfl, ⟨a, cap, rfl, ⟨0, a.block, a.off, c.size, false, ?_, by omega, fun _ => ?_⟩, Nat.le_refl _, fun _ => rfl, fun h => absurd h (by omega)⟩, rfl⟩
      ·have : (hp0 ++ hp1).length = (K ++ K1).length := hm1.hr.1
       rw [<- List.append_assoc, this]; simp
      ·cases a; simp_all
     ·unfold Fits
      rw [hd]
      refine .inr (.inr ⟨_, len, cap, xss.flatten, rfl, by omega, hlc, hcm, ?_, by exact hxl, fun i hi => ?_⟩)
      ·rw [<- List.append_assoc]; simp
      ·obtain ⟨xs, h1, h2, h3⟩ := hf1 i (e, (l.drop (i * P.cellsOf e)).take (P.cellsOf e)) (by simp [hi])
       have := flat_part_same hxs h1
       rw [show (tyOf P e).size = P.cellsOf e from rfl, this, <- List.append_assoc]
       exact h3.mono _
  ·rename_i fs hd
   obtain ⟨u, hu, hdu⟩ := desc_of hd (by simp)
   cases u <;> simp only [descOf] at hdu <;> try (cases hdu)
   rename_i fs'
   simp only [Bool.and_eq_true] at hp
   obtain ⟨ht, hpf⟩ := hp
   obtain ⟨ys, m, rfl, _, hcl, hyl, hyf⟩ := DataW.trod_struct hu hx
   have hcl' : cs.length = (tyOf P t).size := hcl
   have hin : ∀ (fs' : List (Nat × TypeId)) (o : Nat), tiles (tyOf P) fs' o (tyOf P t).size = true -> ∀ p ∈ fs', p.1 + (tyOf P p.2).size <= (tyOf P t).size := by
    intro fs'
    induction fs' with
    | nil => intro o _ p hp; cases hp
    | cons q r ihr =>
     intro o hti p hp
     simp only [tiles,Bool.and_eq_true,decide_eq_true_eq] at hti
     have := tiles_le hti.2
     rcases List.mem_cons.1 hp with rfl | hp
     ·omega
     ·exact ihr _ hti.2 p hp
   obtain ⟨K1, hp1, xss, hm1, hro1, hv1, hc1, hl1, hf1⟩ := got_seq (P := P) (d := d) ((fs'.toList.map fun f => (f.offset, f.type)).map fun p => (p.2, (cs.drop p.1).take (tyOf P p.2).size)) (by
    intro p hpm K2 hp2 hm2 hro2
    obtain ⟨q, hq, rfl⟩ := List.mem_map.1 hpm
    obtain ⟨f, hf, rfl⟩ := List.mem_map.1 hq
    obtain ⟨i, hi⟩ := Array.getElem?_of_mem (Array.mem_toList_iff.1 hf)
    have := hyf i f hi
    have hil := (Array.getElem?_eq_some_iff.1 hi).1
    exact ih f.type (List.all_eq_true.1 hpf _ hq) m _ (ys[i]'(by omega)) (this.trans (by simp)) (.inr trivial) K2 hp2 hm2 hro2) K hp0 hm hro
   have eflat : (((fs'.toList.map fun f => (f.offset, f.type)).map fun p => (p.2, (cs.drop p.1).take (tyOf P p.2).size)).map (·.2)).flatten = cs := by
    rw [List.map_map]
    exact tiles_flat (T := tyOf P) _ 0 _ cs ht hcl'
   rw [eflat] at hv1
   refine ⟨K1, hp1, xss.flatten, hm1, hro1, hv1, ?_, hc1⟩
   unfold Fits
   rw [hd]
   refine ⟨by rw [<- hv1.length]; exact hcl', fun p hpm => ?_⟩
   obtain ⟨i, hi⟩ := List.getElem?_of_mem hpm
   have hxx : ∀ (i : Nat) (p : Nat × TypeId), (fs'.toList.map fun f => (f.offset, f.type))[i]? = some p -> ∃ x, xss[i]? = some x /\ x.length = (tyOf P p.2).size := by
    intro i p hi
    obtain ⟨xs, h1, h2, _⟩ := hf1 i (p.2, (cs.drop p.1).take (tyOf P p.2).size) (by rw [List.getElem?_map, hi]; rfl)
    refine ⟨xs, h1, ?_⟩
    rw [h2]
    have := hin _ 0 ht p (List.mem_of_getElem? hi)
    simp [hcl']; omega
   obtain ⟨x1, h1, h2⟩ := tiles_part (T := tyOf P) _ 0 _ xss [] ht (by simpa using hl1) rfl hxx i p hi
   obtain ⟨xs, h3, _, h5⟩ := hf1 i (p.2, (cs.drop p.1).take (tyOf P p.2).size) (by rw [List.getElem?_map, hi]; rfl)
   rw [h1] at h3; cases h3
   simp only [List.nil_append] at h2
   rw [h2]; exact h5
  ·rename_i k e hd
   obtain ⟨u, hu, hdu⟩ := desc_of hd (by simp)
   cases u <;> simp only [descOf] at hdu <;> try (cases hdu)
   simp only [Bool.and_eq_true,decide_eq_true_eq] at hp
   obtain ⟨hsz, hpe⟩ := hp
   obtain ⟨ys, m, rfl, _, hcl, hyl, hyf⟩ := DataW.trod_array hu hx
   have hcl' : cs.length = k * P.cellsOf e := by rw [hcl]; exact hsz.symm
   obtain ⟨K1, hp1, xss, hm1, hro1, hv1, hc1, hl1, hf1⟩ := got_seq (P := P) (d := d) ((List.range k).map fun i => (e, (cs.drop (i * P.cellsOf e)).take (P.cellsOf e))) (by
    intro p hpm K2 hp2 hm2 hro2
    obtain ⟨i, hi, rfl⟩ := List.mem_map.1 hpm
    have hik := List.mem_range.1 hi
    exact ih e hpe m _ (ys[i]'(by omega)) ((hyf i hik).trans (by simp)) (.inr trivial) K2 hp2 hm2 hro2) K hp0 hm hro
   have eflat : (((List.range k).map fun i => (e, (cs.drop (i * P.cellsOf e)).take (P.cellsOf e))).map (·.2)).flatten = cs := by
    rw [List.map_map]
    exact parts_flat (P.cellsOf e) k cs hcl'
   rw [eflat] at hv1
   refine ⟨K1, hp1, xss.flatten, hm1, hro1, hv1, ?_, hc1⟩
   unfold Fits
   rw [hd]
   refine ⟨by rw [<- hv1.length]; exact hcl, fun i hi => ?_⟩
   have hxs : ∀ x ∈ xss, x.length = P.cellsOf e := by
    intro x hx
    obtain ⟨i, hi⟩ := List.getElem?_of_mem hx
    have hi' : i < k := by have := (List.getElem?_eq_some_iff.1 hi).1; simp at hl1; omega
    obtain ⟨xs, h1, h2, _⟩ := hf1 i (e, (cs.drop (i * P.cellsOf e)).take (P.cellsOf e)) (by simp [hi'])
    rw [hi] at h1; cases h1
    rw [h2]
    have := Nat.mul_le_mul_right (P.cellsOf e) (show i + 1 <= k from hi')
    rw [Nat.add_mul] at this
    simp [hcl']; omega
   obtain ⟨xs, h1, h2, h3⟩ := hf1 i (e, (cs.drop (i * P.cellsOf e)).take (P.cellsOf e)) (by simp [hi])
   have := flat_part_same hxs h1
   rw [show (tyOf P e).size = P.cellsOf e from rfl, this]
   exact h3
  ·cases hp
end
end Go.Ev
namespace Go.Ev
open Go.ChangeShapes Go.WideShapes Go.ChangeAt Go.RowKit
def argV (T : TypeId -> TI) (t : TypeId) (xs : List V) : V := match (T t).kind with
 | some true => .agg xs
 | _ => xs.headD .nilp
def argVs (T : TypeId -> TI) : List TypeId -> List (List V) -> List V
 | t :: ts, xs :: xss => argV T t xs :: argVs T ts xss
 | _, _ => []
def FitsAll (T : TypeId -> TI) (h : Heap) (d : Nat) : List TypeId -> List (List V) -> Prop
 | [], [] => True
 | t :: ts, xs :: xss => Fits T h d t xs /\ FitsAll T h d ts xss
 | _, _ => False
section
variable {H : Type} {enc : TypeId × Value -> H} {P : Program} {w : World}
theorem argV_ok {K : KM} {base : Nat} {d n : Nat} {t : TypeId} {v : Value} {x : DataW H × List MemPlace} {xs : List V} (hp : plainT (tyOf P) d t = true) (hval : Value.okWide P w .any base t v)
  (hx : DataW.trod enc P w 0 (fun _ => true) true n t v.cells.toList = some x) (hv : VRs K xs v.cells.toList) (hc : xs.all isCell = true) : VR K (argV (tyOf P) t xs) v := by
 cases d with
 | zero => cases hp
 | succ d =>
  unfold plainT at hp
  have one : ∀ (y : Value), v = y -> y.cells = #[y] -> (tyOf P t).kind = some false -> VR K (argV (tyOf P) t xs) v := by
   intro y e hy hk
   subst e
   rw [hy] at hv
   unfold argV
   rw [hk]
   cases xs with
   | nil => simp [VRs] at hv
   | cons a r =>
    simp only [VRs] at hv
    obtain ⟨y, ys, h1, h2, h3⟩ := hv
    simp at h1
    obtain ⟨rfl, rfl⟩ := h1
    exact h2
  have agg : (∃ cs, v = .agg cs) -> (tyOf P t).kind = some true -> VR K (argV (tyOf P) t xs) v := by
   intro ⟨cs, e⟩ hk
   subst e
   unfold argV
   rw [hk]
   simp only [VR]
   exact ⟨cs, rfl, hv, hc⟩
  split at hp
  ·rename_i hd
   obtain ⟨u, hu, hdu⟩ := desc_of hd (by simp)
   cases u <;> simp only [descOf] at hdu <;> try (cases hdu)
   obtain ⟨b, rfl⟩ := okWide_bool hu hval
   exact one _ rfl rfl (by simp [TI.kind, hd])
  ·rename_i k hd
   obtain ⟨u, hu, hdu⟩ := desc_of hd (by simp)
   cases u <;> simp only [descOf] at hdu <;> try (cases hdu)
   obtain ⟨b, rfl⟩ := okWide_int hu hval
   exact one _ rfl rfl (by simp [TI.kind, hd])
  ·rename_i hd
   obtain ⟨u, hu, hdu⟩ := desc_of hd (by simp)
   cases u <;> simp only [descOf] at hdu <;> try (cases hdu)
   obtain ⟨b, rfl⟩ := okWide_string hu hval
   exact one _ rfl rfl (by simp [TI.kind, hd])
  ·rename_i e hd
   obtain ⟨u, hu, hdu⟩ := desc_of hd (by simp)
   cases u <;> simp only [descOf] at hdu <;> try (cases hdu)
   obtain ⟨a, l, c, rfl⟩ := okWide_slice hu hval
   exact one _ rfl rfl (by simp [TI.kind, hd])
  ·rename_i fs hd
   obtain ⟨u, hu, hdu⟩ := desc_of hd (by simp)
   cases u <;> simp only [descOf] at hdu <;> try (cases hdu)
   obtain ⟨cs, rfl, _⟩ := okWide_struct hu hval
   exact agg ⟨cs, rfl⟩ (by simp [TI.kind, hd])
  ·rename_i k e hd
   obtain ⟨u, hu, hdu⟩ := desc_of hd (by simp)
   cases u <;> simp only [descOf] at hdu <;> try (cases hdu)
   have hval' := hval
   simp only [Value.okWide,hu] at hval'
   obtain ⟨cs, rfl, _⟩ := hval'
   exact agg ⟨cs, rfl⟩ (by simp [TI.kind, hd])
  ·cases hp
theorem args_ok [Good] {base d : Nat} : ∀ {ts : List TypeId} {vs : List Value} {ds : List (DataW H)} {ps : List MemPlace}, DataW.TrodAll enc P w 0 (fun _ => true) true ts vs ds ps ->
  (∀ (j : Nat) t v, ts[j]? = some t -> vs[j]? = some v -> Value.okWide P w .any base t v) -> ts.all (plainT (tyOf P) d) = true -> ∀ K hp, Mem K [] [] hp w -> RoK K ->
  ∃ (K' : KM) (hp' : Heap) (xss : List (List V)), Mem (K ++ K') [] [] (hp ++ hp') w /\ RoK (K ++ K') /\ VRs (K ++ K') (argVs (tyOf P) ts xss) vs /\ FitsAll (tyOf P) (hp ++ hp') d ts xss
 | [], vs, ds, ps, h, hval, hp, K, h0, hm, hro => by
  obtain ⟨rfl, _, _⟩ := trodAll_nil h
  exact ⟨[], [], [], by simpa using hm, by simpa using hro, by simp [argVs, VRs], trivial⟩
 | t :: ts, vs, ds, ps, h, hval, hp, K, h0, hm, hro => by
  obtain ⟨v, vs, dd, ds, p, q, rfl, rfl, rfl, hd, hr⟩ := trodAll_cons h
  simp only [List.all_cons,Bool.and_eq_true] at hp
  obtain ⟨n, hn⟩ := hd
  have hv0 := hval 0 t v rfl rfl
  obtain ⟨K1, hp1, xs, hm1, hro1, hv1, hf1, hc1⟩ := got_of (P := P) d t hp.1 n _ _ hn (.inr trivial) K h0 hm hro
  obtain ⟨K2, hp2, xss, hm2, hro2, hv2, hf2⟩ := args_ok hr (fun j t v h1 h2 => hval (j + 1) t v (by simpa using h1) (by simpa using h2)) hp.2 (K ++ K1) (h0 ++ hp1) hm1 hro1
  refine ⟨K1 ++ K2, hp1 ++ hp2, xs :: xss, by simpa using hm2, by simpa using hro2, ?_, ?_⟩
  ·simp only [argVs,VRs]
   refine ⟨v, vs, rfl, ?_, by simpa using hv2⟩
   rw [<- List.append_assoc]
   exact VR.mono (KM.le_apps _ _) _ _ (argV_ok hp.1 hv0 hn hv1 hc1)
  ·simp only [FitsAll]
   refine ⟨?_, by simpa using hf2⟩
   rw [<- List.append_assoc]
   exact hf1.mono _
theorem trodAll_behind (hl : laidOutB P = true) {W W' : World} (hb : Below W.heap.size W W') : ∀ {ts : List TypeId} {vs : List Value} {ds : List (DataW H)} {ps : List MemPlace},
  ts.all (fun t => P.readableRec t && decide (t < P.types.size)) = true -> DataW.TrodAll enc P W 0 (fun _ => true) true ts vs ds ps -> DataW.TrodAll enc P W' 0 (fun b => decide (b < W.heap.size)) true ts vs ds ps
 | [], vs, ds, ps, _, h => by
  obtain ⟨rfl, rfl, rfl⟩ := trodAll_nil h
  exact trodAll_mk0
 | t :: ts, vs, ds, ps, hr, h => by
  obtain ⟨v, vs, dd, ds, p, q, rfl, rfl, rfl, hd, hrest⟩ := trodAll_cons h
  simp only [List.all_cons,Bool.and_eq_true,decide_eq_true_eq] at hr
  exact trodAll_cons_mk (Below.trod hl hr.1.1 hr.1.2 hd hb (by obtain ⟨n, hn⟩ := hd; exact DataW.trod_lt n _ _ _ hn)) (trodAll_behind hl hb hr.2 hrest)
theorem lifted_of {C : Checked} {X : Env} (hfit : Fit C.prog X) {f : FuncId} {fn : Func} {s : ChangeSpec} {os : Os} {conds : List PathCond} (d : Nat) {tb : TypeId}
  (own : ownKnob C.prog.godebug = none) (started : os.Started) (noInit : C.prog.inits.idxOf? f = none) (hfn : C.prog.funcs[f]? = some fn)
  (witness : ∃ (w : World) (tape : Tape) (i : Input), w.os = os /\ (w.forCall tape i).Shaped C.prog /\ i.vars = [] /\ Input.okWide C.prog (w.forCall tape i) .any w.heap.size f i /\
   s.pre6 enc C.prog fn conds false (w.forCall tape i).memory i.args /\ ({} : Assume).holds C.prog (lone (Frame.enter C.prog f i.args .normal) [] (w.forCall tape i)))
  (hl : laidOutB C.prog = true) (hvars : s.vars = []) (hspec : ∀ ds : List (DataW H), ds.length = fn.params.size -> s.fn H ds = { results := [.lit (.bool true)], args := ds })
  (hres : fn.resultTypes = #[tb]) (hb : C.prog.underlying tb = some .bool)
  (hps : fn.params.toList.all (fun t => C.prog.readableRec t && decide (t < C.prog.types.size)) = true) (hpl : fn.params.toList.all (plainT (tyOf C.prog) d) = true)
  (law : ∀ (hp : Heap) (xss : List (List V)), FitsAll (tyOf C.prog) hp d fn.params.toList xss -> ∃ h', D X (.fn f []) (argVs (tyOf C.prog) fn.params.toList xss) hp = some (.bool true, h')) :
  ReturnsInHanded {} C os f .any (s.pre6 enc C.prog fn conds false) (s.post enc C.prog fn false true false false) := by
 refine returnsInHanded_of_change own started noInit hfn witness ?_
 intro W base args ds gs before hval hW hcnd _
 have hW' := hW
 obtain ⟨p, q, hA, hV, rfl, hfz, hnd⟩ := hW
 rw [hvars] at hV
 obtain ⟨rfl, rfl⟩ := trodVars_none hV
 letI := goodOf X
 obtain ⟨hm0, hro0⟩ := mem_nil W
 obtain ⟨K, hp, xss, hm, hro, hvs, hft⟩ := args_ok hA (fun j t v h1 h2 => hval j t v (by simpa using h1) (by simpa using h2)) hpl [] [] hm0 hro0
 simp only [List.nil_append] at hm hro hvs hft
 obtain ⟨h', hD⟩ := law hp xss hft
 refine ((hfit.law hD hm hro hvs).mono fun e W' ⟨he, bel⟩ => ?_)
 rw [he]
 have hlen : ds.length = fn.params.size := by
  have := (trodAll_length hA).2
  simpa using this
 refine ⟨_, rfl, ds, [], p ++ [], [], p, [], hW', ?_, ?_, ?_, bel.frame _, fun h => by cases h⟩
 ·rw [hres, List.append_nil, hspec ds hlen]
  exact trodAll_mk1 (shut_bool hb _)
 ·rw [List.append_nil, hspec ds hlen]
  exact trodAll_behind hl bel hps hA
 ·rw [List.append_nil, hspec ds hlen, hvars]
  exact rfl
end
end Go.Ev
