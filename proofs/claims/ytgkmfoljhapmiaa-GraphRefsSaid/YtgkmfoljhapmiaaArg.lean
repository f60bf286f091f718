/-
A law's arguments as the interpreter sees them: values, and blocks that are only read.
-/
import Derived.Test.YtgkmfoljhapmiaaOp24
import Derived.OpenShut
import Derived.ChangeOld
set_option linter.unusedSimpArgs false
set_option linter.unusedVariables false
namespace Go.Ev
open Go.RowKit

/-- Do fields lie one behind the other, from o on, up to n? -/
def tiles (T : TypeId → TI) : List (Nat × TypeId) → Nat → Nat → Bool
  | [], o, n => decide (o = n)
  | p :: r, o, n => decide (p.1 = o) && tiles T r (o + (T p.2).size) n

/-- Types of plain data. -/
def plainT (T : TypeId → TI) : Nat → TypeId → Bool
  | 0, _ => false
  | d + 1, t => match (T t).desc with
    | .bool | .int _ | .str => true
    | .slice e => decide (0 < (T e).size) && plainT T d e
    | .struct fs => tiles T fs 0 (T t).size && fs.all fun p => plainT T d p.2
    | .arr n e => decide (n * (T e).size = (T t).size) && plainT T d e
    | _ => false

/-- Cells that are an argument's. -/
def Fits (T : TypeId → TI) (h : Heap) : Nat → TypeId → List V → Prop
  | 0, _, _ => False
  | d + 1, t, cs => match (T t).desc with
    | .bool => ∃ b, cs = [.bool b]
    | .int k => ∃ i, cs = [.int k i] ∧ (Lit.int k i).wf = true
    | .str => ∃ s : ByteArray, cs = [.str s] ∧ s.size ≤ maxLen
    | .slice e => cs = [.sl .nil 0 0 0] ∨ cs = [.sl .any 0 0 1] ∨ ∃ b len cap full, cs = [.sl (.at b 0 0) len cap 0] ∧ 0 < cap ∧ len ≤ cap ∧ cap ≤ maxLen ∧ h[b]? = some (.cells 0 false full) ∧
        full.length = cap * (T e).size ∧ ∀ i, i < cap → Fits T h d e ((full.drop (i * (T e).size)).take (T e).size)
    | .struct fs => cs.length = (T t).size ∧ ∀ p ∈ fs, Fits T h d p.2 ((cs.drop p.1).take (T p.2).size)
    | .arr n e => cs.length = (T t).size ∧ ∀ i, i < n → Fits T h d e ((cs.drop (i * (T e).size)).take (T e).size)
    | _ => False

theorem Fits.mono {T : TypeId → TI} {h : Heap} (g : Heap) : ∀ {d : Nat} {t : TypeId} {cs : List V}, Fits T h d t cs → Fits T (h ++ g) d t cs := by
  intro d
  induction d with
  | zero => intro t cs hf; exact hf
  | succ d ih =>
    intro t cs hf
    unfold Fits at hf ⊢
    split at hf
    · exact hf
    · exact hf
    · exact hf
    · rcases hf with hf | hf | ⟨b, len, cap, full, h1, h2, h3, h4, h5, h6, h7⟩
      · exact .inl hf
      · exact .inr (.inl hf)
      · exact .inr (.inr ⟨b, len, cap, full, h1, h2, h3, h4, by rw [List.getElem?_append_left (List.getElem?_eq_some_iff.1 h5).1]; exact h5, h6, fun i hi => ih (h7 i hi)⟩)
    · exact ⟨hf.1, fun p hp => ih (hf.2 p hp)⟩
    · exact ⟨hf.1, fun i hi => ih (hf.2 i hi)⟩
    · exact hf

theorem KM.le_apps (K K' : KM) : KM.le K (K ++ K') := fun b x hx => by
  refine ⟨x, ?_, x.le_refl⟩
  rw [List.getElem?_append_left (List.getElem?_eq_some_iff.1 hx).1]; exact hx

theorem desc_of {P : Program} {t : TypeId} {d : TD} (h : (tyOf P t).desc = d) (hd : d ≠ .other) : ∃ u, P.underlying t = some u ∧ descOf u = d := by
  simp only [tyOf] at h
  cases hlt : decide (t < P.types.size) with
  | false => rw [hlt] at h; simp only [cond_false] at h; exact absurd h.symm hd
  | true =>
    rw [hlt] at h
    simp only [cond_true] at h
    cases hu : P.underlying t with
    | none => rw [hu] at h; simp only [Option.map_none, Option.getD_none] at h; exact absurd h.symm hd
    | some u => rw [hu] at h; simp only [Option.map_some, Option.getD_some] at h; exact ⟨u, rfl, h⟩

/-- Parts of a list, one behind the other. -/
theorem flat_part {α : Type} : ∀ (L : List (List α)) (i : Nat) (x : List α), L[i]? = some x → (L.flatten.drop ((L.take i).flatten.length)).take x.length = x
  | [], i, x, h => by simp at h
  | a :: L, 0, x, h => by
    simp at h; subst h
    simp
  | a :: L, i + 1, x, h => by
    have ih := flat_part L i x (by simpa using h)
    simp only [List.take_succ_cons, List.flatten_cons, List.length_append]
    rw [← List.drop_drop, List.drop_left]
    exact ih

section
variable [Good] {H : Type} {enc : TypeId × Value → H} {P : Program} {w : World}

/-- What is known of one piece of data. -/
def Got (P : Program) (w : World) (d : Nat) (K : KM) (hp : Heap) (t : TypeId) (cs : List Value) : Prop :=
  ∃ K' hp' xs, Mem (K ++ K') [] [] (hp ++ hp') w ∧ RoK (K ++ K') ∧ VRs (K ++ K') xs cs ∧ Fits (tyOf P) (hp ++ hp') d t xs ∧ xs.all isCell = true

/-- Several pieces. -/
theorem got_seq {d : Nat} : ∀ (segs : List (TypeId × List Value)), (∀ p ∈ segs, ∀ K hp, Mem K [] [] hp w → RoK K → Got P w d K hp p.1 p.2) → ∀ K hp, Mem K [] [] hp w → RoK K →
    ∃ (K' : KM) (hp' : Heap) (xss : List (List V)), Mem (K ++ K') [] [] (hp ++ hp') w ∧ RoK (K ++ K') ∧ VRs (K ++ K') xss.flatten (segs.map (·.2)).flatten ∧ xss.flatten.all isCell = true ∧ xss.length = segs.length ∧
      ∀ (i : Nat) (p : TypeId × List Value), segs[i]? = some p → ∃ xs, xss[i]? = some xs ∧ xs.length = p.2.length ∧ Fits (tyOf P) (hp ++ hp') d p.1 xs
  | [], _, K, hp, hm, hro => ⟨[], [], [], by simpa using hm, by simpa using hro, by simp [VRs], rfl, rfl, fun i p h => by simp at h⟩
  | p :: segs, hg, K, hp, hm, hro => by
    obtain ⟨K1, hp1, xs, hm1, hro1, hv1, hf1, hc1⟩ := hg p (by simp) K hp hm hro
    obtain ⟨K2, hp2, xss, hm2, hro2, hv2, hc2, hl2, hf2⟩ := got_seq segs (fun q hq => hg q (by simp [hq])) (K ++ K1) (hp ++ hp1) hm1 hro1
    refine ⟨K1 ++ K2, hp1 ++ hp2, xs :: xss, by simpa using hm2, by simpa using hro2, ?_, by simp [hc1, hc2], by simp [hl2], ?_⟩
    · simp only [List.map_cons, List.flatten_cons]
      rw [← List.append_assoc]
      exact (VRs.mono (KM.le_apps _ _) _ _ hv1).append hv2
    · intro i q hq
      cases i with
      | zero =>
        simp at hq; subst hq
        exact ⟨xs, rfl, hv1.length.symm, by rw [← List.append_assoc]; exact hf1.mono _⟩
      | succ i =>
        obtain ⟨ys, h1, h2, h3⟩ := hf2 i q (by simpa using hq)
        exact ⟨ys, by simpa using h1, h2, by rw [← List.append_assoc]; exact h3⟩

omit [Good] in
/-- A list is its parts of one length. -/
theorem parts_flat {α : Type} (s : Nat) : ∀ (n : Nat) (l : List α), l.length = n * s → ((List.range n).map fun i => (l.drop (i * s)).take s).flatten = l
  | 0, l, h => by
    have h0 : l.length = 0 := by omega
    simp [List.length_eq_zero_iff.1 h0]
  | n + 1, l, h => by
    have hl : (l.take (n * s)).length = n * s := by rw [List.length_take, h, Nat.add_mul]; omega
    have e : ((List.range n).map fun i => (l.drop (i * s)).take s) = (List.range n).map fun i => ((l.take (n * s)).drop (i * s)).take s := by
      apply List.map_congr_left
      intro i hi
      have hi' : i < n := List.mem_range.1 hi
      rw [List.drop_take, List.take_take]
      have : (i + 1) * s ≤ n * s := Nat.mul_le_mul_right s hi'
      rw [Nat.add_mul] at this
      rw [Nat.min_eq_left (by omega)]
    rw [List.range_succ, List.map_append, List.flatten_append, e, parts_flat s n _ hl]
    simp only [List.map_cons, List.map_nil, List.flatten_cons, List.flatten_nil, List.append_nil]
    rw [List.take_of_length_le (l := l.drop (n * s)) (by rw [List.length_drop, h, Nat.add_mul]; omega), List.take_append_drop]

omit [Good] in
theorem flat_len {α : Type} {s : Nat} : ∀ {L : List (List α)}, (∀ x ∈ L, x.length = s) → L.flatten.length = L.length * s
  | [], _ => by simp
  | a :: L, h => by
    have h1 := flat_len (L := L) (s := s) fun x hx => h x (List.mem_cons_of_mem _ hx)
    have h2 := h a (by simp)
    simp only [List.flatten_cons, List.length_append, List.length_cons, h1, h2, Nat.add_mul]
    omega

omit [Good] in
/-- Parts of one length. -/
theorem flat_part_same {α : Type} {s : Nat} {L : List (List α)} (h : ∀ x ∈ L, x.length = s) {i : Nat} {x : List α} (hx : L[i]? = some x) : (L.flatten.drop (i * s)).take s = x := by
  have h1 := flat_part L i x hx
  have hi := (List.getElem?_eq_some_iff.1 hx).1
  rw [flat_len (fun y hy => h y (List.mem_of_mem_take hy)), List.length_take, Nat.min_eq_left (by omega), h x (List.mem_of_getElem? hx)] at h1
  exact h1

omit [Good] in
/-- Fields that lie one behind the other. -/
theorem tiles_flat {T : TypeId → TI} {α : Type} : ∀ (fs : List (Nat × TypeId)) (o n : Nat) (l : List α), tiles T fs o n = true → l.length = n → (fs.map fun p => (l.drop p.1).take (T p.2).size).flatten = l.drop o
  | [], o, n, l, h, hl => by
    simp only [tiles, decide_eq_true_eq] at h
    simp [List.drop_of_length_le (show l.length ≤ o by omega)]
  | p :: fs, o, n, l, h, hl => by
    simp only [tiles, Bool.and_eq_true, decide_eq_true_eq] at h
    obtain ⟨rfl, h⟩ := h
    simp only [List.map_cons, List.flatten_cons]
    rw [tiles_flat fs _ n l h hl, ← List.drop_drop, List.take_append_drop]

omit [Good] in
theorem tiles_le {T : TypeId → TI} : ∀ {fs : List (Nat × TypeId)} {o n : Nat}, tiles T fs o n = true → o ≤ n
  | [], o, n, h => by simp only [tiles, decide_eq_true_eq] at h; omega
  | p :: fs, o, n, h => by
    simp only [tiles, Bool.and_eq_true, decide_eq_true_eq] at h
    have := tiles_le h.2
    omega

omit [Good] in
/-- Where a field's part begins. -/
theorem tiles_part {T : TypeId → TI} {α : Type} : ∀ (fs : List (Nat × TypeId)) (o n : Nat) (L : List (List α)) (pre : List α), tiles T fs o n = true → L.length = fs.length → pre.length = o →
    (∀ (i : Nat) (p : Nat × TypeId), fs[i]? = some p → ∃ x, L[i]? = some x ∧ x.length = (T p.2).size) → ∀ (i : Nat) (p : Nat × TypeId), fs[i]? = some p → ∃ x, L[i]? = some x ∧ (((pre ++ L.flatten).drop p.1).take (T p.2).size) = x
  | [], o, n, L, pre, h, hl, hp, hx, i, p, hi => by simp at hi
  | q :: fs, o, n, [], pre, h, hl, hp, hx, i, p, hi => by simp at hl
  | q :: fs, o, n, a :: L, pre, h, hl, hp, hx, i, p, hi => by
    simp only [tiles, Bool.and_eq_true, decide_eq_true_eq] at h
    obtain ⟨h1, h2⟩ := h
    cases i with
    | zero =>
      simp at hi; subst hi
      obtain ⟨x, hx1, hx2⟩ := hx 0 q (by simp)
      simp at hx1; subst hx1
      refine ⟨a, by simp, ?_⟩
      rw [show q.1 = pre.length by omega, List.drop_left, List.flatten_cons, ← hx2, List.take_left]
    | succ i =>
      obtain ⟨x0, hx1, hx2⟩ := hx 0 q (by simp)
      simp at hx1; subst hx1
      have := tiles_part fs (o + (T q.2).size) n L (pre ++ a) h2 (by simpa using hl) (by simp [hp, hx2]) (fun j r hj => by simpa using hx (j + 1) r (by simpa using hj)) i p (by simpa using hi)
      simpa using this

omit [Good] in
theorem addr_none {a : Addr} (h : a.spot = none) (n : Nat) : a.add n = ⟨a.block, a.off + n, none⟩ := by
  cases a
  simp only at h
  subst h
  unfold Addr.add
  split
  · rename_i h0; subst h0; rfl
  · rfl

omit [Good] in
theorem rows_get {w : World} {a : Addr} {n : Nat} {vs : List Value} (h : w.cells? 0 a n = some vs) : vs.length = n ∧ ∀ i, i < n → w.cell? (a.add i) = vs[i]? := by
  unfold World.cells? at h
  rw [if_pos (Nat.zero_le _)] at h
  exact ⟨by simpa using mapM_some_length h, fun i hi => mapM_some_get h i i (by simp [hi])⟩

/-- A piece of data. -/
theorem got_of : ∀ (d : Nat) (t : TypeId), plainT (tyOf P) d t = true → ∀ (n : Nat) (cs : List Value) (x : DataW H × List MemPlace), DataW.trod enc P w 0 (fun _ => true) true n t cs = some x →
    (cs.length = (tyOf P t).size ∨ True) → ∀ K hp, Mem K [] [] hp w → RoK K → Got P w d K hp t cs := by
  intro d
  induction d with
  | zero => intro t h; cases h
  | succ d ih =>
    intro t hp n cs x hx _ K hp0 hm hro
    unfold plainT at hp
    split at hp
    · rename_i hd
      obtain ⟨u, hu, hdu⟩ := desc_of hd (by simp)
      cases u <;> simp only [descOf] at hdu <;> try (cases hdu)
      obtain ⟨b, rfl, _⟩ := DataW.trod_bool hu hx
      exact ⟨[], [], [.bool b], by simpa using hm, by simpa using hro, by simp [VRs, VR], by unfold Fits; rw [hd]; exact ⟨b, rfl⟩, rfl⟩
    · rename_i k hd
      obtain ⟨u, hu, hdu⟩ := desc_of hd (by simp)
      cases u <;> simp only [descOf] at hdu <;> try (cases hdu)
      obtain ⟨i, rfl, _, hw⟩ := DataW.trod_int hu hx
      exact ⟨[], [], [.int k i], by simpa using hm, by simpa using hro, by simp [VRs, VR], by unfold Fits; rw [hd]; exact ⟨i, rfl, hw⟩, rfl⟩
    · rename_i hd
      obtain ⟨u, hu, hdu⟩ := desc_of hd (by simp)
      cases u <;> simp only [descOf] at hdu <;> try (cases hdu)
      obtain ⟨s, rfl, _, hs⟩ := DataW.trod_string hu hx
      exact ⟨[], [], [.str s], by simpa using hm, by simpa using hro, by simp [VRs, VR], by unfold Fits; rw [hd]; exact ⟨s, rfl, hs⟩, rfl⟩
    · rename_i e hd
      obtain ⟨u, hu, hdu⟩ := desc_of hd (by simp)
      cases u <;> simp only [descOf] at hdu <;> try (cases hdu)
      simp only [Bool.and_eq_true, decide_eq_true_eq] at hp
      obtain ⟨hsz, hpe⟩ := hp
      have hsz' : 0 < P.cellsOf e := hsz
      rcases DataW.trod_slice hu hx with ⟨rfl, _⟩ | ⟨a, len, cap, elems, rest, m, rfl, rfl, _, _, hlc, hcm, hel, hel2, hsp, _⟩
      · exact ⟨[], [], [.sl .nil 0 0 0], by simpa using hm, by simpa using hro, by simp [VRs, VR, SlR], by unfold Fits; rw [hd]; exact .inl rfl, rfl⟩
      · obtain ⟨hrl, hr2⟩ := hsp rfl
        by_cases hc0 : cap = 0
        · subst hc0
          obtain rfl : len = 0 := by omega
          refine ⟨[], [], [.sl .any 0 0 1], by simpa using hm, by simpa using hro, ?_, by unfold Fits; rw [hd]; exact .inr (.inl rfl), rfl⟩
          simp only [List.append_nil, VRs, VR, SlR]
          exact ⟨_, [], rfl, ⟨trivial, trivial, by omega, a, 0, rfl⟩, rfl⟩
        · have hall : ∀ i, i < cap → ∃ vs y, w.cells? 0 (a.add (i * P.cellsOf e)) (P.cellsOf e) = some vs ∧ DataW.trod enc P w 0 (fun _ => true) true m e vs = some y := by
            intro i hi
            have : ∃ z, (w.cells? 0 (a.add (i * P.cellsOf e)) (P.cellsOf e)).bind (DataW.trod enc P w 0 (fun _ => true) true m e) = some z := by
              by_cases hil : i < len
              · rw [hel2 i hil]; exact ⟨elems[i]'(by omega), by simp⟩
              · have := hr2 (i - len) (by omega)
                rw [show len + (i - len) = i by omega] at this
                rw [this]; exact ⟨rest[i - len]'(by omega), by simp⟩
            obtain ⟨z, hz⟩ := this
            rw [Option.bind_eq_some_iff] at hz
            obtain ⟨vs, h1, h2⟩ := hz
            exact ⟨vs, z, h1, h2⟩
          -- the model's block
          obtain ⟨vs0, y0, hv0, _⟩ := hall 0 (by omega)
          have hv00 := rows_get hv0
          have hcell0 : ∃ v, w.cell? a = some v := by
            have h1 := hv00.2 0 hsz'
            rw [show (a.add (0 * P.cellsOf e)).add 0 = a by simp [Addr.add]] at h1
            rw [h1]
            exact ⟨vs0[0]'(by omega), by simp⟩
          have hblk : ∃ c ty fr, w.heap[a.block]? = some (.cells c ty fr) ∧ a.spot = none := by
            obtain ⟨v, hv⟩ := hcell0
            unfold World.cell? at hv
            split at hv
            · rename_i c ty fr hh
              refine ⟨c, ty, fr, hh, ?_⟩
              split at hv
              · cases hv
              · rename_i hs; simpa using hs
            · cases hv
          obtain ⟨c, ty, fr, hblk, hspot⟩ := hblk
          have hcell : ∀ j, j < cap * P.cellsOf e → ∃ v, c[a.off + j]? = some v ∧ v = c[a.off + j]! := by
            intro j hj
            have hdiv : j / P.cellsOf e < cap := (Nat.div_lt_iff_lt_mul hsz').2 hj
            obtain ⟨vs, y, h1, _⟩ := hall (j / P.cellsOf e) hdiv
            have h2 := rows_get h1
            have h3 := h2.2 (j % P.cellsOf e) (Nat.mod_lt _ hsz')
            have hlt : j % P.cellsOf e < vs.length := by rw [h2.1]; exact Nat.mod_lt _ hsz'
            rw [show (a.add (j / P.cellsOf e * P.cellsOf e)).add (j % P.cellsOf e) = ⟨a.block, a.off + j, none⟩ by
              have := Nat.div_add_mod' j (P.cellsOf e)
              rw [addr_none hspot, addr_none rfl]
              simp only [Nat.add_assoc]; rw [this]] at h3
            unfold World.cell? at h3
            simp only [hblk, hspot, Option.isSome_none, Bool.false_eq_true, if_false] at h3
            rw [List.getElem?_eq_getElem hlt] at h3
            exact ⟨_, h3, by rw [getElem!_def, h3]⟩
          -- its cells
          let l : List Value := (List.range (cap * P.cellsOf e)).map fun j => c[a.off + j]!
          have hll : l.length = cap * P.cellsOf e := by simp [l]
          have hlg : ∀ j, j < cap * P.cellsOf e → c[a.off + j]? = l[j]? := by
            intro j hj
            obtain ⟨v, h1, h2⟩ := hcell j hj
            rw [h1, h2]
            simp [l, hj]
          have hseg : ∀ i, i < cap → ∃ y, DataW.trod enc P w 0 (fun _ => true) true m e ((l.drop (i * P.cellsOf e)).take (P.cellsOf e)) = some y := by
            intro i hi
            obtain ⟨vs, y, h1, h2⟩ := hall i hi
            have h3 := rows_get h1
            have e1 : (l.drop (i * P.cellsOf e)).take (P.cellsOf e) = vs := by
              apply List.ext_getElem?
              intro j
              by_cases hj : j < P.cellsOf e
              · rw [List.getElem?_take, if_pos hj, List.getElem?_drop, ← h3.2 j hj]
                have hij : i * P.cellsOf e + j < cap * P.cellsOf e := by
                  have := Nat.mul_le_mul_right (P.cellsOf e) (show i + 1 ≤ cap from hi)
                  rw [Nat.add_mul] at this; omega
                rw [← hlg _ hij]
                rw [addr_none hspot, addr_none rfl]
                unfold World.cell?
                simp only [hblk, hspot, Option.isSome_none, Bool.false_eq_true, if_false, Nat.add_assoc]
              · rw [List.getElem?_take, if_neg hj, List.getElem?_eq_none (by omega)]
            rw [e1]; exact ⟨y, h2⟩
          obtain ⟨K1, hp1, xss, hm1, hro1, hv1, hc1, hl1, hf1⟩ := got_seq (P := P) (d := d) ((List.range cap).map fun i => (e, (l.drop (i * P.cellsOf e)).take (P.cellsOf e))) (by
            intro p hpm K2 hp2 hm2 hro2
            obtain ⟨i, hi, rfl⟩ := List.mem_map.1 hpm
            obtain ⟨y, hy⟩ := hseg i (List.mem_range.1 hi)
            exact ih e hpe m _ y hy (.inr trivial) K2 hp2 hm2 hro2) K hp0 hm hro
          have eflat : (((List.range cap).map fun i => (e, (l.drop (i * P.cellsOf e)).take (P.cellsOf e))).map (·.2)).flatten = l := by
            rw [List.map_map]
            exact parts_flat (P.cellsOf e) cap l hll
          rw [eflat] at hv1
          have hxl : xss.flatten.length = cap * P.cellsOf e := by rw [← hv1.length, hll]
          have hsz2 : a.off + cap * P.cellsOf e ≤ c.size := by
            have hpos : 0 < cap * P.cellsOf e := Nat.mul_pos (by omega) hsz'
            obtain ⟨v, h1, _⟩ := hcell (cap * P.cellsOf e - 1) (by omega)
            have := (Array.getElem?_eq_some_iff.1 h1).1
            omega
          have hcr : CR (K ++ K1) xss.flatten c a.off := by
            intro j v hj
            have hjl : j < cap * P.cellsOf e := by rw [← hxl]; exact (List.getElem?_eq_some_iff.1 hj).1
            refine ⟨List.all_eq_true.1 hc1 v (List.mem_of_getElem? hj), ?_⟩
            obtain ⟨x, h1, h2⟩ := hv1.get j v hj
            exact ⟨x, by rw [hlg j hjl]; exact h1, h2⟩
          have hm2 := Mem.read hm1 hro1 hblk (S := a.off) (c := xss.flatten) (by rw [hxl]; exact hsz2) hcr
          have hxs : ∀ x ∈ xss, x.length = P.cellsOf e := by
            intro x hx
            obtain ⟨i, hi⟩ := List.getElem?_of_mem hx
            have hi' : i < cap := by have := (List.getElem?_eq_some_iff.1 hi).1; simp at hl1; omega
            obtain ⟨xs, h1, h2, _⟩ := hf1 i (e, (l.drop (i * P.cellsOf e)).take (P.cellsOf e)) (by simp [hi'])
            rw [hi] at h1; cases h1
            rw [h2]
            have := Nat.mul_le_mul_right (P.cellsOf e) (show i + 1 ≤ cap from hi')
            rw [Nat.add_mul] at this
            simp [hll]; omega
          refine ⟨K1 ++ [.c 0 a.block a.off c.size false], hp1 ++ [.cells 0 false xss.flatten], [.sl (.at (hp0 ++ hp1).length 0 0) len cap 0], by simpa using hm2.1, by simpa using hm2.2, ?_, ?_, rfl⟩
          · simp only [VRs, VR, SlR]
            refine ⟨_, [], rfl, ⟨a, cap, rfl, ⟨0, a.block, a.off, c.size, false, ?_, by omega, fun _ => ?_⟩, Nat.le_refl _, fun _ => rfl, fun h => absurd h (by omega)⟩, rfl⟩
            · have : (hp0 ++ hp1).length = (K ++ K1).length := hm1.hr.1
              rw [← List.append_assoc, this]; simp
            · cases a; simp_all
          · unfold Fits
            rw [hd]
            refine .inr (.inr ⟨_, len, cap, xss.flatten, rfl, by omega, hlc, hcm, ?_, by exact hxl, fun i hi => ?_⟩)
            · rw [← List.append_assoc]; simp
            · obtain ⟨xs, h1, h2, h3⟩ := hf1 i (e, (l.drop (i * P.cellsOf e)).take (P.cellsOf e)) (by simp [hi])
              have := flat_part_same hxs h1
              rw [show (tyOf P e).size = P.cellsOf e from rfl, this, ← List.append_assoc]
              exact h3.mono _
    · rename_i fs hd
      obtain ⟨u, hu, hdu⟩ := desc_of hd (by simp)
      cases u <;> simp only [descOf] at hdu <;> try (cases hdu)
      rename_i fs'
      simp only [Bool.and_eq_true] at hp
      obtain ⟨ht, hpf⟩ := hp
      obtain ⟨ys, m, rfl, _, hcl, hyl, hyf⟩ := DataW.trod_struct hu hx
      have hcl' : cs.length = (tyOf P t).size := hcl
      have hin : ∀ (fs' : List (Nat × TypeId)) (o : Nat), tiles (tyOf P) fs' o (tyOf P t).size = true → ∀ p ∈ fs', p.1 + (tyOf P p.2).size ≤ (tyOf P t).size := by
        intro fs'
        induction fs' with
        | nil => intro o _ p hp; cases hp
        | cons q r ihr =>
          intro o hti p hp
          simp only [tiles, Bool.and_eq_true, decide_eq_true_eq] at hti
          have := tiles_le hti.2
          rcases List.mem_cons.1 hp with rfl | hp
          · omega
          · exact ihr _ hti.2 p hp
      obtain ⟨K1, hp1, xss, hm1, hro1, hv1, hc1, hl1, hf1⟩ := got_seq (P := P) (d := d) ((fs'.toList.map fun f => (f.offset, f.type)).map fun p => (p.2, (cs.drop p.1).take (tyOf P p.2).size)) (by
        intro p hpm K2 hp2 hm2 hro2
        obtain ⟨q, hq, rfl⟩ := List.mem_map.1 hpm
        obtain ⟨f, hf, rfl⟩ := List.mem_map.1 hq
        obtain ⟨i, hi⟩ := Array.getElem?_of_mem (Array.mem_toList_iff.1 hf)
        have := hyf i f hi
        have hil := (Array.getElem?_eq_some_iff.1 hi).1
        exact ih f.type (List.all_eq_true.1 hpf _ hq) m _ (ys[i]'(by omega)) (this.trans (by simp)) (.inr trivial) K2 hp2 hm2 hro2) K hp0 hm hro
      have eflat : (((fs'.toList.map fun f => (f.offset, f.type)).map fun p => (p.2, (cs.drop p.1).take (tyOf P p.2).size)).map (·.2)).flatten = cs := by
        rw [List.map_map]
        exact tiles_flat (T := tyOf P) _ 0 _ cs ht hcl'
      rw [eflat] at hv1
      refine ⟨K1, hp1, xss.flatten, hm1, hro1, hv1, ?_, hc1⟩
      unfold Fits
      rw [hd]
      refine ⟨by rw [← hv1.length]; exact hcl', fun p hpm => ?_⟩
      obtain ⟨i, hi⟩ := List.getElem?_of_mem hpm
      have hxx : ∀ (i : Nat) (p : Nat × TypeId), (fs'.toList.map fun f => (f.offset, f.type))[i]? = some p → ∃ x, xss[i]? = some x ∧ x.length = (tyOf P p.2).size := by
        intro i p hi
        obtain ⟨xs, h1, h2, _⟩ := hf1 i (p.2, (cs.drop p.1).take (tyOf P p.2).size) (by rw [List.getElem?_map, hi]; rfl)
        refine ⟨xs, h1, ?_⟩
        rw [h2]
        have := hin _ 0 ht p (List.mem_of_getElem? hi)
        simp [hcl']; omega
      obtain ⟨x1, h1, h2⟩ := tiles_part (T := tyOf P) _ 0 _ xss [] ht (by simpa using hl1) rfl hxx i p hi
      obtain ⟨xs, h3, _, h5⟩ := hf1 i (p.2, (cs.drop p.1).take (tyOf P p.2).size) (by rw [List.getElem?_map, hi]; rfl)
      rw [h1] at h3; cases h3
      simp only [List.nil_append] at h2
      rw [h2]; exact h5
    · rename_i k e hd
      obtain ⟨u, hu, hdu⟩ := desc_of hd (by simp)
      cases u <;> simp only [descOf] at hdu <;> try (cases hdu)
      simp only [Bool.and_eq_true, decide_eq_true_eq] at hp
      obtain ⟨hsz, hpe⟩ := hp
      obtain ⟨ys, m, rfl, _, hcl, hyl, hyf⟩ := DataW.trod_array hu hx
      have hcl' : cs.length = k * P.cellsOf e := by rw [hcl]; exact hsz.symm
      obtain ⟨K1, hp1, xss, hm1, hro1, hv1, hc1, hl1, hf1⟩ := got_seq (P := P) (d := d) ((List.range k).map fun i => (e, (cs.drop (i * P.cellsOf e)).take (P.cellsOf e))) (by
        intro p hpm K2 hp2 hm2 hro2
        obtain ⟨i, hi, rfl⟩ := List.mem_map.1 hpm
        have hik := List.mem_range.1 hi
        exact ih e hpe m _ (ys[i]'(by omega)) ((hyf i hik).trans (by simp)) (.inr trivial) K2 hp2 hm2 hro2) K hp0 hm hro
      have eflat : (((List.range k).map fun i => (e, (cs.drop (i * P.cellsOf e)).take (P.cellsOf e))).map (·.2)).flatten = cs := by
        rw [List.map_map]
        exact parts_flat (P.cellsOf e) k cs hcl'
      rw [eflat] at hv1
      refine ⟨K1, hp1, xss.flatten, hm1, hro1, hv1, ?_, hc1⟩
      unfold Fits
      rw [hd]
      refine ⟨by rw [← hv1.length]; exact hcl, fun i hi => ?_⟩
      have hxs : ∀ x ∈ xss, x.length = P.cellsOf e := by
        intro x hx
        obtain ⟨i, hi⟩ := List.getElem?_of_mem hx
        have hi' : i < k := by have := (List.getElem?_eq_some_iff.1 hi).1; simp at hl1; omega
        obtain ⟨xs, h1, h2, _⟩ := hf1 i (e, (cs.drop (i * P.cellsOf e)).take (P.cellsOf e)) (by simp [hi'])
        rw [hi] at h1; cases h1
        rw [h2]
        have := Nat.mul_le_mul_right (P.cellsOf e) (show i + 1 ≤ k from hi')
        rw [Nat.add_mul] at this
        simp [hcl']; omega
      obtain ⟨xs, h1, h2, h3⟩ := hf1 i (e, (cs.drop (i * P.cellsOf e)).take (P.cellsOf e)) (by simp [hi])
      have := flat_part_same hxs h1
      rw [show (tyOf P e).size = P.cellsOf e from rfl, this]
      exact h3
    · cases hp

end
end Go.Ev
