/-
New variables; rows of elements; append.
-/
import Derived.Test.YtgkmfoljhapmiaaOp8
set_option linter.unusedSimpArgs false
set_option linter.unusedVariables false
namespace Go.Ev
variable [Good] {P : Program} {K : KM} {L : KL} {w : World}

/-- A new block for a slot of the frame. -/
theorem Mem.newLoc {l : Locs} {h : Heap} (hm : Mem K L l h w) {k ver : Nat} {c0 c : List V} (hl : l[k]? = some (ver, c0)) {c' : Array Value} {ty : TypeId} (hc : VRs K c c'.toList) (hcc : c.all isCell = true) :
    ∃ L', L'[k]? = some (ver + 1, w.heap.size) ∧ Mem K L' (l.set k (ver + 1, c)) h (w.alloc (.cells c' ty)) ∧ Step K L w K L' (w.alloc (.cells c' ty)) := by
  obtain ⟨B0, hB0, _⟩ := hm.lr.2 k ver c0 hl
  have hlt : k < L.length := (List.getElem?_eq_some_iff.1 hB0).1
  have hlt' : k < l.length := (List.getElem?_eq_some_iff.1 hl).1
  have hself : (L.set k (ver + 1, w.heap.size))[k]? = some (ver + 1, w.heap.size) := List.getElem?_set_self hlt
  refine ⟨_, hself, ?_⟩
  refine hm.updL k (ver2 := ver + 1) (B2 := w.heap.size) (c2 := c) ?_ (fun s' hs' => List.getElem?_set_ne (Ne.symm hs')) (fun s' hs' => List.getElem?_set_ne (Ne.symm hs')) (by simp [hm.lr.1]) hself (List.getElem?_set_self hlt') (by omega) ?_ (.inr ⟨Nat.le_refl _, by simp⟩)
    (fun B hB _ => RowKit.Below.heap_alloc _ _ _ hB) (by simp) rfl rfl rfl
  · intro s cur B hs
    by_cases e : s = k
    · subst e
      rw [hB0] at hs; cases hs
      exact ⟨_, _, hself, .inl (by omega)⟩
    · exact ⟨cur, B, by rw [List.getElem?_set_ne (Ne.symm e)]; exact hs, .inr ⟨rfl, rfl⟩⟩
  · refine ⟨c', ty, ?_, by simpa using hc.length, by simpa using CR_of_list hc hcc⟩
    show (w.heap.push _)[w.heap.size]? = _
    simp

theorem newVar_ok {s : St} {sl : Option Nat} {c : List V} {r : TV × St} (h : newVar sl s c = some r) (hm : Mem K L s.l s.h w) {c' : Array Value} (ty : TypeId) (hc : VRs K c c'.toList) (hcc : c.all isCell = true) :
    ∃ K' L', TVR K' L' r.1 (.pointer (some ⟨w.heap.size, 0, none⟩)) ∧ Mem K' L' r.2.l r.2.h (w.alloc (.cells c' ty)) ∧ Step K L w K' L' (w.alloc (.cells c' ty)) ∧ r.2.e = s.e := by
  unfold newVar at h
  split at h
  · rename_i k
    obtain ⟨p, hp, h⟩ := bnd_some h
    cases h
    obtain ⟨L', h1, h2, h3⟩ := hm.newLoc (ty := ty) hp hc hcc
    exact ⟨K, L', ⟨by omega, _, _, h1, Nat.le_refl _, _, rfl, fun _ => rfl⟩, h2, h3, rfl⟩
  · cases h
    obtain ⟨h1, h2⟩ := hm.alloc (ty := ty) (c := c) (c' := c') (by simpa using CR_of_list hc hcc) (by have := hc.length; simp at this; omega) (0, 0) (.inr (Nat.le_refl 0))
    refine ⟨_, L, ?_, h1, h2, rfl⟩
    simp only [TVR, VR]
    exact ⟨_, rfl, by rw [hm.hr.1]; exact new_at _⟩

theorem sliceCells_ok {s : St} {z n : Nat} {x : TV} {cs : List V} {xv : Value} (h : sliceCells z s x = some (n, cs)) (hx : TVR K L x xv) (hm : Mem K L s.l s.h w) :
    (Builtin.lenOf xv).run P w = .ok n w ∧ ∃ arr : Array Value, (Builtin.firstCells z n xv).run P w = .ok arr w ∧ VRs K cs arr.toList ∧ cs.all isCell = true ∧ cs.length = n * z ∧ (xv = .slice none 0 0 ∨ xv ≠ .slice none 0 0) := by
  unfold sliceCells at h
  split at h <;> first | (cases h; done) | skip
  · obtain ⟨rfl, h⟩ := grd_some h
    cases h
    obtain ⟨_, _, _, rfl⟩ : SlR K .nil _ _ _ xv := by simpa only [TVR, VR] using hx
    exact ⟨rfl, #[], by simp [Builtin.firstCells], by simp [VRs], rfl, by simp, .inl rfl⟩
  · obtain ⟨rfl, h⟩ := grd_some h
    cases h
    obtain ⟨_, _, _, a, c, rfl⟩ : SlR K .any _ _ _ xv := by simpa only [TVR, VR] using hx
    refine ⟨rfl, #[], ?_, by simp [VRs], rfl, by simp, .inr (by simp)⟩
    simp [Builtin.firstCells, loadCells, loadCellsFrom]
  · rename_i b g o n' c zz
    obtain ⟨a, cap', rfl, hat, _⟩ : SlR K _ _ _ _ xv := by simpa only [TVR, VR] using hx
    rcases cnd_some h with ⟨h0, h⟩ | ⟨_, h⟩
    · cases h
      have : n' = 0 := by simpa using h0
      subst this
      refine ⟨rfl, #[], ?_, by simp [VRs], rfl, by simp, .inr (by simp)⟩
      simp [Builtin.firstCells, loadCells, loadCellsFrom]
    · obtain ⟨p, hp, h⟩ := bnd_some h
      obtain ⟨hle, h⟩ := grd_some h
      cases h
      obtain ⟨_, B, S, N, hK, c', ty, fr, h1, _, _, h4, _⟩ := hcells_ok hm.hr hp
      obtain ⟨g', B', S', N', k', hK', _, ha⟩ := hat
      rw [hK] at hK'; cases hK'
      rw [ha rfl]
      obtain ⟨s1, s2, s3, s4⟩ := seg_ok h4 o (n * z) hle
      exact ⟨rfl, _, by simp only [Builtin.firstCells]; exact run_seg h1 h4 hle, by simpa using s2, s3, by simp; omega, .inr (by simp)⟩
  · rename_i sl ver o n'
    obtain ⟨c, hc, h⟩ := bnd_some h
    obtain ⟨hle, h⟩ := grd_some h
    cases h
    obtain ⟨h0, _, B, hB, c', e, h1, _, h3⟩ := lcells_ok hm.lr hc
    obtain ⟨_, cur, B', hs, _, a, cap, rfl, ha⟩ := hx
    rw [hB] at hs; cases hs
    rw [ha rfl]
    obtain ⟨s1, s2, s3, s4⟩ := seg_ok h3 o (n * z) hle
    refine ⟨rfl, ((c'.toList.drop o).take (n * z)).toArray, ?_, by simpa using s2, s3, by simp; omega, .inr (by simp)⟩
    have := run_seg (P := P) h1 h3 hle
    rw [Nat.zero_add] at this s1 s2
    simpa only [Builtin.firstCells] using this
  · rename_i b
    obtain ⟨hz, h⟩ := grd_some h
    cases h
    rw [TVR_str hx]
    refine ⟨rfl, _, rfl, ?_, ?_, ?_, .inr (by simp)⟩
    · have e : (b.extract 0 b.size).data = b.data := by simp
      rw [e]
      have hall : ∀ l : List UInt8, VRs K (l.map fun u => V.int .u8 u.toNat) (l.map fun u => Value.int .u8 u.toNat) := by
        intro l
        induction l with
        | nil => simp [VRs]
        | cons u l ih => simp only [List.map_cons, VRs]; exact ⟨_, _, rfl, by simp [VR], ih⟩
      simpa [bytesV] using hall b.data.toList
    · rw [List.all_eq_true]; intro v hv; simp [bytesV] at hv; obtain ⟨u, _, rfl⟩ := hv; rfl
    · simp [bytesV, hz]


omit [Good] in
theorem VRs.list {cs : List V} {arr : Array Value} (h : VRs K cs arr.toList) : arr.size = cs.length := by simpa using h.length

omit [Good] in
theorem run_append_fits {t u el ty : TypeId} {d : TypeDesc} {base : Option Addr} {sLen sCap n z : Nat} {y : Value} {new : Array Value} {w' : World} (ht : P.underlying t = some (.slice el)) (hu : P.underlying u = some d) (hd : ∀ k, d ≠ .int k)
    (hs : (sizeOf el).run P w = .ok z w) (hn : (Builtin.lenOf y).run P w = .ok n w) (hnew : (Builtin.firstCells z n y).run P w = .ok new w) (hfit : sLen + n ≤ sCap)
    (hst : ∀ a, base = some a → (storeCells (a.add (sLen * z)) new.toList).run P w = .ok () w') (hno : base = none → w' = w) :
    (Builtin.append_ #[t, u] ty #[.slice base sLen sCap, y]).run P w = .ok (.slice base (sLen + n) sCap) w' := by
  have hz : (d matches .int _) = false := by cases d <;> first | rfl | (exact absurd rfl (hd _))
  cases base with
  | none => simp [Builtin.append_, run_underlying ht, run_underlying hu, hz, hs, hn, hnew, hfit, hno rfl]
  | some a => simp [Builtin.append_, run_underlying ht, run_underlying hu, hz, hs, hn, hnew, hfit, hst a rfl]

omit [Good] in
theorem run_append_grows {t u el ty : TypeId} {d : TypeDesc} {base : Option Addr} {sLen sCap n : Nat} {y zv : Value} {i : TypeInfo} {old new : Array Value} (ht : P.underlying t = some (.slice el)) (hu : P.underlying u = some d) (hd : ∀ k, d ≠ .int k)
    (hi : P.info? el = some i) (hzv : i.zero = some zv) (hn : (Builtin.lenOf y).run P w = .ok n w) (hnew : (Builtin.firstCells i.size n y).run P w.drew = .ok new w.drew)
    (hold : (Builtin.firstCells i.size sLen (.slice base sLen sCap)).run P w.drew = .ok old w.drew)
    (hgrow : sCap < sLen + n) (hb : (sLen + n) * i.bytes ≤ 35184372088832) (hl : sLen + n ≤ 35184372088832) :
    ∃ newCap, sLen + n ≤ newCap ∧ (Builtin.append_ #[t, u] ty #[.slice base sLen sCap, y]).run P w =
      .ok (.slice (some ⟨w.heap.size, 0, none⟩) (sLen + n) newCap) (w.drew.alloc (.cells (old ++ new ++ Builtin.zeroCells zv.cells (newCap - (sLen + n))) el)) := by
  have hz : (d matches .int _) = false := by cases d <;> first | rfl | (exact absurd rfl (hd _))
  have h1 : ¬ (sLen + n ≤ sCap) := by omega
  have h2 : ¬ (((sLen + n : Nat) : Int) > IntKind.i64.max ∧ (i.bytes = 0)) := by
    have : IntKind.i64.max = 9223372036854775807 := by decide
    omega
  have h3 : ¬ (Builtin.nextslicecap (sLen + n) sCap * i.bytes > 281474976710656) := by
    have := growslice_fits (need := sLen + n) (old := sCap) (bytes := i.bytes) hgrow (by omega)
    omega
  refine ⟨Question.cut (.appendCap (sLen + n) sCap el) (w.tape w.drawn (.appendCap (sLen + n) sCap el)), by simp only [Question.cut]; omega, ?_⟩
  have h2' : ¬ (IntKind.i64.max < (sLen : Int) + (n : Int) ∧ i.bytes = 0) := by
    intro h; apply h2; simpa using h
  have h3' : ¬ (281474976710656 < Builtin.nextslicecap (sLen + n) sCap * i.bytes) := by omega
  simp [Builtin.append_, run_underlying ht, run_underlying hu, hz, run_sizeOf hi, hn, h1, typeInfo, hi, h2', h3', zeroValue, hzv, Question.forced, hold, hnew, newRow]
  intro h4; omega

omit [Good] in
theorem AtR.addr_of {b g o : Nat} {a : Addr} {B S N : Nat} {k : Bool} (h : AtR K b g o a) (hK : K[b]? = some (.c g B S N k)) : a = ⟨B, S + o, none⟩ := by
  obtain ⟨g', B', S', N', k', hK', _, ha⟩ := h
  rw [hK] at hK'; cases hK'
  exact ha rfl

omit [Good] in
/-- The row that an append makes. -/
theorem newRow_cells {old new : List V} {o' n' : Array Value} {zs : Array Value} (h1 : VRs K old o'.toList) (h2 : VRs K new n'.toList) (h3 : old.all isCell = true) (h4 : new.all isCell = true) :
    CR K (old ++ new) (o' ++ n' ++ zs) 0 := by
  intro j v hj
  obtain ⟨x, hx, hr⟩ := (h1.append h2).get j v hj
  refine ⟨?_, x, ?_, hr⟩
  · have := List.mem_of_getElem? hj
    rw [List.mem_append] at this
    rcases this with h | h
    · exact List.all_eq_true.1 h3 v h
    · exact List.all_eq_true.1 h4 v h
  · have hlt := (List.getElem?_eq_some_iff.1 hx).1
    rw [Nat.zero_add, Array.getElem?_append_left (by simpa using hlt)]
    rw [← hx]
    simp [← Array.getElem?_toList]

omit [Good] in
theorem size_zero (z : Array Value) (n : Nat) : (Builtin.zeroCells z n).size = n * z.size := by simp [Builtin.zeroCells]


/-- A block of the heap goes on in a later generation: in place, or in a new block. -/
theorem Mem.move {l : Locs} {h : Heap} (hm : Mem K L l h w) {b g B S N : Nat} {c c1 : List V} (hh : h[b]? = some (.cells g true c)) (hK : K[b]? = some (.c g B S N true)) {w' : World} {B2 S2 N2 : Nat}
    (hown : B2 = B ∨ (w.heap.size ≤ B2 ∧ B2 < w'.heap.size)) (hbr : ∃ c' ty fr, w'.heap[B2]? = some (.cells c' ty fr) ∧ c'.size = N2 ∧ S2 + c1.length ≤ N2 ∧ CR K c1 c' S2 ∧ (N2 ≤ fr.1 ∨ fr.2 ≤ fr.1))
    (hsame : ∀ B', B' < w.heap.size → B' ≠ B → w'.heap[B']? = w.heap[B']?) (hsz : w.heap.size ≤ w'.heap.size) (hos : w'.os = w.os) (ht : w'.tape = w.tape) (ho : w'.output = w.output) :
    Mem (K.set b (.c (g + 1) B2 S2 N2 true)) L l (h.set b (.cells (g + 1) true c1)) w' ∧ Step K L w (K.set b (.c (g + 1) B2 S2 N2 true)) L w' := by
  have hlt : b < h.length := (List.getElem?_eq_some_iff.1 hh).1
  have hlt' : b < K.length := (List.getElem?_eq_some_iff.1 hK).1
  have hle : KM.le K (K.set b (.c (g + 1) B2 S2 N2 true)) := KM.le_set K b _ _ hK ⟨_, _, _, _, _, rfl, .inl (by omega)⟩
  have hB : OwnBy K L (.blk b) B := .inl ⟨g, S, N, true, hK, rfl⟩
  refine hm.upd b (g2 := g + 1) (B2 := B2) (S2 := S2) (N2 := N2) (k2 := true) (c2 := c1) hle (fun b' hb' => List.getElem?_set_ne (Ne.symm hb')) (fun b' hb' => List.getElem?_set_ne (Ne.symm hb')) (by simp [hm.hr.1]) (List.getElem?_set_self hlt') rfl (List.getElem?_set_self hlt) ?_ ?_ ?_ (fun B' hB' hn => hsame B' hB' fun e => hn (e ▸ hB)) hsz hos ht ho
  · obtain ⟨c', ty, fr, h1, h2, h3, h4, h5⟩ := hbr
    exact ⟨_, _, _, rfl, c', ty, fr, h1, h2, h3, h4.mono hle, fun _ => h5⟩
  · rintro s B' ⟨B1, l', ver, h1, _⟩
    rw [hK] at h1; cases h1
  · rcases hown with rfl | h
    · exact .inl hB
    · exact .inr h

theorem append_ok (hT : TypesOk P) {s : St} {t u : TypeId} {x y : TV} {r : TV × St} {xv yv : Value} (h : appendV (tyOf P) t s x y = some r) (hx : TVR K L x xv) (hy : TVR K L y yv) (hm : Mem K L s.l s.h w)
    (hu : (∃ e, (tyOf P u).desc = .slice e) ∨ (tyOf P u).desc = .str) (ty : TypeId) :
    ∃ z w' K', (Builtin.append_ #[t, u] ty #[xv, yv]).run P w = .ok z w' ∧ TVR K' L r.1 z ∧ Mem K' L r.2.l r.2.h w' ∧ Step K L w K' L w' ∧ r.2.e = s.e := by
  obtain ⟨d, hud, hdi⟩ : ∃ d, P.underlying u = some d ∧ ∀ k, d ≠ .int k := by
    rcases hu with ⟨e, h⟩ | h
    · exact ⟨_, desc_slice h, by simp⟩
    · exact ⟨_, desc_str h, by simp⟩
  unfold appendV at h
  split at h <;> first | (cases h; done) | skip
  rename_i el sa len cap z hd
  have ht := desc_slice hd
  have hie := hT.elem t el (desc_lt hd (by simp)) (.inl ht)
  have hs := run_size (P := P) hie w
  obtain ⟨q, hq, h⟩ := bnd_some h
  obtain ⟨n, new⟩ := q
  obtain ⟨hn, arr, hfc, hv, hv1, hlen, _⟩ := sliceCells_ok (P := P) hq hy hm
  have hx' : SlR K sa len cap z xv := by simpa only [TVR, VR] using hx
  obtain ⟨a', cap', rfl, hcc, hz0⟩ := hx'.shape
  rcases cnd_some h with ⟨hfit, h⟩ | ⟨hfit, h⟩
  · -- there is room
    have hfit' : len + n ≤ cap := by simpa using hfit
    rcases cnd_some h with ⟨hn0, h⟩ | ⟨hn0, h⟩
    · cases h
      have hn0' : n = 0 := by simpa using hn0
      subst hn0'
      have harr : arr = #[] := by
        have := hv.list; rw [hlen] at this; exact Array.eq_empty_of_size_eq_zero (by omega)
      subst harr
      refine ⟨_, w, K, run_append_fits ht hud hdi hs hn hfc (by omega) (fun a _ => by simp [storeCells]) (fun _ => rfl), ?_, hm, Step.refl K L w, rfl⟩
      simpa using hx
    · have hnp : 0 < n := by
        rcases Nat.eq_zero_or_pos n with e | e
        · simp [e] at hn0
        · exact e
      cases sa with
      | nil => cases h
      | any => cases h
      | «at» b g o =>
        obtain ⟨s', hs', hR⟩ := bnd_some h
        cases hR
        obtain ⟨a, c1, e1, hat, hle, hz1, hroom⟩ := hx'
        cases e1
        obtain ⟨w', hrun, hm', hst, he⟩ := putBlk_ok (P := P) (o := o + len * (tyOf P el).size) hs' (fun c c1 hc => hc) hm hv hv1 (hat.add _)
        refine ⟨_, w', K, run_append_fits ht hud hdi hs hn hfc (by omega) (fun a1 e => by cases e; exact hrun) (fun e => by cases e), ?_, hm', hst, he⟩
        simp only [TVR, VR, SlR]
        exact ⟨a, _, rfl, hat, hle, hz1, hroom⟩
  · -- it grows, or may
    have hfit' : cap < len + n := by simpa using hfit
    obtain ⟨⟨hb1, hb2, hzl, hz2⟩, hR⟩ := grd_some h
    obtain ⟨i, zv, hi, hzv, hzs, _, _⟩ := zero_ok (K := K) hT hzl hie hz2
    have hsz := size_of hi
    have hbytes : (tyOf P el).bytes = i.bytes := by simp [tyOf, Program.bytesOf, hi]
    obtain ⟨hmd, hstd⟩ := hm.drew
    obtain ⟨_, arr2, hfc2, hv2, hv12, _, _⟩ := sliceCells_ok (P := P) hq hy hmd
    -- growing, with the old elements in hand
    have grow : ∀ (old : List V) (oa : Array Value), cap' < len + n → VRs K old oa.toList → old.all isCell = true → old.length = len * (tyOf P el).size → (Builtin.firstCells i.size len (.slice a' len cap')).run P w.drew = .ok oa w.drew →
        ∃ newCap N, len + n ≤ newCap ∧ N = newCap * (tyOf P el).size ∧ ∃ c', c'.size = N ∧ CR K (old ++ new) c' 0 ∧ (Builtin.append_ #[t, u] ty #[.slice a' len cap', yv]).run P w =
          .ok (.slice (some ⟨w.heap.size, 0, none⟩) (len + n) newCap) (w.drew.alloc (.cells c' el)) := by
      intro old oa hg ho1 ho2 ho3 hrun
      obtain ⟨newCap, hge, hr⟩ := run_append_grows (ty := ty) ht hud hdi hi hzv hn (by rw [← hsz]; exact hfc2) hrun hg (by rw [← hbytes]; exact hb1) hb2
      refine ⟨newCap, _, hge, rfl, _, ?_, newRow_cells ho1 hv2 ho2 hv12, hr⟩
      have e1 := ho1.list
      have e2 := hv2.list
      rw [Array.size_append, Array.size_append, size_zero, hzs, e1, e2, ho3, hlen]
      rw [← Nat.add_mul, ← Nat.add_mul]
      congr 1; omega
    have done : ∀ (old : List V) (oa : Array Value) (z' : Nat), cap' < len + n → VRs K old oa.toList → old.all isCell = true → old.length = len * (tyOf P el).size → (Builtin.firstCells i.size len (.slice a' len cap')).run P w.drew = .ok oa w.drew →
        z' = (tyOf P el).size → newBlk s (len + n) z' (old ++ new) = some r →
        ∃ z w' K', (Builtin.append_ #[t, u] ty #[.slice a' len cap', yv]).run P w = .ok z w' ∧ TVR K' L r.1 z ∧ Mem K' L r.2.l r.2.h w' ∧ Step K L w K' L w' ∧ r.2.e = s.e := by
      intro old oa z' hg ho1 ho2 ho3 hrun hz' hnb
      obtain ⟨newCap, N, hge, hN, c', hc1, hc2, hr⟩ := grow old oa hg ho1 ho2 ho3 hrun
      cases hnb
      have hlen2 : (old ++ new).length ≤ c'.size := by
        rw [List.length_append, ho3, hlen, hc1, hN, ← Nat.add_mul]
        exact Nat.mul_le_mul_right _ hge
      obtain ⟨hm', hst'⟩ := hmd.alloc (ty := el) hc2 hlen2 (0, 0) (.inr (Nat.le_refl 0))
      refine ⟨_, _, _, hr, ?_, hm', hstd.trans hst', rfl⟩
      simp only [TVR, VR, SlR]
      refine ⟨_, newCap, rfl, by rw [hm.hr.1]; exact new_at _, hge, fun e => by omega, fun _ => ?_⟩
      intro g' B S N' k hK _
      rw [hm.hr.1] at hK
      simp at hK
      obtain ⟨_, rfl, rfl, rfl, _⟩ := hK
      rw [hz', hc1, hN]; omega
    cases sa with
    | any => cases hR
    | nil =>
      obtain ⟨rfl, rfl, rfl, e1⟩ := hx'
      cases e1
      have h' : newBlk s (0 + n) (tyOf P el).size ([] ++ new) = some r := by simpa using hR
      exact done [] #[] _ (by omega) (by simp [VRs]) rfl (by simp) (by simp [Builtin.firstCells]) rfl h'
    | «at» b g o =>
      obtain ⟨a, c1, e1, hat, hle, hz1, hroom⟩ := hx'
      cases e1
      rcases cnd_some hR with ⟨hez, hR⟩ | ⟨hez, hR⟩
      · have hz' : z = 0 := by simpa using hez
        have hcap := hz1 hz'
        rcases cnd_some hR with ⟨hl0, hR2⟩ | ⟨_, hR2⟩
        · have hl0' : len = 0 := by simpa using hl0
          subst hl0'
          have h' : newBlk s (0 + n) (tyOf P el).size ([] ++ new) = some r := by simpa using hR2
          exact done [] #[] _ (by omega) (by simp [VRs]) rfl (by simp) (by simp [Builtin.firstCells, loadCells, loadCellsFrom]) rfl h'
        · obtain ⟨p, hp, hR2⟩ := bnd_some hR2
          obtain ⟨hol, hR2⟩ := grd_some hR2
          obtain ⟨_, B, S, N, hK, c', ty', fr, h1, _, _, h4, _⟩ := hcells_ok hmd.hr hp
          have ha := hat.addr_of hK
          obtain ⟨s1, s2, s3, s4⟩ := seg_ok h4 o (len * (tyOf P el).size) hol
          refine done _ ((c'.toList.drop (S + o)).take (len * (tyOf P el).size)).toArray _ (by omega) (by simpa using s2) s3 (by simp; omega) ?_ rfl hR2
          rw [ha, ← hsz]
          simp only [Builtin.firstCells]
          exact run_seg h1 h4 hol
      · have hz' : 0 < z := by
          rcases Nat.eq_zero_or_pos z with e | e
          · simp [e] at hez
          · exact e
        obtain ⟨⟨rw1, c⟩, hp, hR⟩ := bnd_some hR
        rcases cnd_some hR with ⟨hrw, hR⟩ | ⟨_, hR⟩
        · obtain ⟨⟨hol, hzs'⟩, hR⟩ := grd_some hR
          cases hR
          simp only at hrw hol
          subst hrw
          obtain ⟨hh, B, S, N, hK, c', ty', fr, h1, h2, h3, h4, h5⟩ := hcells_ok hmd.hr hp
          have ha := hat.addr_of hK
          obtain ⟨s1, s2, s3, s4⟩ := seg_ok h4 o (len * (tyOf P el).size) hol
          by_cases hg : cap' < len + n
          · -- a new block
            obtain ⟨newCap, N2, hge, hN, c2, hc1, hc2, hr⟩ := grow _ ((c'.toList.drop (S + o)).take (len * (tyOf P el).size)).toArray hg (by simpa using s2) s3 (by simp; omega) (by
              rw [ha, ← hsz]
              simp only [Builtin.firstCells]
              exact run_seg h1 h4 hol)
            have hlen2 : ((c.drop o).take (len * (tyOf P el).size) ++ new).length ≤ N2 := by
              have hll : ((c.drop o).take (len * (tyOf P el).size)).length = len * (tyOf P el).size := by simp; omega
              rw [List.length_append, hll, hlen, hN, ← Nat.add_mul]
              exact Nat.mul_le_mul_right _ hge
            obtain ⟨hm', hst'⟩ := hmd.move (c1 := (c.drop o).take (len * (tyOf P el).size) ++ new) hh hK (w' := w.drew.alloc (.cells c2 el)) (B2 := w.heap.size) (S2 := 0) (N2 := N2) (.inr ⟨Nat.le_refl _, by simp⟩)
              ⟨c2, el, (0, 0), by show (w.heap.push _)[w.heap.size]? = _; simp, hc1, by omega, hc2, .inr (Nat.le_refl 0)⟩ (fun B' hB' _ => RowKit.Below.heap_alloc _ _ _ hB') (by simp) rfl rfl rfl
            refine ⟨_, _, _, hr, ?_, hm', hstd.trans hst', rfl⟩
            have hlt' : b < K.length := (List.getElem?_eq_some_iff.1 hK).1
            simp only [TVR, VR, SlR]
            refine ⟨_, newCap, rfl, ⟨g + 1, w.heap.size, 0, N2, true, List.getElem?_set_self hlt', Nat.le_refl _, fun _ => rfl⟩, hge, fun e => by omega, fun _ => ?_⟩
            intro g' B' S' N' k hK' _
            rw [List.getElem?_set_self hlt'] at hK'
            cases hK'
            rw [hzs', hN]; omega
          · -- in place
            have hr := hroom hz' g B S N true hK rfl
            have hfitc : len + n ≤ cap' := by omega
            have hmul : (len + n) * (tyOf P el).size ≤ cap' * (tyOf P el).size := Nat.mul_le_mul_right _ hfitc
            have hmul2 : (len + n) * (tyOf P el).size = len * (tyOf P el).size + n * (tyOf P el).size := Nat.add_mul _ _ _
            rw [hzs'] at hr
            obtain ⟨hhw, B', S', N', hKw, cw, tyw, frw, hw1, hw2, hw3, hw4, hw5⟩ := hcells_ok hm.hr hp
            rw [hK] at hKw; cases hKw
            have harr : arr.size = n * (tyOf P el).size := by rw [hv.list, hlen]
            have hst := run_storeCells_fr (P := P) B (S + o + len * (tyOf P el).size) tyw frw arr.toList 0 cw w hw1 (by rw [hw2]; exact hw5 rfl) (by simp; omega) (hv.isCell_one hv1)
            have hrun := run_append_fits (P := P) (ty := ty) (base := some a) (sCap := cap') ht hud hdi hs hn hfc hfitc (fun a1 e => by
              cases e
              rw [ha, add_addr]
              exact hst) (fun e => by cases e)
            have hsz3 : (cw.toList.take (S + o + len * (tyOf P el).size + 0) ++ arr.toList ++ cw.toList.drop (S + o + len * (tyOf P el).size + 0 + arr.toList.length)).toArray.size = N := by
              simp; omega
            have hlen3 : ((c.drop o).take (len * (tyOf P el).size) ++ new).length = (len + n) * (tyOf P el).size := by
              have hll : ((c.drop o).take (len * (tyOf P el).size)).length = len * (tyOf P el).size := by simp; omega
              rw [List.length_append, hll, hlen, ← Nat.add_mul]
            have hcr : CR K ((c.drop o).take (len * (tyOf P el).size) ++ new) (cw.toList.take (S + o + len * (tyOf P el).size + 0) ++ arr.toList ++ cw.toList.drop (S + o + len * (tyOf P el).size + 0 + arr.toList.length)).toArray (S + o) := by
              intro j v hj
              by_cases h6 : j < len * (tyOf P el).size
              · rw [List.getElem?_append_left (by simp; omega), List.getElem?_take, if_pos h6, List.getElem?_drop] at hj
                obtain ⟨k1, x1, k2, k3⟩ := hw4 _ v hj
                refine ⟨k1, x1, ?_, k3⟩
                rw [List.getElem?_toArray, List.append_assoc, List.getElem?_append_left (by simp; omega), List.getElem?_take, if_pos (by omega), ← k2, Array.getElem?_toList]
                congr 1; omega
              · have hll : ((c.drop o).take (len * (tyOf P el).size)).length = len * (tyOf P el).size := by simp; omega
                rw [List.getElem?_append_right (by omega), hll] at hj
                obtain ⟨x1, k2, k3⟩ := hv.get _ v hj
                refine ⟨List.all_eq_true.1 hv1 v (List.mem_of_getElem? hj), x1, ?_, k3⟩
                have hjl := (List.getElem?_eq_some_iff.1 k2).1
                rw [List.getElem?_toArray, List.append_assoc, List.getElem?_append_right (by simp; omega), List.getElem?_append_left (by simp at hjl ⊢; omega), ← k2]
                congr 1; simp; omega
            obtain ⟨hm', hst'⟩ := hm.move (c1 := (c.drop o).take (len * (tyOf P el).size) ++ new) hhw hK (w' := w.setRow B (cw.toList.take (S + o + len * (tyOf P el).size + 0) ++ arr.toList ++ cw.toList.drop (S + o + len * (tyOf P el).size + 0 + arr.toList.length)).toArray)
              (B2 := B) (S2 := S + o) (N2 := N) (.inl rfl)
              ⟨_, tyw, frw, setRow_heap w B cw _ tyw frw hw1, hsz3, by rw [hlen3]; omega, hcr, hw5 rfl⟩ (fun B' _ hne => setRow_other w B B' _ hne) (by simp) rfl rfl rfl
            refine ⟨_, _, _, hrun, ?_, hm', hst', rfl⟩
            have hlt' : b < K.length := (List.getElem?_eq_some_iff.1 hK).1
            simp only [TVR, VR, SlR]
            refine ⟨a, cap', rfl, ⟨g + 1, B, S + o, N, true, List.getElem?_set_self hlt', Nat.le_refl _, fun _ => by rw [ha, Nat.add_zero]⟩, hfitc, fun e => by omega, fun _ => ?_⟩
            intro g' B' S' N' k hK' _
            rw [List.getElem?_set_self hlt'] at hK'
            cases hK'
            rw [hzs']; omega
        · cases hR

end Go.Ev
