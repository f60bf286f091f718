/-
Loads and stores; new variables.
-/
import Derived.Test.YtgkmfoljhapmiaaOp7
set_option linter.unusedSimpArgs false
set_option linter.unusedVariables false
namespace Go.Ev
variable [Good] {P : Program} {K : KM} {L : KL} {w : World}

theorem hcells_ok {h : Heap} (hr : HR K h w) {b g : Nat} {p : Bool × List V} (hc : hcells h b g = some p) :
    h[b]? = some (.cells g p.1 p.2) ∧ ∃ B S N, K[b]? = some (.c g B S N p.1) ∧ ∃ c' ty fr, w.heap[B]? = some (.cells c' ty fr) ∧ c'.size = N ∧ S + p.2.length ≤ N ∧ CR K p.2 c' S ∧ (p.1 = true → N ≤ fr.1 ∨ fr.2 ≤ fr.1) := by
  unfold hcells at hc
  split at hc
  · rename_i g' k c he
    obtain ⟨hg, h'⟩ := grd_some hc
    cases h'
    subst hg
    obtain ⟨e, he', B, S, N, rfl, h1⟩ := hr.2 b _ he
    exact ⟨he, B, S, N, he', h1⟩
  · cases hc

omit [Good] in
theorem lcells_ok {l : Locs} (hl : LR K L l w) {s ver : Nat} {c : List V} (hc : lcells l s ver = some c) :
    0 < ver ∧ l[s]? = some (ver, c) ∧ ∃ B, L[s]? = some (ver, B) ∧ ∃ c' e, w.heap[B]? = some (.cells c' e (0, 0)) ∧ c'.size = c.length ∧ CR K c c' 0 := by
  unfold lcells at hc
  split at hc
  · rename_i ver' c' he
    obtain ⟨⟨hg, h0⟩, h'⟩ := grd_some hc
    cases h'
    subst hg
    obtain ⟨B, hB, h1⟩ := hl.2 s _ _ he
    exact ⟨h0, he, B, hB, h1 h0⟩
  · cases hc

theorem load_ok {s : St} {t : TypeId} {x : TV} {v : V} {xv : Value} (h : load (tyOf P t) s x = some v) (hx : TVR K L x xv) (hm : Mem K L s.l s.h w) :
    ∃ y, (Instr.loadAt t xv).run P w = .ok y w ∧ VR K v y := by
  unfold load at h
  split at h <;> first | (cases h; done) | skip
  · obtain ⟨p, hp, h⟩ := bnd_some h
    obtain ⟨_, B, S, N, hK, c', ty, fr, h1, _, _, h4, _⟩ := hcells_ok hm.hr hp
    obtain ⟨a, rfl, g', B', S', N', k', hK', _, ha⟩ : ∃ a, xv = .pointer (some a) ∧ AtR K _ _ _ a := by simpa only [TVR, VR] using hx
    rw [hK] at hK'; cases hK'
    rw [ha rfl]
    obtain ⟨y, hy, hv⟩ := rd_ok (P := P) h1 h4 h
    exact ⟨y, by simp [Instr.loadAt, run_sureAddr, hy], hv⟩
  · obtain ⟨c, hc, h⟩ := bnd_some h
    obtain ⟨h0, _, B, hB, c', e, h1, _, h3⟩ := lcells_ok hm.lr hc
    obtain ⟨_, cur, B', hs, _, a, rfl, ha⟩ := hx
    rw [hB] at hs; cases hs
    rw [ha rfl]
    obtain ⟨y, hy, hv⟩ := rd_ok (P := P) h1 h3 h
    exact ⟨y, by simpa [Instr.loadAt, run_sureAddr] using hy, hv⟩

omit [Good] in
theorem run_storeCells_fr (g o : Nat) (t : TypeId) (fz : Nat × Nat) : ∀ (vs : List Value) (i : Nat) (cur : Array Value) (w : World), w.heap[g]? = some (.cells cur t fz) →
    (cur.size ≤ fz.1 ∨ fz.2 ≤ fz.1) → o + i + vs.length ≤ cur.size → (∀ v ∈ vs, v.oneCell' = true) →
    (storeCells ⟨g, o, none⟩ vs i).run P w = .ok () (w.setRow g (cur.toList.take (o + i) ++ vs ++ cur.toList.drop (o + i + vs.length)).toArray)
  | [], i, cur, w, hg, _, _, _ => by
    simp only [storeCells, List.append_nil, List.length_nil, Nat.add_zero, List.take_append_drop, Array.toArray_toList]
    rw [setRow_self w g cur t fz hg]
    rfl
  | v :: rest, i, cur, w, hg, hf, hl, h1 => by
    have hi : o + i < cur.size := by simp at hl; omega
    have hadd : (⟨g, o, none⟩ : Addr).add i = ⟨g, o + i, none⟩ := add_addr g o i
    have hcell : w.cell? ⟨g, o + i, none⟩ = some cur[o + i] := by simp [World.cell?, hg, hi]
    have hfro : w.frozen? ⟨g, o + i, none⟩ = false := by
      simp only [World.frozen?, hg]
      rw [Bool.eq_false_iff]
      intro e
      simp at e
      omega
    have hst : (Go.store ((⟨g, o, none⟩ : Addr).add i) v).run P w = .ok () (w.setRow g (cur.setIfInBounds (o + i) v)) := by
      rw [hadd, run_store P w _ v _ (h1 v (by simp)), hcell]
      simp [hfro, setCell_eq_setRow w g (o + i) cur t fz v hg]
    have ih := run_storeCells_fr g o t fz rest (i + 1) (cur.setIfInBounds (o + i) v) (w.setRow g (cur.setIfInBounds (o + i) v)) (setRow_heap w g cur _ t _ hg) (by simpa using hf) (by simp at hl ⊢; omega) (fun x hx => h1 x (by simp [hx]))
    simp only [storeCells, Sem.run_bind, hst, Result.andThen_ok, ih, setRow_setRow]
    congr 3
    have e := list_seg_step cur.toList (o + i) v rest (by simp at hl ⊢; omega)
    simpa [Array.toList_setIfInBounds, Nat.add_assoc] using e

omit [Good] in
/-- A part of a row is written. -/
theorem write_row {B S o : Nat} {c c1 vs : List V} {vs' : List Value} {c' : Array Value} {ty : TypeId} {fr : Nat × Nat}
    (hb : w.heap[B]? = some (.cells c' ty fr)) (hf : c'.size ≤ fr.1 ∨ fr.2 ≤ fr.1) (hc : CR K c c' S) (hle : S + c.length ≤ c'.size) (hs : splice c o vs = some c1) (hv : VRs K vs vs') (hv1 : vs.all isCell = true) :
    ∃ c2, (storeCells ⟨B, S + o, none⟩ vs').run P w = .ok () (w.setRow B c2) ∧ c2.size = c'.size ∧ CR K c1 c2 S ∧ c1.length = c.length := by
  obtain ⟨h1, h2, h3⟩ := splice_some hs
  have hl := hv.length
  have hrun := run_storeCells_fr (P := P) B (S + o) ty fr vs' 0 c' w hb hf (by omega) (hv.isCell_one hv1)
  refine ⟨_, hrun, by simp; omega, fun j v hj => ?_, h2⟩
  rw [h3 j] at hj
  by_cases hin : o ≤ j ∧ j < o + vs.length
  · rw [if_pos hin] at hj
    obtain ⟨x, hx, hr⟩ := hv.get _ v hj
    refine ⟨List.all_eq_true.1 hv1 v (List.mem_of_getElem? hj), x, ?_, hr⟩
    rw [List.getElem?_toArray, List.append_assoc, List.getElem?_append_right (by simp; omega), List.getElem?_append_left (by simp; omega), ← hx]
    congr 1; simp; omega
  · rw [if_neg hin] at hj
    obtain ⟨hcl, x, hx, hr⟩ := hc j v hj
    refine ⟨hcl, x, ?_, hr⟩
    rw [List.getElem?_toArray]
    by_cases h4 : j < o
    · rw [List.append_assoc, List.getElem?_append_left (by simp; omega), List.getElem?_take, if_pos (by omega)]
      simpa using hx
    · rw [List.append_assoc, List.getElem?_append_right (by simp; omega), List.getElem?_append_right (by simp; omega), List.getElem?_drop]
      rw [← hx, Array.getElem?_toList]
      congr 1; simp; omega

omit [Good] in
theorem wr_splice {c c1 : List V} {o : Nat} {t : TI} {v : V} (h : wr c o t v = some c1) : ∃ vs, cellsV v = some vs ∧ vs.length = t.size ∧ splice c o vs = some c1 := by
  unfold wr at h
  obtain ⟨ag, _, h⟩ := bnd_some h
  rcases cnd_some h with ⟨_, h⟩ | ⟨_, h⟩
  · split at h
    · obtain ⟨hl, h⟩ := grd_some h
      exact ⟨_, rfl, hl, h⟩
    · cases h
  · rcases cnd_some h with ⟨hc, h⟩ | ⟨_, h⟩
    · obtain ⟨⟨h1, h2⟩, h⟩ := grd_some h
      cases h
      refine ⟨[v], ?_, h2.symm, ?_⟩
      · cases v <;> first | rfl | (cases hc)
      · simp only [splice, grd, List.length_singleton]
        rw [if_pos (by omega), List.set_eq_take_append_cons_drop, if_pos h1]
        simp
    · cases h

/-- A block of cells of the heap is written. -/
theorem Mem.write {l : Locs} {h : Heap} (hm : Mem K L l h w) {b g B S N : Nat} {c1 : List V} {c2 c' : Array Value} {ty : TypeId} {fr : Nat × Nat} (hh : ∃ c, h[b]? = some (.cells g true c)) (hK : K[b]? = some (.c g B S N true))
    (hb : w.heap[B]? = some (.cells c' ty fr)) (hsz : c'.size = N) (hfr : N ≤ fr.1 ∨ fr.2 ≤ fr.1) (h2 : c2.size = c'.size) (hle : S + c1.length ≤ N) (hc : CR K c1 c2 S) :
    Mem K L l (h.set b (.cells g true c1)) (w.setRow B c2) ∧ Step K L w K L (w.setRow B c2) := by
  have hlt : b < h.length := let ⟨c, hc⟩ := hh; (List.getElem?_eq_some_iff.1 hc).1
  have hown : OwnBy K L (.blk b) B := .inl ⟨g, S, N, true, hK, rfl⟩
  refine hm.upd b (g2 := g) (B2 := B) (S2 := S) (N2 := N) (k2 := true) (c2 := c1) (KM.le_refl K) (fun _ _ => rfl) (fun b' hb' => ?_) (by simp [hm.hr.1]) hK rfl ?_ ?_ ?_ (.inl hown) (fun B' hB' hn => ?_) (by simp) rfl rfl rfl
  · rw [List.getElem?_set_ne (Ne.symm hb')]
  · rw [List.getElem?_set_self hlt]
  · exact ⟨_, _, _, rfl, c2, ty, fr, setRow_heap w B c' c2 ty fr hb, by omega, hle, hc, fun _ => hfr⟩
  · rintro s B' ⟨B1, l', ver, h1, _⟩
    rw [hK] at h1; cases h1
  · by_cases e : B' = B
    · subst e; exact absurd hown hn
    · exact setRow_other w B B' c2 e

/-- A slot of the frame's memory is written. -/
theorem Mem.writeL {l : Locs} {h : Heap} (hm : Mem K L l h w) {s ver B : Nat} {c1 : List V} {c2 c' : Array Value} {ty : TypeId} (hl : ∃ c, l[s]? = some (ver, c)) (hL : L[s]? = some (ver, B)) (h0 : 0 < ver)
    (hb : w.heap[B]? = some (.cells c' ty (0, 0))) (h2 : c2.size = c1.length) (hc : CR K c1 c2 0) :
    Mem K L (l.set s (ver, c1)) h (w.setRow B c2) ∧ Step K L w K L (w.setRow B c2) := by
  have hlt : s < l.length := let ⟨c, hc⟩ := hl; (List.getElem?_eq_some_iff.1 hc).1
  have hown : OwnBy K L (.loc s) B := ⟨ver, hL, h0⟩
  refine hm.updL s (ver2 := ver) (B2 := B) (c2 := c1) (KL.le_refl L) (fun _ _ => rfl) (fun s' hs' => ?_) (by simp [hm.lr.1]) hL ?_ h0 ?_ (.inl hown) (fun B' hB' hn => ?_) (by simp) rfl rfl rfl
  · rw [List.getElem?_set_ne (Ne.symm hs')]
  · rw [List.getElem?_set_self hlt]
  · exact ⟨c2, ty, setRow_heap w B c' c2 ty (0, 0) hb, h2, hc⟩
  · by_cases e : B' = B
    · subst e; exact absurd hown hn
    · exact setRow_other w B B' c2 e

omit [Good] in
theorem putBlk_some {s s' : St} {b g : Nat} {f : List V → Option (List V)} (h : putBlk s b g f = some s') :
    ∃ c c1, hcells s.h b g = some (true, c) ∧ f c = some c1 ∧ s' = { s with h := s.h.set b (.cells g true c1) } := by
  unfold putBlk at h
  obtain ⟨p, hp, h⟩ := bnd_some h
  rcases cnd_some h with ⟨hr, h⟩ | ⟨_, h⟩
  · obtain ⟨c1, hc1, h⟩ := bnd_some h
    cases h
    obtain ⟨r, c⟩ := p
    cases hr
    exact ⟨c, c1, hp, hc1, rfl⟩
  · cases h

/-- Cells are laid into a block of the heap. -/
theorem putBlk_ok {s s' : St} {b g o : Nat} {vs : List V} {vs' : List Value} {f : List V → Option (List V)} (h : putBlk s b g f = some s') (hf : ∀ c c1, f c = some c1 → splice c o vs = some c1)
    (hm : Mem K L s.l s.h w) (hv : VRs K vs vs') (hv1 : vs.all isCell = true) {a : Addr} (ha : AtR K b g o a) :
    ∃ w', (storeCells a vs').run P w = .ok () w' ∧ Mem K L s'.l s'.h w' ∧ Step K L w K L w' ∧ s'.e = s.e := by
  obtain ⟨c, c1, hc, hf1, rfl⟩ := putBlk_some h
  obtain ⟨hh, B, S, N, hK, c', ty, fr, h1, h2, h3, h4, h5⟩ := hcells_ok hm.hr hc
  obtain ⟨g', B', S', N', k', hK', _, ha⟩ := ha
  rw [hK] at hK'; cases hK'
  rw [ha rfl]
  have hs := hf _ _ hf1
  obtain ⟨c2, hrun, hsz, hcr, hlen⟩ := write_row (P := P) h1 (by rw [h2]; exact h5 rfl) h4 (by omega) hs hv hv1
  obtain ⟨hm', hst⟩ := hm.write ⟨c, hh⟩ hK h1 h2 (h5 rfl) hsz (by simp only at h3 hlen; omega) hcr
  exact ⟨_, hrun, hm', hst, rfl⟩

omit [Good] in
theorem run_storeVar {t : TypeId} {a : Addr} {v : Value} (hi : (P.info? t).isSome = true) (hs : v.cells.size = (tyOf P t).size) {w' : World} (h : (storeCells a v.cells.toList).run P w = .ok () w') :
    (storeVar t a v).run P w = .ok () w' := by
  simp [storeVar, run_size hi, hs, h]

omit [Good] in
theorem wr_info {c c1 : List V} {o : Nat} {t : TypeId} {v : V} (h : wr c o (tyOf P t) v = some c1) : (P.info? t).isSome = true := by
  unfold wr at h
  obtain ⟨ag, hk, _⟩ := bnd_some h
  exact info_kind hk

theorem store_ok {s s' : St} {t : TypeId} {x : TV} {v : V} {xv yv : Value} (h : store (tyOf P t) s x v = some s') (hx : TVR K L x xv) (hy : VR K v yv) (hm : Mem K L s.l s.h w) :
    ∃ w', (Instr.storeAt t xv yv).run P w = .ok () w' ∧ Mem K L s'.l s'.h w' ∧ Step K L w K L w' ∧ s'.e = s.e := by
  unfold store at h
  split at h <;> first | (cases h; done) | skip
  · obtain ⟨c, c1, hc, hf1, hs'⟩ := putBlk_some h
    obtain ⟨vs, hvs, hlen, hsp⟩ := wr_splice hf1
    obtain ⟨hv1, hv2⟩ := cellsV_ok hy hvs
    obtain ⟨a, rfl, ha⟩ : ∃ a, xv = .pointer (some a) ∧ AtR K _ _ _ a := by simpa only [TVR, VR] using hx
    obtain ⟨w', hrun, hm', hst, he⟩ := putBlk_ok (P := P) h (fun c c1 hc1 => by
      obtain ⟨vs2, hvs2, _, hsp2⟩ := wr_splice hc1
      rw [hvs] at hvs2; cases hvs2; exact hsp2) hm hv1 hv2 ha
    refine ⟨w', ?_, hm', hst, he⟩
    have := run_storeVar (P := P) (t := t) (a := a) (v := yv) (wr_info hf1) (by rw [← hlen]; simpa using hv1.length) hrun
    simpa [Instr.storeAt, run_sureAddr] using this
  · rename_i sl ver o
    obtain ⟨c, hc, h⟩ := bnd_some h
    obtain ⟨c1, hw, h⟩ := bnd_some h
    cases h
    obtain ⟨h0, hl, B, hB, c', e, h1, h2, h3⟩ := lcells_ok hm.lr hc
    obtain ⟨vs, hvs, hlen, hsp⟩ := wr_splice hw
    obtain ⟨hv1, hv2⟩ := cellsV_ok hy hvs
    obtain ⟨_, cur, B', hs, _, a, rfl, ha⟩ := hx
    rw [hB] at hs; cases hs
    rw [ha rfl]
    obtain ⟨c2, hrun, hsz, hcr, hl1⟩ := write_row (P := P) (S := 0) h1 (.inr (Nat.le_refl 0)) h3 (by omega) hsp hv1 hv2
    obtain ⟨hm', hst⟩ := hm.writeL ⟨c, hl⟩ hB h0 h1 (by omega) hcr
    refine ⟨_, ?_, hm', hst, rfl⟩
    rw [Nat.zero_add] at hrun
    have := run_storeVar (P := P) (t := t) (v := yv) (wr_info hw) (by rw [← hlen]; simpa using hv1.length) hrun
    simpa [Instr.storeAt, run_sureAddr] using this

end Go.Ev
