/-
More for runs: loops written out, loops over functions, closed runs, blocks of a heap.
-/
import Derived.Test.YtgkmfoljhapmiaaWp
set_option linter.unusedSimpArgs false
set_option linter.unusedVariables false
namespace Go.Ev

theorem nat_cast_0 : ((0 : Nat) : Int) = 0 := rfl
theorem nat_cast_1 : ((1 : Nat) : Int) = 1 := rfl
theorem wrap_u64_0 : IntKind.u64.wrap 0 = 0 := by decide
theorem wrap_u64_1 : IntKind.u64.wrap 1 = 1 := by decide

theorem arr_empty {α : Type} : (#[] : Array α).isEmpty = true := rfl
theorem reps_0 (z : List V) : reps 0 z = [] := by simp [reps]
theorem reps_1 (z : List V) : reps 1 z = z := by simp [reps]

/-! A loop, one round written out. -/
noncomputable def unrK (X : Env) (f : FuncId) (c : Code) {R : Type} (k : Ex × St → Option R) : Ex → St → Option R
  | .normal, s => bnd (Lo X f c s) k
  | x, s => k (x, s)
section
variable {X : Env} {f : FuncId} {c : Code} {R : Type}
theorem unrK_n (k : Ex × St → Option R) (s : St) : unrK X f c k .normal s = bnd (Lo X f c s) k := rfl
theorem unrK_e (k : Ex × St → Option R) (id : Nat) (s : St) : unrK X f c k (.exit id) s = k (.exit id, s) := rfl
theorem unrK_r (k : Ex × St → Option R) (s : St) : unrK X f c k .ret s = k (.ret, s) := rfl
theorem Ok.unroll {k : Ex × St → Option R} {s : St} {Q : R → Prop} (h : Ok (evC X (D X) (Lo X f) f c s (unrK X f c k)) Q) : Ok (Ev.bnd (Lo X f c s) k) Q := by
  obtain ⟨r, e, q⟩ := h
  rw [evC_stop] at e
  obtain ⟨⟨x, s'⟩, e1, e2⟩ := bnd_get e
  have hb : loopBody X (D X) (Lo X f) (Lo X f) f c s = loopE (Lo X f) c x s' := by
    rw [loopBody_eq, evC_stop, e1]; rfl
  cases x with
  | normal =>
    obtain ⟨p, e3, e4⟩ := bnd_get (x := Lo X f c s') e2
    exact ⟨r, by rw [Lo_of (hb.trans e3)]; exact e4, q⟩
  | exit id => exact ⟨r, by rw [Lo_of (hb.trans rfl)]; exact e2, q⟩
  | ret => exact ⟨r, by rw [Lo_of (hb.trans rfl)]; exact e2, q⟩
end

/-! A run with some fuel is a run with more. -/
theorem loopN_more {X : Env} {n : Nat} (hC : LimC (fun m => callN X (n + m)) (callN X n)) {f : FuncId} : ∀ (k : Nat) (c : Code) (s : St) (r : Ex × St), loopN X (callN X n) f k c s = some r →
    ∀ g : Nat → Nat, (∀ b, ∃ N, ∀ m, N ≤ m → b ≤ g m) → Even (fun m => loopN X (callN X (n + m)) f (g m) c s) r
  | 0, c, s, r, h, g, hg => by cases h
  | k + 1, c, s, r, h, g, hg => by
    have hg' : ∀ b, ∃ N, ∀ m, N ≤ m → b ≤ g m - 1 := fun b => let ⟨N, hN⟩ := hg (b + 1); ⟨N, fun m hm => by have := hN m hm; omega⟩
    have ih : LimL (fun m => loopN X (callN X (n + m)) f (g m - 1)) (loopN X (callN X n) f k) := fun c s r h => loopN_more hC k c s r h (fun m => g m - 1) hg'
    obtain ⟨N, hN⟩ := loopBody_lim hC ih ih h
    obtain ⟨N', hN'⟩ := hg 1
    refine ⟨max N N', fun m hm => ?_⟩
    have h1 := hN m (by omega)
    have h2 := hN' m (by omega)
    obtain ⟨q, hq⟩ : ∃ q, g m = q + 1 := ⟨g m - 1, by omega⟩
    simp only [hq, Nat.add_sub_cancel] at h1 ⊢
    exact h1

theorem callN_more {X : Env} : ∀ n : Nat, LimC (fun m => callN X (n + m)) (callN X n)
  | 0 => fun fv a h r e => by cases e
  | n + 1 => fun fv a h r e => by
    have hC := callN_more (X := X) n
    have hL : ∀ f, LimL (fun m => loopN X (callN X (n + m)) f (n + m)) (loopN X (callN X n) f n) := fun f c s r h =>
      loopN_more hC n c s r h (fun m => n + m) fun b => ⟨b, fun m hm => by omega⟩
    have e' : callBody X (callN X n) (fun f => loopN X (callN X n) f n) fv a h = some r := e
    have goal : Even (fun m => callBody X (callN X (n + m)) (fun f => loopN X (callN X (n + m)) f (n + m)) fv a h) r := by
      unfold callBody at e' ⊢
      cases fv with
      | fn f cap =>
        dsimp only at e' ⊢
        cases hp : X.pin f with
        | some b => rw [hp] at e'; exact .const e'
        | none => rw [hp] at e'; exact evBody_lim (Lf := fun m f => loopN X (callN X (n + m)) f (n + m)) hC hL e'
      | yld l => exact evRound_lim (Lf := fun m f => loopN X (callN X (n + m)) f (n + m)) hC hL e'
      | _ => cases e'
    obtain ⟨N, hN⟩ := goal
    refine ⟨N, fun m hm => ?_⟩
    have := hN m hm
    show callN X (n + 1 + m) fv a h = some r
    rw [show n + 1 + m = (n + m) + 1 by omega]
    exact this

theorem D_closed {X : Env} (n : Nat) {fv : V} {a : List V} {h : Heap} {r : V × Heap} (e : callN X n fv a h = some r) : D X fv a h = some r := by
  obtain ⟨N, hN⟩ := callN_more n fv a h r e
  refine last_some.2 ⟨n + N, fun m hm => ?_⟩
  have h1 : callN X (n + (m - n)) fv a h = some r := hN (m - n) (by omega)
  rw [show n + (m - n) = m by omega] at h1
  exact h1

/-! Blocks. -/
theorem hcells_lt {h : Heap} {b g : Nat} {p : Bool × List V} (e : hcells h b g = some p) : b < h.length := by
  unfold hcells at e
  cases hx : h[b]? with
  | none => rw [hx] at e; cases e
  | some y => exact (List.getElem?_eq_some_iff.1 hx).1
theorem hcells_set_ne {h : Heap} {b l g : Nat} {x : Blk} (e : b ≠ l) : hcells (h.set l x) b g = hcells h b g := by
  unfold hcells; rw [List.getElem?_set_ne (Ne.symm e)]
theorem hcells_set_eq {h : Heap} {l g : Nat} {k : Bool} {c : List V} (e : l < h.length) : hcells (h.set l (.cells g k c)) l g = some (k, c) := by
  unfold hcells; rw [List.getElem?_set_self e]; exact grd_t rfl _
theorem hcells_app {h : Heap} {l : List Blk} {b g : Nat} (hb : b < h.length) : hcells (h ++ l) b g = hcells h b g := by
  unfold hcells; rw [List.getElem?_append_left hb]
theorem hcells_new {h : Heap} {g : Nat} {k : Bool} {c : List V} : hcells (h ++ [.cells g k c]) h.length g = some (k, c) := by
  unfold hcells
  rw [List.getElem?_append_right (Nat.le_refl _), Nat.sub_self]
  exact grd_t rfl _

theorem hcells_at {h : Heap} {i g g' : Nat} {k : Bool} {c : List V} (e : i = h.length) : hcells (h ++ [.cells g' k c]) i g = grd (g' = g) (some (k, c)) := by
  subst e
  unfold hcells
  rw [List.getElem?_append_right (Nat.le_refl _), Nat.sub_self]
  rfl
theorem hcells_ge {h l : Heap} {i g : Nat} (e : h.length ≤ i) : hcells (h ++ l) i g = hcells l (i - h.length) g := by
  unfold hcells; rw [List.getElem?_append_right e]
theorem hcells_c0 {l : Heap} {g g' : Nat} {k : Bool} {c : List V} : hcells (.cells g' k c :: l) 0 g = grd (g' = g) (some (k, c)) := rfl
theorem hcells_cs {l : Heap} {x : Blk} {i g : Nat} : hcells (x :: l) (i + 1) g = hcells l i g := rfl
theorem heap_set_ge {h l : Heap} {i : Nat} {x : Blk} (e : h.length ≤ i) : (h ++ l).set i x = h ++ l.set (i - h.length) x := List.set_append_right _ _ e
theorem heap_set_lt {h l : Heap} {i : Nat} {x : Blk} (e : i < h.length) : (h ++ l).set i x = h.set i x ++ l := List.set_append_left _ _ e
/-- From a heap to a later one: the blocks outside F stand as they stood. -/
def Keeps (F : List Nat) (h h' : Heap) : Prop := h.length ≤ h'.length ∧ ∀ b, b < h.length → b ∉ F → h'[b]? = h[b]?
theorem Keeps.refl (F : List Nat) (h : Heap) : Keeps F h h := ⟨Nat.le_refl _, fun _ _ _ => rfl⟩
theorem Keeps.trans {F : List Nat} {a b c : Heap} (h : Keeps F a b) (k : Keeps F b c) : Keeps F a c :=
  ⟨Nat.le_trans h.1 k.1, fun i hi hF => (k.2 i (Nat.lt_of_lt_of_le hi h.1) hF).trans (h.2 i hi hF)⟩
theorem Keeps.mono {F G : List Nat} {a b : Heap} (h : Keeps F a b) (hs : ∀ i, i < a.length → i ∈ F → i ∈ G) : Keeps G a b := ⟨h.1, fun i hi hG => h.2 i hi fun hF => hG (hs i hi hF)⟩
theorem Keeps.app (F : List Nat) (h : Heap) (l : List Blk) : Keeps F h (h ++ l) := ⟨by simp, fun b hb _ => List.getElem?_append_left hb⟩
theorem Keeps.set {F : List Nat} {a b : Heap} (h : Keeps F a b) {i : Nat} (hi : i ∈ F ∨ a.length ≤ i) (x : Blk) : Keeps F a (b.set i x) :=
  ⟨by rw [List.length_set]; exact h.1, fun j hj hF => by
    rw [List.getElem?_set_ne, h.2 j hj hF]
    rintro rfl
    rcases hi with hi | hi
    · exact hF hi
    · omega⟩
theorem Keeps.snoc {F : List Nat} {a b : Heap} (h : Keeps F a b) (l : List Blk) : Keeps F a (b ++ l) := h.trans (.app F b l)
theorem Keeps.cells {F : List Nat} {h h' : Heap} (k : Keeps F h h') {b g : Nat} {p : Bool × List V} (e : hcells h b g = some p) (hb : b ∉ F) : hcells h' b g = some p := by
  have := k.2 b (hcells_lt e) hb
  unfold hcells at e ⊢
  rw [this]; exact e

/-! Loops over functions. -/
def loopAt (h : Heap) (l : Nat) : Option LoopR := match h[l]? with | some (.loop r) => some r | _ => none
theorem loopAt_lt {h : Heap} {l : Nat} {r : LoopR} (e : loopAt h l = some r) : l < h.length := by
  unfold loopAt at e
  cases hx : h[l]? with
  | none => rw [hx] at e; cases e
  | some y => exact (List.getElem?_eq_some_iff.1 hx).1
theorem loopAt_get {h : Heap} {l : Nat} {r : LoopR} (e : loopAt h l = some r) : h[l]? = some (.loop r) := by
  unfold loopAt at e
  split at e
  · rename_i r' hr; cases e; exact hr
  · cases e
theorem loopAt_set_ne {h : Heap} {b l : Nat} {x : Blk} (e : l ≠ b) : loopAt (h.set b x) l = loopAt h l := by
  unfold loopAt; rw [List.getElem?_set_ne (Ne.symm e)]
theorem loopAt_set_eq {h : Heap} {l : Nat} {r : LoopR} (e : l < h.length) : loopAt (h.set l (.loop r)) l = some r := by
  unfold loopAt; rw [List.getElem?_set_self e]
theorem loopAt_app {h : Heap} {l : List Blk} {b : Nat} (hb : b < h.length) : loopAt (h ++ l) b = loopAt h b := by
  unfold loopAt; rw [List.getElem?_append_left hb]
theorem loopAt_new {h : Heap} {r : LoopR} : loopAt (h ++ [.loop r]) h.length = some r := by
  unfold loopAt
  rw [List.getElem?_append_right (Nat.le_refl _), Nat.sub_self]
  rfl
theorem Keeps.loop {F : List Nat} {h h' : Heap} (k : Keeps F h h') {l : Nat} {r : LoopR} (e : loopAt h l = some r) (hb : l ∉ F) : loopAt h' l = some r := by
  have := k.2 l (loopAt_lt e) hb
  unfold loopAt at e ⊢
  rw [this]; exact e

/-- Behind what a round assigns. -/
noncomputable def asgK (X : Env) (l : Nat) (fn : FuncId) (body : Code) : Ex → St → Option (V × Heap)
  | .normal, s => bnd (beginRound l s) fun s' => evC X (D X) (Lo X fn) fn body s' (endRound l)
  | _, _ => none
noncomputable def asgM (X : Env) (l : Nat) (fn : FuncId) (body : Code) (e : List TV) (lc : Locs) (h : Heap) : Option LoopR → Option (V × Heap)
  | some r => grd (r.state = 0) (evC X (D X) (Lo X fn) fn body ⟨e, lc, h.set l (.loop { r with state := 1 })⟩ (endRound l))
  | none => none
theorem asgM_s {X : Env} {l : Nat} {fn : FuncId} {body : Code} {e : List TV} {lc : Locs} {h : Heap} {r : LoopR} :
    asgM X l fn body e lc h (some r) = grd (r.state = 0) (evC X (D X) (Lo X fn) fn body ⟨e, lc, h.set l (.loop { r with state := 1 })⟩ (endRound l)) := rfl
theorem asgK_n {X : Env} {l : Nat} {fn : FuncId} {body : Code} {e : List TV} {lc : Locs} {h : Heap} : asgK X l fn body .normal ⟨e, lc, h⟩ = asgM X l fn body e lc h (loopAt h l) := by
  simp only [asgK, beginRound, loopAt]
  cases hx : h[l]? with
  | none => rfl
  | some b =>
    cases b with
    | loop r =>
      simp only [asgM]
      unfold grd
      split <;> rfl
    | cells g k c => rfl
    | map ex es c => rfl
def endM (x : Ex) (l : Nat) (lc : Locs) (h : Heap) : Option LoopR → Option (V × Heap)
  | some r => match x with
    | .normal => some (.bool true, h.set l (.loop { r with state := 0, pending := none, l := lc, lent := false }))
    | .ret => some (.bool false, h.set l (.loop { r with state := 2, pending := some .ret, l := lc, lent := false }))
    | .exit id => some (.bool false, h.set l (.loop { r with state := 2, pending := some (.exit id), l := lc, lent := false }))
  | none => none
theorem endM_n {l : Nat} {lc : Locs} {h : Heap} {r : LoopR} : endM .normal l lc h (some r) = some (.bool true, h.set l (.loop { r with state := 0, pending := none, l := lc, lent := false })) := rfl
theorem endM_r {l : Nat} {lc : Locs} {h : Heap} {r : LoopR} : endM .ret l lc h (some r) = some (.bool false, h.set l (.loop { r with state := 2, pending := some .ret, l := lc, lent := false })) := rfl
theorem endM_e {l id : Nat} {lc : Locs} {h : Heap} {r : LoopR} : endM (.exit id) l lc h (some r) = some (.bool false, h.set l (.loop { r with state := 2, pending := some (.exit id), l := lc, lent := false })) := rfl
theorem endRound_eq {x : Ex} {l : Nat} {e : List TV} {lc : Locs} {h : Heap} : endRound l x ⟨e, lc, h⟩ = endM x l lc h (loopAt h l) := by
  simp only [endRound, loopAt]
  cases hx : h[l]? with
  | none => rfl
  | some b =>
    cases b with
    | loop r => cases x <;> rfl
    | cells g k c => rfl
    | map ex es c => rfl
/-- What is done behind a loop over a function. -/
def endFM {R : Type} (k : Ex → St → Option R) (e : List TV) (l : Nat) (h : Heap) : Option LoopR → Option R
  | some r => grd (r.state ≠ 1 ∧ r.lent = false) (
      match r.pending with
      | none => k .normal ⟨e, r.l, h.set l (.loop { r with state := 3, lent := true })⟩
      | some .ret => k .ret ⟨e, r.l, h.set l (.loop { r with state := 3, lent := true })⟩
      | some (.exit id) => k (.exit id) ⟨e, r.l, h.set l (.loop { r with state := 3, lent := true })⟩
      | _ => none)
  | none => none
theorem endRF_eq {R : Type} {k : Ex → St → Option R} {e : List TV} {l : Nat} {h : Heap} : endRF k e l h = endFM k e l h (loopAt h l) := by
  simp only [endRF, loopAt]
  cases hx : h[l]? with
  | none => rfl
  | some b =>
    cases b with
    | loop r => rfl
    | cells g k c => rfl
    | map ex es c => rfl
section
variable {R : Type} {k : Ex → St → Option R} {e e' : List TV} {l : Nat} {h : Heap} {fn : FuncId} {lc : Locs} {ps : List Tmp} {a b : Code}
theorem endFM_n : endFM k e l h (some ⟨0, none, fn, e', lc, ps, a, b, false⟩) = k .normal ⟨e, lc, h.set l (.loop ⟨3, none, fn, e', lc, ps, a, b, true⟩)⟩ := grd_t ⟨(by simp), rfl⟩ _
theorem endFM_r : endFM k e l h (some ⟨2, some .ret, fn, e', lc, ps, a, b, false⟩) = k .ret ⟨e, lc, h.set l (.loop ⟨3, some .ret, fn, e', lc, ps, a, b, true⟩)⟩ := grd_t ⟨(by simp), rfl⟩ _
theorem endFM_e {id : Nat} : endFM k e l h (some ⟨2, some (.exit id), fn, e', lc, ps, a, b, false⟩) = k (.exit id) ⟨e, lc, h.set l (.loop ⟨3, some (.exit id), fn, e', lc, ps, a, b, true⟩)⟩ := grd_t ⟨(by simp), rfl⟩ _
end
theorem loopAt_ge {h l : Heap} {i : Nat} (e : h.length ≤ i) : loopAt (h ++ l) i = loopAt l (i - h.length) := by
  unfold loopAt; rw [List.getElem?_append_right e]
theorem loopAt_c0 {l : Heap} {r : LoopR} : loopAt (.loop r :: l) 0 = some r := rfl
theorem loopAt_cs {l : Heap} {x : Blk} {i : Nat} : loopAt (x :: l) (i + 1) = loopAt l i := rfl
theorem Keeps.wide {F G : List Nat} {a b c : Heap} (h : Keeps F a b) (k : Keeps G b c) (hG : ∀ j ∈ G, j < a.length → j ∈ F) : Keeps F a c :=
  ⟨Nat.le_trans h.1 k.1, fun i hi hF => (k.2 i (Nat.lt_of_lt_of_le hi h.1) (fun hm => hF (hG i hm hi))).trans (h.2 i hi hF)⟩

theorem endRF_n {R : Type} {k : Ex → St → Option R} {e : List TV} {l : Nat} {h : Heap} {r : LoopR} (hl : loopAt h l = some r) (hs : r.state ≠ 1) (ht : r.lent = false) (hp : r.pending = none) :
    endRF k e l h = k .normal ⟨e, r.l, h.set l (.loop { r with state := 3, lent := true })⟩ := by
  simp only [endRF, loopAt_get hl]
  rw [grd_t ⟨hs, ht⟩, hp]
theorem endRF_r {R : Type} {k : Ex → St → Option R} {e : List TV} {l : Nat} {h : Heap} {r : LoopR} (hl : loopAt h l = some r) (hs : r.state ≠ 1) (ht : r.lent = false) (hp : r.pending = some .ret) :
    endRF k e l h = k .ret ⟨e, r.l, h.set l (.loop { r with state := 3, lent := true })⟩ := by
  simp only [endRF, loopAt_get hl]
  rw [grd_t ⟨hs, ht⟩, hp]
theorem endRF_e {R : Type} {k : Ex → St → Option R} {e : List TV} {l id : Nat} {h : Heap} {r : LoopR} (hl : loopAt h l = some r) (hs : r.state ≠ 1) (ht : r.lent = false) (hp : r.pending = some (.exit id)) :
    endRF k e l h = k (.exit id) ⟨e, r.l, h.set l (.loop { r with state := 3, lent := true })⟩ := by
  simp only [endRF, loopAt_get hl]
  rw [grd_t ⟨hs, ht⟩, hp]

/-- One round of a loop over a function. -/
theorem Ok.round {X : Env} {l : Nat} {args : List V} {h : Heap} {r : LoopR} {Q : V × Heap → Prop} (hl : loopAt h l = some r) (hlen : args.length = r.params.length) (ht : r.lent = false)
    (hh : Ok (evC X (D X) (Lo X r.fn) r.fn r.assign ⟨setArgs r.e r.params args, r.l, h.set l (.loop { r with lent := true })⟩ (asgK X l r.fn r.body)) Q) : Ok (D X (.yld l) args h) Q := by
  obtain ⟨q, e, p⟩ := hh
  refine ⟨q, D_yld ?_, p⟩
  unfold evRound
  rw [loopAt_get hl]
  dsimp only
  rw [grd_t ⟨hlen, ht⟩, ← e]
  congr 1
  funext x s
  cases x <;> rfl

/-- What is done behind the calls of a loop over a function. -/
def rfK {R : Type} (k : Ex → St → Option R) (e : List TV) (l : Nat) (p : V × Heap) : Option R := endRF k e l p.2
theorem rfK_eq {R : Type} (k : Ex → St → Option R) (e : List TV) (l : Nat) (v : V) (h : Heap) : rfK k e l (v, h) = endRF k e l h := rfl
theorem evC_rf {X : Env} {C : CallSem} {L : LoopSem} {f : FuncId} {R : Type} (g : Operand) (ps : Array Tmp) (a b : Code) (s : St) (k : Ex → St → Option R) :
    evC X C L f (.rangeFunc g ps a b) s k = (match opd s.e g with
      | .v (.fn gf cap) => bnd (C (.fn gf cap) [.yld s.h.length] (s.h ++ [.loop { state := 0, pending := none, fn := f, e := s.e, l := s.l, params := ps.toList, assign := a, body := b, lent := false }])) (rfK k s.e s.h.length)
      | _ => none) := rfl
/-- What loops over functions assign and do. -/
def rangesOf : Code → List (Code × Code)
  | .rangeFunc _ _ a b => (a, b) :: (rangesOf a ++ rangesOf b)
  | .seq a b => rangesOf a ++ rangesOf b
  | .cond _ a b => rangesOf a ++ rangesOf b
  | .block _ c => rangesOf c
  | .scope c => rangesOf c
  | .loop c => rangesOf c
  | _ => []

/-- A list of temporaries, written out. -/
theorem expand {e : List TV} : ∀ (n : Nat) (pre : List TV), e.length = n → e = spread (List.replicate n true) (List.replicate n .u) (pre ++ e) pre.length := fun n pre h =>
  spread_of _ _ e pre (by
    induction n generalizing e pre with
    | zero => simp only [List.length_eq_zero_iff.1 h]; rfl
    | succ n ih =>
      cases e with
      | nil => cases h
      | cons v e =>
        simp only [List.replicate_succ, mask, cond_true, List.cons.injEq, true_and]
        exact ih [] (by simpa using h))
theorem expand' {e : List TV} {n : Nat} (h : e.length = n) : e = spread (List.replicate n true) (List.replicate n .u) e 0 := expand n [] h
end Go.Ev
