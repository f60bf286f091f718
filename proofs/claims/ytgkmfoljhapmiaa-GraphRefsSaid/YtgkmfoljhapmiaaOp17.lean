/-
What an operation looks at of the temporaries: its operands. It turns none itself.
-/
import Derived.Test.YtgkmfoljhapmiaaMach
set_option linter.unusedSimpArgs false
set_option linter.unusedVariables false
namespace Go.Ev

theorem bnd_map {α β γ : Type} (x : Option α) (k : α → Option β) (f : β → γ) : (bnd x k).map f = bnd x fun a => (k a).map f := by cases x <;> rfl
theorem cnd_map {α β : Type} (b : Bool) (x y : Option α) (f : α → β) : (cnd b x y).map f = cnd b (x.map f) (y.map f) := by cases b <;> rfl
theorem grd_map {α β : Type} (c : Prop) [Decidable c] (x : Option α) (f : α → β) : (grd c x).map f = grd c (x.map f) := by unfold grd; split <;> rfl

def mapE (e' : List TV) (r : TV × St) : TV × St := (r.1, { r.2 with e := e' })
def St.we (s : St) (e' : List TV) : St := { s with e := e' }

section
variable (T : TypeId → TI) (s : St) (e' : List TV)

theorem load_e (t : TI) (x : TV) : load t (s.we e') x = load t s x := rfl
theorem sliceCells_e (z : Nat) (x : TV) : sliceCells z (s.we e') x = sliceCells z s x := rfl
theorem lenV_e (t : TypeId) (x : TV) : lenV T t (s.we e') x = lenV T t s x := rfl
theorem newBlk_e (n z : Nat) (c : List V) : newBlk (s.we e') n z c = (newBlk s n z c).map (mapE e') := rfl
theorem putBlk_e (b g : Nat) (w : List V → Option (List V)) : putBlk (s.we e') b g w = (putBlk s b g w).map (·.we e') := by
  unfold putBlk; simp only [bnd_map, cnd_map]; rfl
theorem store_e (t : TI) (a : TV) (x : V) : store t (s.we e') a x = (store t s a x).map (·.we e') := by
  unfold store
  split
  · exact putBlk_e s e' _ _ _
  · simp only [bnd_map]; rfl
  · rfl
theorem newVar_e (sl : Option Nat) (c : List V) : newVar sl (s.we e') c = (newVar sl s c).map (mapE e') := by
  unfold newVar; split
  · simp only [bnd_map]; rfl
  · rfl
theorem makeSliceV_e (t : TypeId) (l c : TV) : makeSliceV T t l c (s.we e') = (makeSliceV T t l c s).map (mapE e') := by
  unfold makeSliceV; split
  · simp only [grd_map]; rfl
  · rfl
theorem convV_e (src dst : TypeId) (x : TV) : convV T src dst (s.we e') x = (convV T src dst s x).map (mapE e') := by
  unfold convV
  split
  · rfl
  · rfl
  · split
    · simp only [bnd_map, sliceCells_e]; rfl
    · rfl
  · split
    · exact newBlk_e s e' _ _ _
    · rfl
  · rfl
theorem clearV_e (t : TypeId) (x : TV) : clearV T t (s.we e') x = (clearV T t s x).map (mapE e') := by
  unfold clearV
  split
  · simp only [cnd_map]
    split
    · simp only [grd_map, bnd_map, putBlk_e]
      congr 2
      cases putBlk s _ _ _ <;> rfl
    · rfl
  · rfl
theorem copyV_e (t : TypeId) (x y : TV) : copyV T t (s.we e') x y = (copyV T t s x y).map (mapE e') := by
  unfold copyV
  split
  · simp only [bnd_map, sliceCells_e, cnd_map]
    congr 1; funext q
    congr 1
    split
    · simp only [bnd_map, putBlk_e]
      cases putBlk s _ _ _ <;> rfl
    · rfl
  · rfl
theorem appendV_e (t : TypeId) (x y : TV) : appendV T t (s.we e') x y = (appendV T t s x y).map (mapE e') := by
  unfold appendV
  split
  · simp only [bnd_map, sliceCells_e, cnd_map, grd_map]
    congr 1; funext q
    congr 1
    · congr 1
      split
      · simp only [bnd_map, putBlk_e]
        cases putBlk s _ _ _ <;> rfl
      · rfl
    · congr 1
      split
      · rfl
      · simp only [cnd_map, bnd_map, grd_map]; rfl
      · rfl
  · rfl
end

theorem fillV_e {e e' : List TV} {pl : Nat → Option (Nat × Nat)} : ∀ {parts : List (Nat × Operand)} (c : List V), (∀ p ∈ parts, opd e' p.2 = opd e p.2) → fillV pl e' c parts = fillV pl e c parts
  | [], c, _ => rfl
  | p :: r, c, h => by
    simp only [fillV]
    rw [h p (by simp)]
    congr 1; funext q
    split
    · congr 1; funext cs
      congr 1; congr 1; funext c'
      exact fillV_e c' fun p hp => h p (by simp [hp])
    · rfl

theorem buildV_e {T : TypeId → TI} {e e' : List TV} {t : TypeId} {parts : List (Nat × Operand)} (h : ∀ p ∈ parts, opd e' p.2 = opd e p.2) : buildV T e' t parts = buildV T e t parts := by
  unfold buildV
  split <;> first | rfl | simp only [fillV_e _ h]

theorem bound_e {e e' : List TV} {o : Option Operand} (h : ∀ x, o = some x → opd e' x = opd e x) (n d : Nat) : bound e' n o d = bound e n o d := by
  unfold bound
  split
  · rw [h _ rfl]
  · rfl

theorem sliceV_e {T : TypeId → TI} {e e' : List TV} {t : TypeId} {x : TV} {lo hi mx : Option Operand} (h1 : ∀ x, lo = some x → opd e' x = opd e x) (h2 : ∀ x, hi = some x → opd e' x = opd e x)
    (h3 : ∀ x, mx = some x → opd e' x = opd e x) : sliceV T e' t x lo hi mx = sliceV T e t x lo hi mx := by
  unfold sliceV
  split <;> first | rfl | simp only [bound_e h1, bound_e h2, bound_e h3]

theorem buildSliceV_e {T : TypeId → TI} {s : St} {e' : List TV} {sl : Option Nat} {t : TypeId} {n : Nat} {parts : List (Nat × Operand)} (h : ∀ p ∈ parts, opd e' p.2 = opd s.e p.2) :
    buildSliceV T sl t n parts (s.we e') = (buildSliceV T sl t n parts s).map (mapE e') := by
  unfold buildSliceV
  split
  · simp only [grd_map, bnd_map]
    congr 1
    show bnd (fillV _ e' _ _) _ = _
    rw [fillV_e _ h]
    congr 1; funext c
    split
    · simp only [bnd_map]; rfl
    · rfl
  · rfl

theorem makeMapV_e (T : TypeId → TI) (s : St) (e' : List TV) (t : TypeId) : makeMapV T t (s.we e') = (makeMapV T t s).map (mapE e') := by
  unfold makeMapV
  split <;> rfl
theorem lookupV_e (T : TypeId → TI) (s : St) (e' : List TV) (t : TypeId) (m k : TV) (ok : Bool) : lookupV T t m k ok (s.we e') = lookupV T t m k ok s := rfl
theorem updateV_e (T : TypeId → TI) (s : St) (e' : List TV) (t : TypeId) (m k v : TV) : updateV T t m k v (s.we e') = (updateV T t m k v s).map (·.we e') := by
  have hh : (s.we e').h = s.h := rfl
  unfold updateV
  rw [hh]
  split
  · split
    · simp only [grd_map]; rfl
    · rfl
  · rfl
theorem entryV_e (T : TypeId → TI) (s : St) (e' : List TV) (t : TypeId) (m k : TV) : entryV T t m k (s.we e') = (entryV T t m k s).map (mapE e') := by
  have hh : (s.we e').h = s.h := rfl
  unfold entryV
  rw [hh]
  split
  · split
    · simp only [bnd_map, grd_map]
      congr 1; funext z
      congr 1
      split <;> rfl
    · rfl
  · rfl
theorem entryStoreV_e (s : St) (e' : List TV) (m k v : TV) : entryStoreV m k v (s.we e') = (entryStoreV m k v s).map (·.we e') := by
  have hh : (s.we e').h = s.h := rfl
  unfold entryStoreV
  rw [hh]
  split
  · split
    · simp only [grd_map]; rfl
    · rfl
  · rfl
theorem deleteV_e (T : TypeId → TI) (s : St) (e' : List TV) (t : TypeId) (m k : TV) : deleteV T t m k (s.we e') = (deleteV T t m k s).map (mapE e') := by
  have hh : (s.we e').h = s.h := rfl
  unfold deleteV
  rw [hh]
  split
  · simp only [grd_map]; rfl
  · split
    · simp only [grd_map]; rfl
    · rfl
  · rfl

theorem appendZ_e (T : TypeId → TI) (s : St) (e' : List TV) (t : TypeId) (x y : TV) : appendZ T t (s.we e') x y = (appendZ T t s x y).map (mapE e') := by
  unfold appendZ
  split
  · simp only [grd_map, newBlk_e]
  · rfl

theorem builtinV_e (T : TypeId → TI) (s : St) (e' : List TV) (b : Builtin) (ts : List TypeId) (xs : List TV) : builtinV T b ts xs (s.we e') = (builtinV T b ts xs s).map (mapE e') := by
  unfold builtinV
  split
  · simp only [bnd_map, lenV_e]; rfl
  · split
    · exact appendV_e T s e' _ _ _
    · exact appendV_e T s e' _ _ _
    · exact appendZ_e T s e' _ _ _
    · rfl
  · exact copyV_e T s e' _ _ _
  · exact clearV_e T s e' _ _
  · exact deleteV_e T s e' _ _ _
  · simp only [bnd_map]; rfl
  · simp only [bnd_map]; rfl
  · simp only [bnd_map]; rfl
  · rfl

theorem mapOpd_e {e e' : List TV} {l : List Operand} (h : ∀ x ∈ l, opd e' x = opd e x) : l.map (opd e') = l.map (opd e) := List.map_congr_left h

/-- THE TEMPORARIES: an operation looks at its operands, and turns none. -/
theorem exPure_e {T : TypeId → TI} {sl : Option Nat} {op : Op} {s : St} {e' : List TV} (h : ∀ x ∈ op.operands.toList, opd e' x = opd s.e x) :
    exPure T sl op (s.we e') = (exPure T sl op s).map (mapE e') := by
  have hwe : (s.we e').e = e' := rfl
  cases op <;> simp only [exPure, hwe] <;> simp only [Op.operands, List.mem_cons, List.not_mem_nil, or_false, forall_eq_or_imp, forall_eq, Array.toList_append, List.toList_toArray] at h
  case move x => rw [h]; rfl
  case assign x => rw [h]; rfl
  case pick c a b =>
    rw [h.1, h.2.1, h.2.2]
    split <;> rfl
  case box t x =>
    rw [h]
    split
    · simp only [bnd_map, newVar_e]
    · rfl
  case alloc t => simp only [grd_map, newVar_e]
  case build t ps =>
    rw [buildV_e (e := s.e) fun p hp => h p.2 (by simp only [List.mem_map]; exact ⟨p, hp, rfl⟩)]
    simp only [bnd_map]; rfl
  case buildSlice t n ps =>
    exact buildSliceV_e fun p hp => h p.2 (by simp only [List.mem_map]; exact ⟨p, hp, rfl⟩)
  case load t a =>
    rw [h]
    simp only [bnd_map, load_e]; rfl
  case store t a x =>
    rw [h.1, h.2]
    split
    · simp only [bnd_map, store_e]
      cases store (T t) s _ _ <;> rfl
    · rfl
  case nilCheck x => rw [h]; simp only [bnd_map]; rfl
  case binOp op t x y yt =>
    rw [h.1, h.2]
    split
    · simp only [bnd_map]; rfl
    · rfl
  case unOp op t x =>
    rw [h]
    split
    · simp only [bnd_map]; rfl
    · rfl
  case convert src dst x => rw [h]; exact convV_e T s e' _ _ _
  case makeFunc fn first cap =>
    cases fn with
    | func f =>
      simp only [cnd_map, bnd_map]
      rw [mapOpd_e (e := s.e) fun x hx => h x (by simp at hx ⊢; exact .inr hx)]
      rfl
    | _ => rfl
  case makeSlice t l c => rw [h.1, h.2]; exact makeSliceV_e T s e' _ _ _
  case makeMap t r =>
    cases r with
    | none => exact makeMapV_e T s e' _
    | some _ => rfl
  case lookup t m k ok => rw [h.1, h.2, lookupV_e]; simp only [bnd_map]; rfl
  case mapUpdate t m k x =>
    rw [h.1, h.2.1, h.2.2, updateV_e]
    simp only [bnd_map]
    cases updateV T t _ _ _ s <;> rfl
  case insert t m k x =>
    rw [h.1, h.2.1, h.2.2, updateV_e]
    simp only [bnd_map]
    cases updateV T t _ _ _ s <;> rfl
  case mapEntry t m k => rw [h.1, h.2]; exact entryV_e T s e' _ _ _
  case entryStore t m st x =>
    rw [h.1, h.2.1, h.2.2, entryStoreV_e]
    simp only [bnd_map]
    cases entryStoreV _ _ _ s <;> rfl
  case slice t x lo hi mx =>
    rw [h x (by simp), sliceV_e (e := s.e) (fun y hy => h y (by simp [hy])) (fun y hy => h y (by simp [hy])) (fun y hy => h y (by simp [hy]))]
    simp only [bnd_map]; rfl
  case fieldAddr t x f => rw [h]; simp only [bnd_map]; rfl
  case field t x f =>
    rw [h]
    split
    · simp only [bnd_map]; rfl
    · rfl
  case indexAddr t x i => rw [h.1, h.2]; simp only [bnd_map]; rfl
  case index t x i => rw [h.1, h.2]; simp only [bnd_map]; rfl
  case extract x i =>
    rw [h]
    split
    · simp only [bnd_map]; rfl
    · rfl
  case call c =>
    obtain ⟨callee, args, ats⟩ := c
    cases callee with
    | builtin b =>
      simp only
      rw [mapOpd_e (e := s.e) fun x hx => h x (by simpa [Call.operands] using hx)]
      exact builtinV_e T s e' _ _ _
    | _ => rfl
  all_goals rfl

theorem exPure_env {T : TypeId → TI} {sl : Option Nat} {op : Op} {s : St} {r : TV × St} (h : exPure T sl op s = some r) : r.2.e = s.e := by
  have h1 := exPure_e (T := T) (sl := sl) (op := op) (s := s) (e' := s.e) fun _ _ => rfl
  have h2 : s.we s.e = s := rfl
  rw [h2, h] at h1
  simp only [Option.map_some, Option.some.injEq] at h1
  rw [h1]; rfl

end Go.Ev
