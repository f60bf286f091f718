/-
Texts of this claim, one behind the other.
-/
import Derived.Test.YtgkmfoljhapmiaaAf
set_option linter.unusedSimpArgs false
set_option linter.unusedVariables false
set_option linter.unusedSectionVars false
set_option maxRecDepth 100000
set_option maxRecDepth 100000
namespace Go.Ev
open Go.Sort
inductive LeadsP (E : RP -> RP -> Prop) : RP -> RP -> Prop
 | refl (x : RP) : LeadsP E x x
 | step {x y z : RP} (h : E x y) (r : LeadsP E y z) : LeadsP E x z
theorem LeadsP.trans {E : RP -> RP -> Prop} {x y z : RP} (h : LeadsP E x y) : LeadsP E y z -> LeadsP E x z := by
 induction h with
 | refl => exact id
 | step h _ ih => exact fun k => .step h (ih k)
structure RowsOf (K : RP -> Prop) (E : RP -> RP -> Prop) (lt : RP -> RP -> Bool) (rows : List (List RP)) : Prop where
 ne : ∀ r ∈ rows, r ≠ []
 srt : ∀ r ∈ rows, r.Pairwise (fun x y => lt x y = true)
 cls : ∀ r ∈ rows, ∀ x ∈ r, K x /\ ∀ y, y ∈ r ↔ LeadsP E x y /\ LeadsP E y x
 all : ∀ x, K x -> ∃ r ∈ rows, x ∈ r
 new : ∀ (t : Nat) (r : List RP), rows[t]? = some r -> ∀ x ∈ r, x ∉ (rows.take t).flatten
 rdy : ∀ (t : Nat) (r : List RP), rows[t]? = some r -> ∀ x ∈ r, ∀ z, LeadsP E x z -> z ∈ r \/ z ∈ (rows.take t).flatten
 grd : ∀ (t : Nat) (r : List RP) (h : RP) (tl : List RP), rows[t]? = some r -> r = h :: tl -> ∀ m, K m -> m ∉ (rows.take t).flatten -> (∀ z, LeadsP E m z -> LeadsP E z m \/ z ∈ (rows.take t).flatten) -> (∀ y, LeadsP E m y -> LeadsP E y m -> lt y m = false) -> lt m h = false
structure Tot (lt : RP -> RP -> Bool) : Prop where
 irr : ∀ x, lt x x = false
 tr : ∀ x y z, lt x y = true -> lt y z = true -> lt x z = true
 tot : ∀ x y, lt x y = false -> lt y x = false -> x = y
section
variable {K : RP -> Prop} {E : RP -> RP -> Prop} {lt : RP -> RP -> Bool} {a b : List (List RP)}
theorem Tot.asym (h : Tot lt) {x y : RP} (k : lt x y = true) : lt y x = false := by
 cases e : lt y x with
 | false => rfl
 | true => have := h.tr x y x k e; rw [h.irr] at this; cases this
theorem sorted_eq (hT : Tot lt) : ∀ {l m : List RP}, l.Pairwise (fun x y => lt x y = true) -> m.Pairwise (fun x y => lt x y = true) -> (∀ x, x ∈ l ↔ x ∈ m) -> l = m
 | [], [], _, _, _ => rfl
 | [], y :: m, _, _, h => nomatch (h y).2 List.mem_cons_self
 | x :: l, [], _, _, h => nomatch (h x).1 List.mem_cons_self
 | x :: l, y :: m, hl, hm, h => by
  rw [List.pairwise_cons] at hl hm
  have hxy : x = y := by
   rcases List.mem_cons.1 ((h x).1 List.mem_cons_self) with e | e
   ·exact e
   ·rcases List.mem_cons.1 ((h y).2 List.mem_cons_self) with e2 | e2
    ·exact e2.symm
    ·have h1 := hl.1 y e2
     have h2 := hT.asym (hm.1 x e)
     rw [h1] at h2; cases h2
  subst hxy
  have hn : ∀ {r : List RP}, (∀ z ∈ r, lt x z = true) -> x ∉ r := fun hr hm => by have := hr x hm; rw [hT.irr] at this; cases this
  congr 1
  refine sorted_eq hT hl.2 hm.2 fun z => ⟨fun hz => ?_, fun hz => ?_⟩
  ·rcases List.mem_cons.1 ((h z).1 (List.mem_cons_of_mem _ hz)) with e | e
   ·rw [e] at hz; exact absurd hz (hn hl.1)
   ·exact e
  ·rcases List.mem_cons.1 ((h z).2 (List.mem_cons_of_mem _ hz)) with e | e
   ·rw [e] at hz; exact absurd hz (hn hm.1)
   ·exact e
theorem RowsOf.head (ha : RowsOf K E lt a) (hT : Tot lt) {r tl : List RP} {h : RP} (hr : r ∈ a) (e : r = h :: tl) : K h /\ (∀ y, LeadsP E h y -> LeadsP E y h -> lt y h = false) := by
 have hm : h ∈ r := by rw [e]; exact List.mem_cons_self
 refine ⟨(ha.cls r hr h hm).1, fun y h1 h2 => ?_⟩
 have hy := ((ha.cls r hr h hm).2 y).2 ⟨h1, h2⟩
 have hs := ha.srt r hr
 rw [e] at hy hs
 rw [List.pairwise_cons] at hs
 rcases List.mem_cons.1 hy with k | k
 ·rw [k]; exact hT.irr h
 ·exact hT.asym (hs.1 y k)
theorem RowsOf.le (ha : RowsOf K E lt a) (hb : RowsOf K E lt b) {t : Nat} (he : a.take t = b.take t) (hl : a.length <= t) : b.length <= t := by
 refine Nat.le_of_not_lt fun hlt => ?_
 obtain ⟨r, hr⟩ : ∃ r, b[t]? = some r := ⟨_, List.getElem?_eq_getElem hlt⟩
 have hrb := List.mem_of_getElem? hr
 cases hr0 : r with
 | nil => exact hb.ne r hrb hr0
 | cons x tl =>
  have hx : x ∈ r := by rw [hr0]; exact List.mem_cons_self
  obtain ⟨r2, h2, hx2⟩ := ha.all x (hb.cls r hrb x hx).1
  refine hb.new t r hr x hx ?_
  rw [<- he, List.take_of_length_le hl]
  exact List.mem_flatten.2 ⟨r2, h2, hx2⟩
theorem RowsOf.unique (hT : Tot lt) (ha : RowsOf K E lt a) (hb : RowsOf K E lt b) : a = b := by
 have key : ∀ t, a.take t = b.take t := by
  intro t
  induction t with
  | zero => rfl
  | succ t ih =>
   rw [List.take_add_one, List.take_add_one, ih]
   congr 1
   cases h1 : a[t]? with
   | none =>
    have hl := List.getElem?_eq_none_iff.1 h1
    have := ha.le hb ih hl
    rw [List.getElem?_eq_none this]
   | some r1 =>
    cases h2 : b[t]? with
    | none =>
     have hl := List.getElem?_eq_none_iff.1 h2
     have := hb.le ha ih.symm hl
     rw [List.getElem?_eq_none this] at h1; cases h1
    | some r2 =>
     have m1 := List.mem_of_getElem? h1
     have m2 := List.mem_of_getElem? h2
     cases e1 : r1 with
     | nil => exact absurd e1 (ha.ne r1 m1)
     | cons x1 t1 =>
      cases e2 : r2 with
      | nil => exact absurd e2 (hb.ne r2 m2)
      | cons x2 t2 =>
       have k1 := ha.head hT m1 e1
       have k2 := hb.head hT m2 e2
       have hx1 : x1 ∈ r1 := by rw [e1]; exact List.mem_cons_self
       have hx2 : x2 ∈ r2 := by rw [e2]; exact List.mem_cons_self
       have g1 : lt x2 x1 = false := ha.grd t r1 x1 t1 h1 e1 x2 k2.1 (by rw [ih]; exact hb.new t r2 h2 x2 hx2) (fun z hz => by
        rcases hb.rdy t r2 h2 x2 hx2 z hz with k | k
        ·exact .inl (((hb.cls r2 m2 x2 hx2).2 z).1 k).2
        ·exact .inr (by rw [ih]; exact k)) k2.2
       have g2 : lt x1 x2 = false := hb.grd t r2 x2 t2 h2 e2 x1 k1.1 (by rw [<- ih]; exact ha.new t r1 h1 x1 hx1) (fun z hz => by
        rcases ha.rdy t r1 h1 x1 hx1 z hz with k | k
        ·exact .inl (((ha.cls r1 m1 x1 hx1).2 z).1 k).2
        ·exact .inr (by rw [<- ih]; exact k)) k1.2
       have ex := hT.tot x1 x2 g2 g1
       have : r1 = r2 := sorted_eq hT (ha.srt r1 m1) (hb.srt r2 m2) fun y => by
        rw [(ha.cls r1 m1 x1 hx1).2 y, (hb.cls r2 m2 x2 hx2).2 y, ex]
       rw [<- e1, <- e2, this]
 have := key (max a.length b.length)
 rwa [List.take_of_length_le (by omega), List.take_of_length_le (by omega)] at this
end
def EK (T : List GI) (x y : RP) : Prop := ∃ a ∈ T, a.key = x /\ y ∈ a.pl /\ y ∈ T.map GI.key /\ y ≠ x
def sqK (T : List GI) (x : RP) : Int := ((T.find? fun a => decide (a.key = x)).getD .z).sq
def ltK (T : List GI) (x y : RP) : Bool := if sqK T x = sqK T y then ltR x y else decide (sqK T x < sqK T y)
theorem ltK_tot (T : List GI) : Tot (ltK T) where
 irr x := by unfold ltK; rw [if_pos rfl]; exact ltR_swo.irrefl x
 tr x y z := by
  unfold ltK ltR
  generalize sqK T x = a1; generalize sqK T y = b1; generalize sqK T z = c1
  split <;> split <;> split <;> simp <;> omega
 tot x y := by
  unfold ltK
  by_cases e : sqK T x = sqK T y
  ·rw [if_pos e, if_pos e.symm]; exact ltR_tot
  ·rw [if_neg e, if_neg (fun k => e k.symm)]
   simp only [decide_eq_false_iff_not]
   intro h1 h2; omega
section
variable {T : List GI} (hd : (T.map GI.key).Nodup)
def keyT (T : List GI) (u : Nat) : RP := (T.getD u .z).key
theorem keyT_mem {u : Nat} (h : u < T.length) : T.getD u .z ∈ T := by
 rw [List.getD_eq_getElem?_getD, List.getElem?_eq_getElem h]; exact List.getElem_mem _
include hd
theorem keyT_inj {u v : Nat} (hu : u < T.length) (hv : v < T.length) (e : keyT T u = keyT T v) : u = v := by
 have hp := List.pairwise_iff_getElem.1 hd
 have e1 : ∀ (w : Nat) (hw : w < T.length), keyT T w = (T.map GI.key)[w]'(by simpa using hw) := fun w hw => by
  unfold keyT
  rw [List.getD_eq_getElem?_getD, List.getElem?_eq_getElem hw]; simp
 rcases Nat.lt_trichotomy u v with k | k | k
 ·exact absurd (by rw [<- e1 u hu, <- e1 v hv, e]) (hp u v (by simpa using hu) (by simpa using hv) k)
 ·exact k
 ·exact absurd (by rw [<- e1 v hv, <- e1 u hu, e]) (hp v u (by simpa using hv) (by simpa using hu) k)
omit hd in
theorem idxT_some {k : RP} {v : Nat} (h : idxT T k = some v) : v < T.length /\ keyT T v = k := by
 obtain ⟨h1, h2, _⟩ := List.findIdx?_eq_some_iff_getElem.1 h
 refine ⟨h1, ?_⟩
 unfold keyT
 rw [List.getD_eq_getElem?_getD, List.getElem?_eq_getElem h1]
 simpa using h2
theorem idxT_key {v : Nat} (h : v < T.length) : idxT T (keyT T v) = some v := by
 cases hi : idxT T (keyT T v) with
 | some w =>
  obtain ⟨h1, h2⟩ := idxT_some hi
  rw [keyT_inj hd h1 h h2]
 | none =>
  unfold idxT at hi
  rw [List.findIdx?_eq_none_iff] at hi
  have := hi _ (keyT_mem h)
  unfold keyT at this
  simp at this
theorem needs_iff {u v : Nat} (hu : u < T.length) : v ∈ needsT T u ↔ v < T.length /\ keyT T v ∈ (T.getD u .z).pl /\ v ≠ u := by
 unfold needsT
 rw [if_pos hu]
 unfold needF
 rw [List.mem_filterMap]
 constructor
 ·rintro ⟨r, hr, h⟩
  cases hi : idxT T r with
  | none => rw [hi] at h; cases h
  | some k =>
   rw [hi] at h
   dsimp only at h
   split at h
   ·cases h
   ·rename_i hne
    have := Option.some.inj h
    subst this
    obtain ⟨h1, h2⟩ := idxT_some hi
    exact ⟨h1, by rw [h2]; exact hr, hne⟩
 ·rintro ⟨h1, h2, h3⟩
  exact ⟨keyT T v, h2, by rw [idxT_key hd h1]; simp [h3]⟩
theorem EK_iff {u v : Nat} (hu : u < T.length) (hv : v < T.length) : EK T (keyT T u) (keyT T v) ↔ v ∈ needsT T u := by
 rw [needs_iff hd hu]
 constructor
 ·rintro ⟨a, ha, h1, h2, _, h4⟩
  obtain ⟨w, hw, e⟩ := List.mem_iff_getElem.1 ha
  have hwk : T.getD w .z = a := by rw [List.getD_eq_getElem?_getD, List.getElem?_eq_getElem hw, e]; rfl
  have : w = u := keyT_inj hd hw hu (by unfold keyT at h1 ⊢; rw [hwk]; exact h1)
  rw [<- this, hwk]
  exact ⟨hv, h2, fun e => h4 (by rw [e, this])⟩
 ·rintro ⟨_, h2, h3⟩
  exact ⟨_, keyT_mem hu, rfl, h2, List.mem_map.2 ⟨_, keyT_mem hv, rfl⟩, fun e => h3 (keyT_inj hd hv hu e)⟩
omit hd in
theorem EK_key {x y : RP} (h : EK T x y) : ∃ v, v < T.length /\ keyT T v = y := by
 obtain ⟨a, ha, h1, h2, h3, h4⟩ := h
 obtain ⟨b, hb, e⟩ := List.mem_map.1 h3
 obtain ⟨w, hw, e2⟩ := List.mem_iff_getElem.1 hb
 exact ⟨w, hw, by unfold keyT; rw [List.getD_eq_getElem?_getD, List.getElem?_eq_getElem hw, e2]; exact e⟩
theorem leads_to {u v : Nat} (h : Leads (needsT T) u v) (hu : u < T.length) : LeadsP (EK T) (keyT T u) (keyT T v) := by
 induction h with
 | refl => exact .refl _
 | step hk _ ih =>
  have hkl := needsT_lt hk
  exact .step ((EK_iff hd hu hkl).2 hk) (ih hkl)
theorem leads_of {x y : RP} (h : LeadsP (EK T) x y) : ∀ {u : Nat}, u < T.length -> keyT T u = x -> ∃ v, v < T.length /\ keyT T v = y /\ Leads (needsT T) u v := by
 induction h with
 | refl => exact fun hu e => ⟨_, hu, e, .refl _⟩
 | step hE _ ih =>
  intro u hu e
  obtain ⟨w, hw, e2⟩ := EK_key hE
  rw [<- e, <- e2] at hE
  have := (EK_iff hd hu hw).1 hE
  obtain ⟨v, hv, e3, hr⟩ := ih hw e2
  exact ⟨v, hv, e3, .step this hr⟩
theorem leads_iff {u v : Nat} (hu : u < T.length) (hv : v < T.length) : LeadsP (EK T) (keyT T u) (keyT T v) ↔ Leads (needsT T) u v := by
 refine ⟨fun h => ?_, fun h => leads_to hd h hu⟩
 obtain ⟨w, hw, e, hr⟩ := leads_of hd h hu rfl
 rw [keyT_inj hd hv hw e.symm]; exact hr
theorem sqK_key {u : Nat} (hu : u < T.length) : sqK T (keyT T u) = (T.getD u .z).sq := by
 unfold sqK
 have h1 := idxT_key hd hu
 unfold idxT at h1
 obtain ⟨h2, h3, h4⟩ := List.findIdx?_eq_some_iff_getElem.1 h1
 have : T.find? (fun a => decide (a.key = keyT T u)) = some (T.getD u .z) := by
  rw [List.find?_eq_some_iff_getElem]
  refine ⟨?_, u, h2, ?_, fun j hj => ?_⟩
  ·exact decide_eq_true (show (T.getD u .z).key = keyT T u from rfl)
  ·rw [List.getD_eq_getElem?_getD, List.getElem?_eq_getElem h2]; rfl
  ·simpa using h4 j hj
 rw [this]; rfl
theorem ahead_key {u v : Nat} (hu : u < T.length) (hv : v < T.length) (fv : Nat -> V) : aheadB (nsT T fv) u v = ltK T (keyT T u) (keyT T v) := by
 unfold aheadB ltK
 rw [sqK_key hd hu, sqK_key hd hv]
 rfl
end
def rowsT (T : List GI) (cs : List (List Nat)) (o : List Nat) : List (List RP) := o.map fun c => (cs.getD c []).map (keyT T)
def freeK (T : List GI) (cp : Nat -> Option Nat) (bl : Nat -> Bool) (x : RP) : Prop := ∃ u c, u < T.length /\ keyT T u = x /\ cp u = some c /\ bl c = false
theorem rowsT_get {T : List GI} {cs : List (List Nat)} {o : List Nat} {t : Nat} {r : List RP} (h : (rowsT T cs o)[t]? = some r) : ∃ c, o[t]? = some c /\ r = (cs.getD c []).map (keyT T) := by
 unfold rowsT at h
 rw [List.getElem?_map] at h
 cases hc : o[t]? with
 | none => rw [hc] at h; cases h
 | some c => rw [hc] at h; exact ⟨c, rfl, (Option.some.inj h).symm⟩
section
variable {T : List GI} {bl : Nat -> Bool} {fv : Nat -> V} {cp : Nat -> Option Nat} {cs : List (List Nat)} {o : List Nat}
theorem NetOk.memc (h : NetOk T.length (needsT T) (nsT T fv) cp cs) {c : Nat} (hc : c < cs.length) (u : Nat) : u ∈ cs.getD c [] ↔ cp u = some c := by
 rw [h.comps, List.getD_eq_getElem?_getD, List.getElem?_eq_getElem hc]
 simp
theorem Sorted.shut (h : Sorted T bl fv cp cs o) {t : Nat} {u v : Nat} (hl : Leads (needsT T) u v) : ∀ c, cp u = some c -> c ∈ o.take t -> ∃ d, cp v = some d /\ d ∈ o.take t := by
 induction hl with
 | refl => exact fun c hc hm => ⟨c, hc, hm⟩
 | @step u k v hk _ ih =>
  intro c hc hm
  obtain ⟨d, hd, _⟩ := h.ok.closed _ c hc _ hk
  refine ih d hd ?_
  by_cases e : d = c
  ·rw [e]; exact hm
  ·obtain ⟨s, hs, es⟩ := List.mem_iff_getElem.1 hm
   have hst : s < t := by simp at hs; omega
   have hos : o[s]? = some c := by
    rw [List.getElem_take] at es
    rw [List.getElem?_eq_getElem (by simp at hs; omega), es]
   have hr := (h.gr s c hos).1.2.2.2 d ⟨e, (cs.getD c []), by
    rw [List.getD_eq_getElem?_getD, List.getElem?_eq_getElem (h.ok.cpl _ c hc)]; rfl, u, (h.ok.memc (h.ok.cpl _ c hc) u).2 hc, k, hk, hd⟩
   obtain ⟨j, hj, ej⟩ := List.mem_iff_getElem.1 hr
   have hj2 : j < s /\ j < o.length := by simp at hj; omega
   rw [List.getElem_take] at ej
   rw [<- ej]
   refine List.mem_iff_getElem.2 ⟨j, by simp; omega, ?_⟩
   rw [List.getElem_take]
theorem Sorted.flat (h : Sorted T bl fv cp cs o) (hd : (T.map GI.key).Nodup) {t u : Nat} (hu : u < T.length) : keyT T u ∈ ((rowsT T cs o).take t).flatten ↔ ∃ c, cp u = some c /\ c ∈ o.take t := by
 unfold rowsT
 rw [<- List.map_take, List.mem_flatten]
 constructor
 ·rintro ⟨r, hr, hx⟩
  obtain ⟨c, hc, rfl⟩ := List.mem_map.1 hr
  obtain ⟨v, hv, e⟩ := List.mem_map.1 hx
  have hcl := ((h.omem c).1 (List.mem_of_mem_take hc)).1
  have hvc := (h.ok.memc hcl v).1 hv
  rw [<- keyT_inj hd (h.ok.dom v c hvc) hu e]
  exact ⟨c, hvc, hc⟩
 ·rintro ⟨c, hc, hm⟩
  exact ⟨_, List.mem_map.2 ⟨c, hm, rfl⟩, List.mem_map.2 ⟨u, (h.ok.memc (h.ok.cpl u c hc) u).2 hc, rfl⟩⟩
theorem Sorted.rows (h : Sorted T bl fv cp cs o) (hd : (T.map GI.key).Nodup) : RowsOf (freeK T cp bl) (EK T) (ltK T) (rowsT T cs o) := by
 have hT := ltK_tot T
 have hrow : ∀ r ∈ rowsT T cs o, ∃ c, c ∈ o /\ c < cs.length /\ bl c = false /\ r = (cs.getD c []).map (keyT T) /\ cs.getD c [] ∈ cs := fun r hr => by
  obtain ⟨c, hc, e⟩ := List.mem_map.1 hr
  have hcl := (h.omem c).1 hc
  refine ⟨c, hc, hcl.1, hcl.2, e.symm, ?_⟩
  rw [List.getD_eq_getElem?_getD, List.getElem?_eq_getElem hcl.1]; exact List.getElem_mem _
 have hsort : ∀ c, c < cs.length -> ((cs.getD c []).map (keyT T)).Pairwise (fun x y => ltK T x y = true) := fun c hc => by
  have hm : cs.getD c [] ∈ cs := by rw [List.getD_eq_getElem?_getD, List.getElem?_eq_getElem hc]; exact List.getElem_mem _
  rw [List.pairwise_map]
  have hp := (h.ok.srt _ hm).and (h.ok.csok _ hm).1
  refine hp.imp_of_mem fun {u v} hu hv k => ?_
  have hu' := h.ok.dom u c ((h.ok.memc hc u).1 hu)
  have hv' := h.ok.dom v c ((h.ok.memc hc v).1 hv)
  have k1 := k.1
  rw [ahead_key hd hv' hu'] at k1
  cases e : ltK T (keyT T u) (keyT T v) with
  | true => rfl
  | false => exact absurd (keyT_inj hd hu' hv' (hT.tot _ _ e k1)) k.2
 have hcls : ∀ c, c < cs.length -> ∀ u, cp u = some c -> ∀ y, y ∈ (cs.getD c []).map (keyT T) ↔ LeadsP (EK T) (keyT T u) y /\ LeadsP (EK T) y (keyT T u) := fun c hc u hu y => by
  have huN := h.ok.dom u c hu
  constructor
  ·intro hy
   obtain ⟨v, hv, e⟩ := List.mem_map.1 hy
   have hvc := (h.ok.memc hc v).1 hv
   have hvN := h.ok.dom v c hvc
   have := (h.ok.scc u c hu v).1 hvc
   rw [<- e]
   exact ⟨(leads_iff hd huN hvN).2 this.1, (leads_iff hd hvN huN).2 this.2⟩
  ·rintro ⟨h1, h2⟩
   obtain ⟨v, hvN, e, hl⟩ := leads_of hd h1 huN rfl
   rw [<- e] at h2
   have hl2 := (leads_iff hd hvN huN).1 h2
   exact List.mem_map.2 ⟨v, (h.ok.memc hc v).2 ((h.ok.scc u c hu v).2 ⟨hl, hl2⟩), e⟩
 refine ⟨fun r hr => ?_, fun r hr => ?_, fun r hr x hx => ?_, fun x hx => ?_, fun t r hr x hx hm => ?_, fun t r hr x hx z hz => ?_, fun t r hh tl hr e m hm hnm hrd hmin => ?_⟩
 ·obtain ⟨c, _, hc, _, e, hmem⟩ := hrow r hr
  rw [e]
  intro e2
  exact (h.ok.csok _ hmem).2 (List.map_eq_nil_iff.1 e2)
 ·obtain ⟨c, _, hc, _, e, _⟩ := hrow r hr
  rw [e]; exact hsort c hc
 ·obtain ⟨c, hco, hc, hb, e, _⟩ := hrow r hr
  rw [e] at hx ⊢
  obtain ⟨u, hu, eu⟩ := List.mem_map.1 hx
  have huc := (h.ok.memc hc u).1 hu
  rw [<- eu]
  exact ⟨⟨u, c, h.ok.dom u c huc, rfl, huc, hb⟩, hcls c hc u huc⟩
 ·obtain ⟨u, c, huN, e, huc, hb⟩ := hx
  have hcl := h.ok.cpl u c huc
  exact ⟨_, List.mem_map.2 ⟨c, (h.omem c).2 ⟨hcl, hb⟩, rfl⟩, List.mem_map.2 ⟨u, (h.ok.memc hcl u).2 huc, e⟩⟩
 ·obtain ⟨c, hc, e⟩ := rowsT_get hr
  have hcl := ((h.omem c).1 (List.mem_of_getElem? hc)).1
  rw [e] at hx
  obtain ⟨u, hu, eu⟩ := List.mem_map.1 hx
  have huc := (h.ok.memc hcl u).1 hu
  rw [<- eu] at hm
  obtain ⟨c', hc', hm'⟩ := (h.flat hd (h.ok.dom u c huc)).1 hm
  rw [huc] at hc'
  rw [<- Option.some.inj hc'] at hm'
  exact (h.gr t c hc).1.2.2.1 hm'
 ·obtain ⟨c, hc, e⟩ := rowsT_get hr
  have hcl := ((h.omem c).1 (List.mem_of_getElem? hc)).1
  rw [e] at hx ⊢
  obtain ⟨u, hu, eu⟩ := List.mem_map.1 hx
  have huc := (h.ok.memc hcl u).1 hu
  obtain ⟨v, hvN, ev, hl⟩ := leads_of hd hz (h.ok.dom u c huc) eu
  have hct : c ∈ o.take (t + 1) := by rw [List.take_add_one, hc]; simp
  obtain ⟨d, hdv, hdm⟩ := h.shut hl c huc hct
  rw [List.take_add_one, hc] at hdm
  rw [<- ev]
  rcases List.mem_append.1 hdm with k | k
  ·exact .inr ((h.flat hd hvN).2 ⟨d, hdv, k⟩)
  ·have : d = c := by simpa using k
   exact .inl (List.mem_map.2 ⟨v, (h.ok.memc hcl v).2 (this ▸ hdv), rfl⟩)
 ·obtain ⟨c, hc, er⟩ := rowsT_get hr
  have hcl := ((h.omem c).1 (List.mem_of_getElem? hc)).1
  obtain ⟨u, c', huN, eu, huc, hb⟩ := hm
  have hcl' := h.ok.cpl u c' huc
  have hhd := h.ok.hd hcl
  have hhd' := h.ok.hd hcl'
  have hN := h.ok.dom _ _ hhd
  have hN' := h.ok.dom _ _ hhd'
  have hready : Ready cs.length bl (NdR cp (needsT T) cs) (o.take t) c' := by
   refine ⟨hcl', hb, fun k => hnm ?_, fun d hdR => ?_⟩
   ·rw [<- eu]; exact (h.flat hd huN).2 ⟨c', huc, k⟩
   ·obtain ⟨hne, lc, hlc, i, hi, k, hk, hkd⟩ := hdR
    have hic : cp i = some c' := (h.ok.comps i c').2 ⟨lc, hlc, hi⟩
    have hiN := h.ok.dom i c' hic
    have hkN := h.ok.dom k d hkd
    have hui := ((h.ok.scc u c' huc i).1 hic).1
    have hz := leads_to hd (hui.snoc hk) huN
    rw [eu] at hz
    rcases hrd _ hz with q | q
    ·rw [<- eu] at q
     have hku := (leads_iff hd hkN huN).1 q
     have := (h.ok.scc u c' huc k).2 ⟨hui.snoc hk, hku⟩
     rw [hkd] at this
     exact absurd (Option.some.inj this) hne
    ·obtain ⟨d', hd', hm'⟩ := (h.flat hd hkN).1 q
     rw [hkd] at hd'
     rw [Option.some.inj hd']; exact hm'
  have hg := (h.gr t c hc).2 c' hready
  unfold ltC at hg
  rw [ahead_key hd hN' hN] at hg
  have hhe : hh = keyT T (hdc cs c) := by
   rw [er] at e
   unfold hdc
   cases hl : cs.getD c [] with
   | nil => rw [hl] at e; cases e
   | cons y l => rw [hl] at e; simp only [List.map_cons,List.cons.injEq] at e; rw [<- e.1]; rfl
  have hme : m = keyT T (hdc cs c') := by
   refine hT.tot _ _ ?_ ?_
   ·
    have hs := hsort c' hcl'
    have hmm : m ∈ (cs.getD c' []).map (keyT T) := List.mem_map.2 ⟨u, (h.ok.memc hcl' u).2 huc, eu⟩
    unfold hdc
    cases hl : cs.getD c' [] with
    | nil => rw [hl] at hmm; cases hmm
    | cons y l =>
     rw [hl] at hmm hs
     simp only [List.map_cons,List.headD_cons] at hmm hs ⊢
     rw [List.pairwise_cons] at hs
     rcases List.mem_cons.1 hmm with q | q
     ·rw [q]; exact hT.irr _
     ·exact hT.asym (hs.1 m q)
   ·refine hmin _ ?_ ?_
    ·rw [<- eu]; exact leads_to hd ((h.ok.scc u c' huc _).1 hhd').1 huN
    ·rw [<- eu]; exact leads_to hd ((h.ok.scc u c' huc _).1 hhd').2 hN'
  rw [hme, hhe]; exact hg
end
end Go.Ev
set_option maxRecDepth 100000
namespace Go.Ev
open Go.Ev renaming exPure -> Ja, ofValue -> Jb, cellsV -> Jc, load -> Jd, store -> Je, binOp -> Jf, intOp -> Jg, rdV -> Jh, vsame -> Ji, vsames -> Jj, makeSliceV -> Jk, resV -> Jl, isCell -> Jm, nilCheckV -> Jn, allV -> Jo, builtinV -> Jp, lenV -> Jq, indexAddrV -> Jr, unOp -> Js, minmaxV -> Jt, minmax -> Ju, sliceV -> Jv, asInt -> Jw, appendV -> Jx, forkB -> Jy, roY -> Jz, rwB -> J0, copyV -> J1, clearV -> J2, convV -> J3, sliceCells -> J4, shift -> J5
open Bool renaming true -> BT, false -> BF
open Nat renaming reduceEqDiff -> J6, reduceLT -> J7, reduceAdd -> J8, reduceBEq -> J9, reduceSub -> JA, reduceMul -> JB, reduceLeDiff -> JJ
open Int renaming reduceLT -> JC, reduceLE -> JD, reduceAdd -> JE, reduceSub -> JF, reduceNeg -> JG, reduceToNat -> JH, reduceEq -> JI
open Go.Proofs Go.Sort
theorem GisAt.sl {H : Heap} {v : V} {L : List GI} (h : GisAt H v L) : ∃ a cap z, v = .sl a L.length cap z := let ⟨a, cap, z, e, _⟩ := h; ⟨a, cap, z, e⟩
def flG (L : List GI) : List V := L.flatMap giV
theorem flG_len : ∀ L : List GI, (flG L).length = L.length * 16
 | [] => rfl
 | x :: L => by unfold flG; rw [List.flatMap_cons, List.length_append]; have := flG_len L; unfold flG at this; rw [this]; simp only [giV,List.length_cons,List.length_nil]; omega
theorem flG_at : ∀ (L : List GI) (i : Nat) (x : GI), L[i]? = some x -> ((flG L).drop (i * 16)).take 16 = giV x
 | [], i, x, h => by simp at h
 | y :: L, 0, x, h => by
  simp at h; subst h
  rfl
 | y :: L, i + 1, x, h => by
  have e : (i + 1) * 16 = (giV y).length + i * 16 := by simp only [giV,List.length_cons,List.length_nil]; omega
  unfold flG
  rw [List.flatMap_cons, e, <- List.drop_drop, List.drop_left]
  exact flG_at L i x (by simpa using h)
theorem flG_snoc (L : List GI) (x : GI) : flG (L ++ [x]) = flG L ++ giV x := by unfold flG; rw [List.flatMap_append]; simp
theorem VecAt.gis {H : Heap} {v : V} {L : List GI} (h : VecAt H v 16 L.length (flG L)) (hr : ∀ x ∈ L, RowAt H x.pv x.pl) : GisAt H v L := by
 rcases h with ⟨h0, rfl, hc⟩ | ⟨b, g, cap, full, rfl, h1, h2, h3, h4, hc⟩
 ·obtain rfl : L = [] := List.length_eq_zero_iff.1 h0
  exact ⟨_, _, _, rfl, hr, .inl rfl⟩
 ·refine ⟨_, _, _, rfl, hr, .inr ⟨b, g, 0, _, full, rfl, h1, fun i x hx => ?_, by omega⟩⟩
  have := flG_at L i x hx
  rw [hc, List.drop_take, List.take_take] at this
  have hi := (List.getElem?_eq_some_iff.1 hx).1
  rw [Nat.min_eq_left (by omega)] at this
  rw [Nat.zero_add]; exact this
theorem fits_inst {h : Heap} {d : Nat} {cs : List V} (hf : Fits X.ty h (d + 4) 42 cs) : ∃ x : GI, cs = giV x /\ RowAt h x.pv x.pl := by
 unfold Fits at hf
 rw [ty42] at hf
 obtain ⟨hl, hf⟩ := hf
 match cs, hl with
 | [c0, c1, c2, c3, c4, c5, c6, c7, c8, c9, c10, c11, c12, c13, c14, c15], _ =>
  obtain ⟨l, i, e0, _, _⟩ := fits_ref (hf (0, 25) (by simp))
  obtain ⟨st, e6, _⟩ := fits_int (hf (6, 3) (by simp))
  obtain ⟨sq, e14, _⟩ := fits_int (hf (14, 3) (by simp))
  obtain ⟨pv, pl, e15, hp⟩ := fits_refs (hf (15, 22) (by simp))
  simp [ty3, ty25, ty22] at e0 e6 e14 e15
  obtain ⟨rfl, rfl⟩ := e0
  subst e6 e14 e15
  exact ⟨⟨l, i, c2, c3, c4, c5, st, c7, c8, c9, c10, c11, c12, c13, sq, c15, pl⟩, rfl, hp⟩
theorem fits_gis {h : Heap} {d : Nat} {cs : List V} (hf : Fits X.ty h (d + 5) 31 cs) : ∃ v L, cs = [v] /\ GisAt h v L /\ ∃ a n cap z, v = .sl a n cap z /\ n <= cap := by
 unfold Fits at hf
 rw [ty31] at hf
 have hmax : maxLen = 9223372036854775807 := by decide
 rw [hmax] at hf
 rcases hf with rfl | rfl | ⟨b, len, cap, full, rfl, h1, h2, h3, h4, h5, h6⟩
 ·exact ⟨_, [], rfl, ⟨.nil, 0, 0, rfl, (by simp), .inl rfl⟩, _, _, _, _, rfl, Nat.le_refl _⟩
 ·exact ⟨_, [], rfl, ⟨.any, 0, 1, rfl, (by simp), .inl rfl⟩, _, _, _, _, rfl, Nat.le_refl _⟩
 ·have hsz : (X.ty 42).size = 16 := by rw [ty42]
  rw [hsz] at h5 h6
  have hx : ∀ i, ∃ x : GI, i < cap -> (full.drop (i * 16)).take 16 = giV x /\ RowAt h x.pv x.pl := by
   intro i
   by_cases hi : i < cap
   ·obtain ⟨x, e, hr⟩ := fits_inst (h6 i hi)
    exact ⟨x, fun _ => ⟨e, hr⟩⟩
   ·exact ⟨.z, fun h' => absurd h' hi⟩
  obtain ⟨g, hg⟩ := Classical.axiomOfChoice hx
  have hlen : ((List.range len).map g).length = len := by rw [List.length_map, List.length_range]
  refine ⟨_, (List.range len).map g, rfl, ⟨.at b 0 0, cap, 0, by rw [hlen], fun x hx => ?_, .inr ⟨b, 0, 0, false, full, rfl, ?_, ?_, ?_⟩⟩, _, _, _, _, rfl, by omega⟩
  ·obtain ⟨j, hj, rfl⟩ := List.mem_map.1 hx
   exact (hg j (by have := List.mem_range.1 hj; omega)).2
  ·unfold hcells; rw [h4]; exact grd_t rfl _
  ·intro i x hi
   rw [List.getElem?_map] at hi
   cases hr : (List.range len)[i]? with
   | none => rw [hr] at hi; cases hi
   | some j =>
    rw [hr] at hi
    have hj : i < len := by have := (List.getElem?_eq_some_iff.1 hr).1; simpa using this
    have : j = i := by rw [List.getElem?_range hj] at hr; exact (Option.some.inj hr).symm
    subst this
    simp only [Option.map_some,Option.some.injEq] at hi
    subst hi
    rw [Nat.zero_add]
    exact (hg j (by omega)).1
  ·rw [hlen, h5, Nat.zero_add]
   exact Nat.mul_le_mul_right 16 (by omega)
def findG (L : List GI) (k : RP) : Int := match L.findIdx? (fun x => decide (x.key = k)) with | some i => (i : Int) | none => -1
set_option maxHeartbeats 4000000 in
theorem findG_at {H : Heap} {v : V} {L : List GI} (hL : GisAt H v L) (hll : L.length <= 100000) (k : RP) : D X (.fn 21 []) [v, .agg [.int .i64 k.1, .int .i64 k.2]] H = some (.int .i64 (findG L k), H) := by
 refine Ok.eq ?_
 refine Ok.aim fun Q hQ => ?_
 have hQ' := Hid.mk hQ
 clear hQ
 obtain ⟨a, cap, z, rfl, hr, hf⟩ := hL
 have hf' := Hid.mk hf
 clear hr hf
 (refine Ok.body body21 pin21 ?_; simp only [c21,Try.f21,Option.getD_some,nslot21,List.append_nil,List.map,List.replicate,List.length_cons,List.length_nil,Nat.reduceAdd,Nat.reduceSub,List.cons_append,List.nil_append])
 (repeat' (first | (simp -implicitDefEqProofs (maxSteps := 1000000) (disch := first | assumption | omega | (simp only [ZDI]; omega)) only [*,lenV,G21,Za,Zb,Zc,Zd,Ze,Zf,Zg,Zh,Zi,Zj,Zk,Zl,Zm,Zn,Zo,Ja,Jb,Jc,J6,Jd,Je,rd,J7,J8,Jf,Jg,Jh,Ji,Jj,Jk,J9,Jl,Jm,wr,Jn,JA,JB,Jo,Jp,Jq,Jr,Js,Jt,Ju,Jv,Jw,Jx,Jy,Jz,J0,J1,J2,J3,J4,J5,reduceCtorEq,JC,JD,JE,JF,JG,JH,JI,JJ]) | ((with_reducible (first | apply Ok.br | apply Ok.gd | apply Ok.ld)) <;> (intro g; (try simp only [ZGS] at g); try (exfalso; omega)))))
 refine Ok.loop [BF, BF, BF, BF, BT, BT, BT, BF, BF, BT, BT, BT, BT, BT, BT, BT, BT, BT, BT, BT] (fun q s2 => ∃ (i w1 : Nat) (c1 : List V), q = L.length - i /\ i <= L.length /\ tv s2.e 9 = .v (.int .i64 i) /\ s2.l = [(1, [.int .i64 k.1, .int .i64 k.2]), (w1, c1)] /\ s2.h = H /\ ∀ j x, j < i -> L[j]? = some x -> x.key ≠ k)
  (fun y s2 => s2.h = H /\ (∃ (w1 : Nat) (c1 : List V), s2.l = [(1, [.int .i64 k.1, .int .i64 k.2]), (w1, c1)]) /\ ((y = .exit 0 /\ findG L k = -1) \/ (y = .ret /\ tv s2.e 4 = .v (.int .i64 (findG L k))))) (L.length - 0)
  ⟨0, _, _, rfl, Nat.zero_le _, rfl, rfl, rfl, fun j x hj => absurd hj (Nat.not_lt_zero _)⟩ ?_ ?_
 ·intro q ⟨e', l', G⟩ hW ⟨i, w1, c1, hq, hi, h9, hl, hG, hno⟩
  dsimp only at hW h9 hl hG
  subst l' G
  rw [hW.spread]
  simp only [spread_t,spread_f,spread_n,Nat.zero_add,Nat.reduceAdd,h9]
  clear hW hQ'
  by_cases hi2 : i < L.length
  ·have hi3 : (i : Int) < (L.length : Int) := by omega
   have g1 : 0 <= (i : Int) /\ (i : Int) < (L.length : Int) := by omega
   rcases hf'.out with e | ⟨b, g, o, rw, full, rfl, hb, hfull, ho⟩
   ·rw [e] at hi2; simp at hi2
   obtain ⟨x, hx⟩ : ∃ x, L[i]? = some x := ⟨_, List.getElem?_eq_getElem hi2⟩
   have hfx := hfull i x hx
   have ho2 : o + i * 16 + 16 <= full.length := by omega
   unfold giV at hfx
   by_cases e : x.key = k
   ·have hfi : findG L k = (i : Int) := by
     unfold findG
     have : L.findIdx? (fun x => decide (x.key = k)) = some i := by
      rw [List.findIdx?_eq_some_iff_getElem]
      refine ⟨hi2, ?_, fun j hj => ?_⟩
      ·rw [List.getElem?_eq_getElem hi2] at hx
       rw [Option.some.inj hx]; exact decide_eq_true e
      ·rw [decide_eq_true_eq]
       exact hno j _ hj (List.getElem?_eq_getElem (by omega))
     rw [this]
    have e1 : x.l = k.1 := congrArg Prod.fst e
    have e2 : x.i = k.2 := congrArg Prod.snd e
    have hfi' := Hid.mk hfi
    clear hno hfull hx hfi e ho
    (repeat' (first | (simp -implicitDefEqProofs (maxSteps := 1000000) (disch := first | assumption | omega | (simp only [ZDI]; omega)) only [*,lenV,eq_self,G21,Za,Zb,Zc,Zd,Ze,Zf,Zg,Zh,Zi,Zj,Zk,Zl,Zm,Zn,Zo,Ja,Jb,Jc,J6,Jd,Je,rd,J7,J8,Jf,Jg,Jh,Ji,Jj,Jk,J9,Jl,Jm,wr,Jn,JA,JB,Jo,Jp,Jq,Jr,Js,Jt,Ju,Jv,Jw,Jx,Jy,Jz,J0,J1,J2,J3,J4,J5,reduceCtorEq,JC,JD,JE,JF,JG,JH,JI,JJ]) | ((with_reducible (first | apply Ok.br | apply Ok.gd | apply Ok.ld)) <;> (intro g; (try simp only [ZGS] at g); try (exfalso; omega)))))
    exact Turn.ret ⟨rfl, rfl, ⟨_, _, rfl⟩, .inr ⟨rfl, by rw [hfi'.out]; rfl⟩⟩
   ·have hno2 : ∀ j y, j < i + 1 -> L[j]? = some y -> y.key ≠ k := fun j y hj hy => by
     by_cases ej : j = i
     ·rw [ej, hx] at hy
      rw [<- Option.some.inj hy]; exact e
     ·exact hno j y (by omega) hy
    have hnx : ∀ P : Prop, (¬ x.l = k.1 -> P) -> (x.l = k.1 -> ¬ x.i = k.2 -> P) -> P := fun P p q => by
     by_cases h1 : x.l = k.1
     ·exact q h1 fun h2 => e (Prod.ext h1 h2)
     ·exact p h1
    have hno' := Hid.mk hno2
    clear hno hno2 hfull hx e ho
    apply hnx <;> clear hnx
    ·intro h1
     (repeat' (first | (simp -implicitDefEqProofs (maxSteps := 1000000) (disch := first | assumption | omega | (simp only [ZDI]; omega)) only [*,lenV,eq_self,G21,Za,Zb,Zc,Zd,Ze,Zf,Zg,Zh,Zi,Zj,Zk,Zl,Zm,Zn,Zo,Ja,Jb,Jc,J6,Jd,Je,rd,J7,J8,Jf,Jg,Jh,Ji,Jj,Jk,J9,Jl,Jm,wr,Jn,JA,JB,Jo,Jp,Jq,Jr,Js,Jt,Ju,Jv,Jw,Jx,Jy,Jz,J0,J1,J2,J3,J4,J5,reduceCtorEq,JC,JD,JE,JF,JG,JH,JI,JJ]) | ((with_reducible (first | apply Ok.br | apply Ok.gd | apply Ok.ld)) <;> (intro g; (try simp only [ZGS] at g); try (exfalso; omega)))))
     exact Turn.next (L.length - (i + 1)) (by omega) ⟨rfl, i + 1, _, _, rfl, by omega, rfl, rfl, rfl, hno'.out⟩
    ·intro h1 h2
     (repeat' (first | (simp -implicitDefEqProofs (maxSteps := 1000000) (disch := first | assumption | omega | (simp only [ZDI]; omega)) only [*,lenV,eq_self,G21,Za,Zb,Zc,Zd,Ze,Zf,Zg,Zh,Zi,Zj,Zk,Zl,Zm,Zn,Zo,Ja,Jb,Jc,J6,Jd,Je,rd,J7,J8,Jf,Jg,Jh,Ji,Jj,Jk,J9,Jl,Jm,wr,Jn,JA,JB,Jo,Jp,Jq,Jr,Js,Jt,Ju,Jv,Jw,Jx,Jy,Jz,J0,J1,J2,J3,J4,J5,reduceCtorEq,JC,JD,JE,JF,JG,JH,JI,JJ]) | ((with_reducible (first | apply Ok.br | apply Ok.gd | apply Ok.ld)) <;> (intro g; (try simp only [ZGS] at g); try (exfalso; omega)))))
     exact Turn.next (L.length - (i + 1)) (by omega) ⟨rfl, i + 1, _, _, rfl, by omega, rfl, rfl, rfl, hno'.out⟩
  ·have hi3 : ¬ (i : Int) < (L.length : Int) := by omega
   have hfi : findG L k = -1 := by
    unfold findG
    have : L.findIdx? (fun x => decide (x.key = k)) = none := by
     rw [List.findIdx?_eq_none_iff]
     intro x hx
     obtain ⟨j, hj, e⟩ := List.mem_iff_getElem.1 hx
     rw [decide_eq_false_iff_not]
     exact hno j x (by omega) (by rw [List.getElem?_eq_getElem hj, e])
    rw [this]
   have hfi' := Hid.mk hfi
   clear hno hfi
   (repeat' (first | (simp -implicitDefEqProofs (maxSteps := 1000000) (disch := first | assumption | omega | (simp only [ZDI]; omega)) only [*,lenV,G21,Za,Zb,Zc,Zd,Ze,Zf,Zg,Zh,Zi,Zj,Zk,Zl,Zm,Zn,Zo,Ja,Jb,Jc,J6,Jd,Je,rd,J7,J8,Jf,Jg,Jh,Ji,Jj,Jk,J9,Jl,Jm,wr,Jn,JA,JB,Jo,Jp,Jq,Jr,Js,Jt,Ju,Jv,Jw,Jx,Jy,Jz,J0,J1,J2,J3,J4,J5,reduceCtorEq,JC,JD,JE,JF,JG,JH,JI,JJ]) | ((with_reducible (first | apply Ok.br | apply Ok.gd | apply Ok.ld)) <;> (intro g; (try simp only [ZGS] at g); try (exfalso; omega)))))
   exact Turn.exit ⟨rfl, rfl, ⟨_, _, rfl⟩, .inl ⟨rfl, hfi'.out⟩⟩
 ·intro y ⟨e', l', G⟩ hW ⟨hG, ⟨w1, c1, hl⟩, hy⟩
  dsimp only at hW hl hG hy
  subst l' G
  rw [hW.spread]
  clear hW
  rcases hy with ⟨rfl, e⟩ | ⟨rfl, e⟩
  ·simp only [spread_t,spread_f,spread_n,Nat.zero_add,Nat.reduceAdd]
   (repeat' (first | (simp -implicitDefEqProofs (maxSteps := 1000000) (disch := first | assumption | omega | (simp only [ZDI]; omega)) only [*,lenV,G21,Za,Zb,Zc,Zd,Ze,Zf,Zg,Zh,Zi,Zj,Zk,Zl,Zm,Zn,Zo,Ja,Jb,Jc,J6,Jd,Je,rd,J7,J8,Jf,Jg,Jh,Ji,Jj,Jk,J9,Jl,Jm,wr,Jn,JA,JB,Jo,Jp,Jq,Jr,Js,Jt,Ju,Jv,Jw,Jx,Jy,Jz,J0,J1,J2,J3,J4,J5,reduceCtorEq,JC,JD,JE,JF,JG,JH,JI,JJ]) | ((with_reducible (first | apply Ok.br | apply Ok.gd | apply Ok.ld)) <;> (intro g; (try simp only [ZGS] at g); try (exfalso; omega)))))
   exact hQ'.out _ (by rw [e])
  ·simp only [spread_t,spread_f,spread_n,Nat.zero_add,Nat.reduceAdd,e]
   (repeat' (first | (simp -implicitDefEqProofs (maxSteps := 1000000) (disch := first | assumption | omega | (simp only [ZDI]; omega)) only [*,lenV,G21,Za,Zb,Zc,Zd,Ze,Zf,Zg,Zh,Zi,Zj,Zk,Zl,Zm,Zn,Zo,Ja,Jb,Jc,J6,Jd,Je,rd,J7,J8,Jf,Jg,Jh,Ji,Jj,Jk,J9,Jl,Jm,wr,Jn,JA,JB,Jo,Jp,Jq,Jr,Js,Jt,Ju,Jv,Jw,Jx,Jy,Jz,J0,J1,J2,J3,J4,J5,reduceCtorEq,JC,JD,JE,JF,JG,JH,JI,JJ]) | ((with_reducible (first | apply Ok.br | apply Ok.gd | apply Ok.ld)) <;> (intro g; (try simp only [ZGS] at g); try (exfalso; omega)))))
   exact hQ'.out _ rfl
set_option maxHeartbeats 4000000 in
theorem first_at {H : Heap} {v : V} {L : List GI} (hL : GisAt H v L) (hll : L.length <= 100000) : Ev.Ok (D X (.fn 18 []) [v] H) fun y => ∃ H' w, y = (w, H') /\ Keeps [] H H' /\ GisAt H' w (takenL (fun _ => true) [] L) /\ VecAt H' w 16 (takenL (fun _ => true) [] L).length (flG (takenL (fun _ => true) [] L)) := by
 refine Ok.aim fun Q hQ => ?_
 have hQ' := Hid.mk hQ
 clear hQ
 have hL0 := Hid.mk hL
 obtain ⟨a, cap, z, rfl, hr, hf⟩ := hL
 have hf' := Hid.mk hf
 have hr' := Hid.mk hr
 have happ := appendV_vec (t := 31) ty31 ty42 (by decide) (by decide) rfl
 dsimp only at happ
 have happ' := Hid.mk happ
 clear hr hf happ
 (refine Ok.body body18 pin18 ?_; simp only [c18,Try.f18,Option.getD_some,nslot18,List.append_nil,List.map,List.replicate,List.length_cons,List.length_nil,Nat.reduceAdd,Nat.reduceSub,List.cons_append,List.nil_append])
 (repeat' (first | (simp -implicitDefEqProofs (maxSteps := 1000000) (disch := first | assumption | omega | (simp only [ZDI]; omega)) only [*,lenV,G18,Za,Zb,Zc,Zd,Ze,Zf,Zg,Zh,Zi,Zj,Zk,Zl,Zm,Zn,Zo,Ja,Jb,Jc,J6,Jd,Je,rd,J7,J8,Jf,Jg,Jh,Ji,Jj,Jk,J9,Jl,Jm,wr,Jn,JA,JB,Jo,Jp,Jq,Jr,Js,Jt,Ju,Jv,Jw,Jx,Jy,Jz,J0,J1,J2,J3,J4,J5,reduceCtorEq,JC,JD,JE,JF,JG,JH,JI,JJ]) | ((with_reducible (first | apply Ok.br | apply Ok.gd | apply Ok.ld)) <;> (intro g; (try simp only [ZGS] at g); try (exfalso; omega)))))
 refine Ok.loop [BF, BF, BF, BT, BF, BT, BF, BF, BT, BT, BT, BT, BT, BT, BT, BT, BT, BT, BT, BT, BT, BT, BF] (fun q s2 => ∃ (i w1 w2 : Nat) (c1 c2 : List V) (w : V) (T : List GI), q = L.length - i /\ i <= L.length /\ tv s2.e 8 = .v (.int .i64 i) /\ tv s2.e 3 = .v w /\ s2.l = [(w1, c1), (w2, c2)] /\ Keeps [] H s2.h /\ VecAt s2.h w 16 T.length (flG T) /\ (∀ x ∈ own w, H.length <= x) /\
   (∀ x ∈ T, x ∈ L) /\ T.length <= i /\ (∀ k, k ∈ T.map GI.key ↔ k ∈ (L.take i).map GI.key) /\ takenL (fun _ => true) [] L = T ++ takenL (fun _ => true) ((L.take i).map GI.key) (L.drop i))
  (fun y s2 => y = .exit 0 /\ ∃ (w1 w2 : Nat) (c1 c2 : List V) (w : V), tv s2.e 3 = .v w /\ s2.l = [(w1, c1), (w2, c2)] /\ Keeps [] H s2.h /\ VecAt s2.h w 16 (takenL (fun _ => true) [] L).length (flG (takenL (fun _ => true) [] L)) /\ ∀ x ∈ takenL (fun _ => true) [] L, x ∈ L) (L.length - 0)
  ⟨0, 0, 0, [], [], _, [], rfl, Nat.zero_le _, rfl, rfl, rfl, .refl _ _, .zero _ _, (by simp [own]), (fun x hx => nomatch hx), Nat.le_refl _, (by simp), rfl⟩ ?_ ?_
 ·intro q ⟨e', l', G⟩ hW ⟨i, w1, w2, c1, c2, w, T, hq, hi, h8, h3, hl, hk, hw, how, hTL, hTi, hkey, htake⟩
  dsimp only at hW h8 h3 hl hk hw
  subst l'
  rw [hW.spread]
  simp only [spread_t,spread_f,spread_n,Nat.zero_add,Nat.reduceAdd,h8,h3]
  clear hW hQ'
  by_cases hi2 : i < L.length
  ·have hi3 : (i : Int) < (L.length : Int) := by omega
   have g1 : 0 <= (i : Int) /\ (i : Int) < (L.length : Int) := by omega
   rcases hf'.out with e | ⟨b, g, o, rw, full, rfl, hb, hfull, ho⟩
   ·rw [e] at hi2; simp at hi2
   obtain ⟨x, hx⟩ : ∃ x, L[i]? = some x := ⟨_, List.getElem?_eq_getElem hi2⟩
   have hxL := List.mem_of_getElem? hx
   have hfx := hfull i x hx
   have ho2 : o + i * 16 + 16 <= full.length := by omega
   have hbG := hk.cells hb (by simp)
   have htk1 : L.take (i + 1) = L.take i ++ [x] := by rw [List.take_add_one, hx]; rfl
   have hdr : L.drop i = x :: L.drop (i + 1) := by
    rw [List.drop_eq_getElem_cons hi2]; congr 1
    rw [List.getElem?_eq_getElem hi2] at hx; exact Option.some.inj hx
   have hgT : GisAt G w T := hw.gis fun y hy => (hr'.out y (hTL y hy)).keepF hk (by simp)
   have hfind := findG_at hgT (by omega) x.key
   obtain ⟨pa, pc, pz, hpv, _⟩ := hr'.out x hxL
   unfold giV at hfx
   unfold GI.key at hfind
   dsimp only at hfind
   by_cases hm : x.key ∈ (L.take i).map GI.key
   ·have hfp : ¬ findG T (x.l, x.i) < 0 := by
     unfold findG
     cases hfi : T.findIdx? (fun y => decide (y.key = (x.l, x.i))) with
     | some j => simp
     | none =>
      obtain ⟨y, hy, e⟩ := List.mem_map.1 ((hkey _).2 hm)
      rw [List.findIdx?_eq_none_iff] at hfi
      have := hfi y hy
      rw [decide_eq_false_iff_not] at this
      exact absurd e this
    obtain ⟨fi, hfi⟩ : ∃ f, findG T (x.l, x.i) = f := ⟨_, rfl⟩
    rw [hfi] at hfind hfp
    have hkey2 : ∀ k, k ∈ T.map GI.key ↔ k ∈ (L.take (i + 1)).map GI.key := fun k => by
     rw [hkey k, htk1, List.map_append, List.mem_append]
     simp only [List.map_cons,List.map_nil,List.mem_singleton]
     exact ⟨.inl, fun h => h.elim id fun e => by rw [e]; exact hm⟩
    have ht2 : takenL (fun _ => true) [] L = T ++ takenL (fun _ => true) ((L.take (i + 1)).map GI.key) (L.drop (i + 1)) := by
     rw [htake, hdr, takenL, if_pos hm]
     congr 1
     exact takenL_congr _ fun k => by rw [<- hkey k, hkey2 k]
    have hk' := Hid.mk hk
    have hw' := Hid.mk hw
    have how' := Hid.mk how
    have hTL' := Hid.mk hTL
    have hkey' := Hid.mk hkey2
    have ht' := Hid.mk ht2
    clear hk hw how hTL hkey hkey2 ht2 htake hfull hx hdr htk1 hgT hm ho hb hfi
    (repeat' (first | (simp -implicitDefEqProofs (maxSteps := 1000000) (disch := first | assumption | omega | (simp only [ZDI]; omega)) only [*,lenV,G18,Za,Zb,Zc,Zd,Ze,Zf,Zg,Zh,Zi,Zj,Zk,Zl,Zm,Zn,Zo,Ja,Jb,Jc,J6,Jd,Je,rd,J7,J8,Jf,Jg,Jh,Ji,Jj,Jk,J9,Jl,Jm,wr,Jn,JA,JB,Jo,Jp,Jq,Jr,Js,Jt,Ju,Jv,Jw,Jx,Jy,Jz,J0,J1,J2,J3,J4,J5,reduceCtorEq,JC,JD,JE,JF,JG,JH,JI,JJ]) | ((with_reducible (first | apply Ok.br | apply Ok.gd | apply Ok.ld)) <;> (intro g; (try simp only [ZGS] at g); try (exfalso; omega)))))
    exact Turn.next (L.length - (i + 1)) (by omega) ⟨rfl, i + 1, _, _, _, _, w, T, rfl, by omega, rfl, rfl, rfl, hk'.out, hw'.out, how'.out, hTL'.out, by omega, hkey'.out, ht'.out⟩
   ·have hfp : findG T (x.l, x.i) = -1 := by
     unfold findG
     have : T.findIdx? (fun y => decide (y.key = (x.l, x.i))) = none := by
      rw [List.findIdx?_eq_none_iff]
      intro y hy
      rw [decide_eq_false_iff_not]
      exact fun e => hm ((hkey _).1 (List.mem_map.2 ⟨y, hy, e⟩))
     rw [this]
    rw [hfp] at hfind
    have hkey2 : ∀ k, k ∈ (T ++ [x]).map GI.key ↔ k ∈ (L.take (i + 1)).map GI.key := fun k => by
     rw [List.map_append, List.mem_append, hkey k, htk1, List.map_append, List.mem_append]
    have ht2 : takenL (fun _ => true) [] L = (T ++ [x]) ++ takenL (fun _ => true) ((L.take (i + 1)).map GI.key) (L.drop (i + 1)) := by
     rw [htake, hdr, takenL, if_neg hm, if_pos rfl, List.append_assoc]
     congr 1
     rw [List.singleton_append]
     congr 1
     refine takenL_congr _ fun k => ?_
     rw [htk1, List.map_append, List.mem_append, List.mem_cons]
     simp only [List.map_cons,List.map_nil,List.mem_singleton]
     exact Or.comm
    have hTl : T.length < 100000000 := by omega
    have hok : VecOk G w 16 := hw.ok hTl
    have hP := hw.push (q := giV x) hTl rfl
    obtain ⟨a9, c9, y9, hsh⟩ := hP.sl
    have hoP := own_push G w 16 (giV x)
    rw [hsh] at hP hoP
    have hkP := vpush_keeps G w 16 (giV x)
    have hgl := hk.1
    have how2 : ∀ y ∈ own (V.sl a9 (T.length + 1) c9 y9), H.length <= y := fun y hy => (hoP y hy).elim (how y) fun e => by omega
    have hk2 : Keeps [] H (vpush G w 16 (giV x)).2 := hk.wide hkP fun j hj hlt => by have := how j hj; omega
    have hP2 : VecAt (vpush G w 16 (giV x)).2 (V.sl a9 (T.length + 1) c9 y9) 16 (T ++ [x]).length (flG (T ++ [x])) := by
     rw [flG_snoc, List.length_append]; exact hP
    have hTL2 : ∀ y ∈ T ++ [x], y ∈ L := fun y hy => (List.mem_append.1 hy).elim (hTL y) fun e => by
     have : y = x := by simpa using e
     rw [this]; exact hxL
    unfold giV at hsh hk2 hP2
    obtain ⟨w0, hw0⟩ : ∃ w0, w = w0 := ⟨_, rfl⟩
    obtain ⟨wa, wc, wz, hws⟩ := hw.sl
    have hk' := Hid.mk hk2
    have hw' := Hid.mk hP2
    have how' := Hid.mk how2
    have hTL' := Hid.mk hTL2
    have hkey' := Hid.mk hkey2
    have ht' := Hid.mk ht2
    have happ := happ'.out
    have hpv' := Hid.mk hpv
    clear hk hw how hTL hkey hkey2 ht2 htake hfull hx hdr htk1 hgT hm ho hb hfp hP hoP hkP hk2 hP2 how2 hTL2 hw0 hws hpv
    (repeat' (first | (simp -implicitDefEqProofs (maxSteps := 1000000) (disch := first | assumption | omega | exact hgA _ | exact hgB _ | (simp only [ZDI]; omega)) only [*,lenV,List.drop_zero,List.take_succ_cons,List.take_zero,G18,Za,Zb,Zc,Zd,Ze,Zf,Zg,Zh,Zi,Zj,Zk,Zl,Zm,Zn,Zo,Ja,Jb,Jc,J6,Jd,Je,rd,J7,J8,Jf,Jg,Jh,Ji,Jj,Jk,J9,Jl,Jm,wr,Jn,JA,JB,Jo,Jp,Jq,Jr,Js,Jt,Ju,Jv,Jw,hcells_push,Jy,Jz,J0,J1,J2,J3,J4,J5,reduceCtorEq,JC,JD,JE,JF,JG,JH,JI,JJ]) | ((with_reducible (first | apply Ok.br | apply Ok.gd | apply Ok.ld)) <;> (intro g; (try simp only [ZGS] at g); try (exfalso; omega)))))
    exact Turn.next (L.length - (i + 1)) (by omega) ⟨rfl, i + 1, _, _, _, _, _, T ++ [x], rfl, by omega, rfl, rfl, rfl, hk'.out, hw'.out, how'.out, hTL'.out, by rw [List.length_append]; exact Nat.succ_le_succ hTi, hkey'.out, ht'.out⟩
  ·have hi3 : ¬ (i : Int) < (L.length : Int) := by omega
   have hte : takenL (fun _ => true) [] L = T := by rw [htake, List.drop_of_length_le (by omega), takenL, List.append_nil]
   rw [<- hte] at hw hTL
   have hk' := Hid.mk hk
   have hw' := Hid.mk hw
   have hTL' := Hid.mk hTL
   clear hk hw how hTL hkey htake hte
   (repeat' (first | (simp -implicitDefEqProofs (maxSteps := 1000000) (disch := first | assumption | omega | (simp only [ZDI]; omega)) only [*,lenV,G18,Za,Zb,Zc,Zd,Ze,Zf,Zg,Zh,Zi,Zj,Zk,Zl,Zm,Zn,Zo,Ja,Jb,Jc,J6,Jd,Je,rd,J7,J8,Jf,Jg,Jh,Ji,Jj,Jk,J9,Jl,Jm,wr,Jn,JA,JB,Jo,Jp,Jq,Jr,Js,Jt,Ju,Jv,Jw,Jx,Jy,Jz,J0,J1,J2,J3,J4,J5,reduceCtorEq,JC,JD,JE,JF,JG,JH,JI,JJ]) | ((with_reducible (first | apply Ok.br | apply Ok.gd | apply Ok.ld)) <;> (intro g; (try simp only [ZGS] at g); try (exfalso; omega)))))
   exact Turn.exit ⟨rfl, rfl, _, _, _, _, w, rfl, rfl, hk'.out, hw'.out, hTL'.out⟩
 ·intro y ⟨e', l', G⟩ hW ⟨hy, w1, w2, c1, c2, w, h3, hl, hk, hw, hTL⟩
  dsimp only at hW h3 hl hk hw
  subst l' hy
  rw [hW.spread]
  clear hW
  simp only [spread_t,spread_f,spread_n,Nat.zero_add,Nat.reduceAdd,h3]
  have hg : GisAt G w (takenL (fun _ => true) [] L) := hw.gis fun x hx => (hr'.out x (hTL x hx)).keepF hk (by simp)
  have hk' := Hid.mk hk
  have hg' := Hid.mk hg
  have hsc' := Hid.mk hw
  clear hk hw hTL hg
  (repeat' (first | (simp -implicitDefEqProofs (maxSteps := 1000000) (disch := first | assumption | omega | (simp only [ZDI]; omega)) only [*,lenV,G18,Za,Zb,Zc,Zd,Ze,Zf,Zg,Zh,Zi,Zj,Zk,Zl,Zm,Zn,Zo,Ja,Jb,Jc,J6,Jd,Je,rd,J7,J8,Jf,Jg,Jh,Ji,Jj,Jk,J9,Jl,Jm,wr,Jn,JA,JB,Jo,Jp,Jq,Jr,Js,Jt,Ju,Jv,Jw,Jx,Jy,Jz,J0,J1,J2,J3,J4,J5,reduceCtorEq,JC,JD,JE,JF,JG,JH,JI,JJ]) | ((with_reducible (first | apply Ok.br | apply Ok.gd | apply Ok.ld)) <;> (intro g; (try simp only [ZGS] at g); try (exfalso; omega)))))
  exact hQ'.out _ ⟨_, w, rfl, hk'.out, hg'.out, hsc'.out⟩
end Go.Ev
set_option maxRecDepth 100000
namespace Go.Ev
open Go.Ev renaming exPure -> Ja, ofValue -> Jb, cellsV -> Jc, load -> Jd, store -> Je, binOp -> Jf, intOp -> Jg, rdV -> Jh, vsame -> Ji, vsames -> Jj, makeSliceV -> Jk, resV -> Jl, isCell -> Jm, nilCheckV -> Jn, allV -> Jo, builtinV -> Jp, lenV -> Jq, indexAddrV -> Jr, unOp -> Js, minmaxV -> Jt, minmax -> Ju, sliceV -> Jv, asInt -> Jw, appendV -> Jx, forkB -> Jy, roY -> Jz, rwB -> J0, copyV -> J1, clearV -> J2, convV -> J3, sliceCells -> J4, shift -> J5
open Bool renaming true -> BT, false -> BF
open Nat renaming reduceEqDiff -> J6, reduceLT -> J7, reduceAdd -> J8, reduceBEq -> J9, reduceSub -> JA, reduceMul -> JB, reduceLeDiff -> JJ
open Int renaming reduceLT -> JC, reduceLE -> JD, reduceAdd -> JE, reduceSub -> JF, reduceNeg -> JG, reduceToNat -> JH, reduceEq -> JI
open Go.Proofs Go.Sort
theorem RowAt.slice {h : Heap} {a : SA} {m cap z c : Nat} {l : List RP} (hr : RowAt h (.sl a m cap z) l) {n : Nat} (hn : n <= l.length) (hc : c = cap) (z2 : Nat) : RowAt h (.sl a n c z2) (l.take n) := by
 obtain ⟨a', cap', z', e, h1, h1', h2⟩ := hr
 cases e
 subst hc
 refine ⟨a, c, z2, by rw [List.length_take, Nat.min_eq_left hn], by rw [List.length_take]; omega, h1', h2.imp (fun e => ?_) ?_⟩
 ·rw [e, List.take_nil]
 ·rintro ⟨b, g, o, rw, full, rfl, hb, hfull, ho⟩
  refine ⟨b, g, o, rw, full, rfl, hb, fun i x hx => hfull i x ?_, by rw [List.length_take]; omega⟩
  rw [List.getElem?_take] at hx
  split at hx
  ·exact hx
  ·cases hx
def cutI (x : GI) (v : V) : GI := ⟨x.l, x.i, x.a2, x.a3, x.a4, x.a5, x.st, x.a7, x.a8, x.a9, x.a10, x.a11, x.a12, x.a13, x.sq, v, x.pl.take 30⟩
set_option maxHeartbeats 4000000 in
theorem cut_at {H : Heap} {v : V} {L : List GI} (hL : GisAt H v L) (hcap : ∃ a n cap z, v = .sl a n cap z /\ n <= cap) :
  Ev.Ok (D X (.fn 19 []) [v] H) fun y => ∃ H' w L', y = (w, H') /\ Keeps [] H H' /\ GisAt H' w L' /\ L'.length <= 30 /\ ∀ x ∈ L', x.pl.length <= 30 := by
 refine Ok.aim fun Q hQ => ?_
 have hQ' := Hid.mk hQ
 clear hQ
 obtain ⟨a, cap, z, rfl, hr, hf⟩ := hL
 obtain ⟨_, _, _, _, e, hcap⟩ := hcap
 cases e
 have hf' := Hid.mk hf
 have hr' := Hid.mk hr
 have happ := appendV_vec (t := 31) ty31 ty42 (by decide) (by decide) rfl
 dsimp only at happ
 have happ' := Hid.mk happ
 clear hr hf happ
 obtain ⟨n2, hn2⟩ : ∃ n2, min 30 L.length = n2 := ⟨_, rfl⟩
 have h3 : (30 < (L.length : Int) /\ z = 0) \/ (30 < (L.length : Int) /\ ¬ z = 0) \/ ¬ 30 < (L.length : Int) := by omega
 have hm2 : n2 <= 30 /\ n2 <= L.length := by omega
 have hfu : L.length = 0 \/ ∃ b g o rw full, a = .at b g o /\ hcells H b g = some (rw, full) /\ (∀ (i : Nat) (x : GI), L[i]? = some x -> (full.drop (o + i * 16)).take 16 = giV x /\ o + i * 16 + 16 <= full.length) := hf'.out.imp (fun e => by rw [e]; rfl) fun ⟨b, g, o, rw, full, h1, h2, h3, h4⟩ => ⟨b, g, o, rw, full, h1, h2, fun i x hx => ⟨h3 i x hx, by have := (List.getElem?_eq_some_iff.1 hx).1; omega⟩⟩
 have hfu' := Hid.mk hfu
 clear hfu hf'
 rcases h3 with ⟨h1, h2⟩ | ⟨h1, h2⟩ | h1
 have hc0 : ¬ cap = 0 := by omega
 have hc1 : 30 <= (cap : Int) := by omega
 obtain ⟨ba, ga, oa, _, _, rfl, _⟩ := hfu'.out.resolve_left (by omega)
 (refine Ok.body body19 pin19 ?_; simp only [c19,Try.f19,Option.getD_some,nslot19,List.append_nil,List.map,List.replicate,List.length_cons,List.length_nil,Nat.reduceAdd,Nat.reduceSub,List.cons_append,List.nil_append])
 (repeat' (first | (simp -implicitDefEqProofs (maxSteps := 1000000) (disch := first | assumption | omega | (simp only [ZDI]; omega)) only [*,lenV,SA.add,Nat.sub_zero,eq_self,G19,Za,Zb,Zc,Zd,Ze,Zf,Zg,Zh,Zi,Zj,Zk,Zl,Zm,Zn,Zo,Ja,Jb,Jc,J6,Jd,Je,rd,J7,J8,Jf,Jg,Jh,Ji,Jj,Jk,J9,Jl,Jm,wr,Jn,JA,JB,Jo,Jp,Jq,Jr,Js,Jt,Ju,Jv,Jw,Jx,Jy,Jz,J0,J1,J2,J3,J4,J5,reduceCtorEq,JC,JD,JE,JF,JG,JH,JI,JJ]) | ((with_reducible (first | apply Ok.br | apply Ok.gd | apply Ok.ld)) <;> (intro g; (try simp only [ZGS] at g); try (exfalso; omega)))))
 rotate_left
 have hc0 : ¬ cap = 0 := by omega
 have hc1 : 30 <= (cap : Int) := by omega
 obtain ⟨ba, ga, oa, _, _, rfl, _⟩ := hfu'.out.resolve_left (by omega)
 (refine Ok.body body19 pin19 ?_; simp only [c19,Try.f19,Option.getD_some,nslot19,List.append_nil,List.map,List.replicate,List.length_cons,List.length_nil,Nat.reduceAdd,Nat.reduceSub,List.cons_append,List.nil_append])
 (repeat' (first | (simp -implicitDefEqProofs (maxSteps := 1000000) (disch := first | assumption | omega | (simp only [ZDI]; omega)) only [*,lenV,Nat.sub_zero,eq_self,G19,Za,Zb,Zc,Zd,Ze,Zf,Zg,Zh,Zi,Zj,Zk,Zl,Zm,Zn,Zo,Ja,Jb,Jc,J6,Jd,Je,rd,J7,J8,Jf,Jg,Jh,Ji,Jj,Jk,J9,Jl,Jm,wr,Jn,JA,JB,Jo,Jp,Jq,Jr,Js,Jt,Ju,Jv,Jw,Jx,Jy,Jz,J0,J1,J2,J3,J4,J5,reduceCtorEq,JC,JD,JE,JF,JG,JH,JI,JJ]) | ((with_reducible (first | apply Ok.br | apply Ok.gd | apply Ok.ld)) <;> (intro g; (try simp only [ZGS] at g); try (exfalso; omega)))))
 rotate_left
 (refine Ok.body body19 pin19 ?_; simp only [c19,Try.f19,Option.getD_some,nslot19,List.append_nil,List.map,List.replicate,List.length_cons,List.length_nil,Nat.reduceAdd,Nat.reduceSub,List.cons_append,List.nil_append])
 (repeat' (first | (simp -implicitDefEqProofs (maxSteps := 1000000) (disch := first | assumption | omega | (simp only [ZDI]; omega)) only [*,lenV,G19,Za,Zb,Zc,Zd,Ze,Zf,Zg,Zh,Zi,Zj,Zk,Zl,Zm,Zn,Zo,Ja,Jb,Jc,J6,Jd,Je,rd,J7,J8,Jf,Jg,Jh,Ji,Jj,Jk,J9,Jl,Jm,wr,Jn,JA,JB,Jo,Jp,Jq,Jr,Js,Jt,Ju,Jv,Jw,Jx,Jy,Jz,J0,J1,J2,J3,J4,J5,reduceCtorEq,JC,JD,JE,JF,JG,JH,JI,JJ]) | ((with_reducible (first | apply Ok.br | apply Ok.gd | apply Ok.ld)) <;> (intro g; (try simp only [ZGS] at g); try (exfalso; omega)))))
 rotate_left
 all_goals
  refine Ok.loop [BF, BF, BF, BT, BF, BT, BF, BF, BF, BF, BF, BF, BF, BT, BT, BT, BT, BT, BT, BT, BT, BT, BT, BT, BT, BT, BT, BT, BT, BT, BF] (fun q s2 => ∃ (i w1 w2 : Nat) (c1 c2 : List V) (w : V) (T : List GI), q = n2 - i /\ i <= n2 /\ tv s2.e 13 = .v (.int .i64 i) /\ tv s2.e 3 = .v w /\ s2.l = [(w1, c1), (w2, c2)] /\ Keeps [] H s2.h /\ VecAt s2.h w 16 T.length (flG T) /\ (∀ x ∈ own w, H.length <= x) /\
    (∀ x ∈ T, RowAt H x.pv x.pl) /\ T.length = i /\ ∀ x ∈ T, x.pl.length <= 30)
   (fun y s2 => y = .exit 0 /\ ∃ (w1 w2 : Nat) (c1 c2 : List V) (w : V) (T : List GI), tv s2.e 3 = .v w /\ s2.l = [(w1, c1), (w2, c2)] /\ Keeps [] H s2.h /\ VecAt s2.h w 16 T.length (flG T) /\ (∀ x ∈ T, RowAt H x.pv x.pl) /\ T.length <= 30 /\ ∀ x ∈ T, x.pl.length <= 30) (n2 - 0)
   ⟨0, 0, 0, [], [], _, [], rfl, Nat.zero_le _, rfl, rfl, rfl, .refl _ _, .zero _ _, (by simp [own]), (fun x hx => nomatch hx), rfl, fun x hx => nomatch hx⟩ ?_ ?_
  ·intro q ⟨e', l', G⟩ hW ⟨i, w1, w2, c1, c2, w, T, hq, hi, h13, h3, hl, hk, hw, how, hTr, hTi, hTp⟩
   dsimp only at hW h13 h3 hl hk hw
   subst l'
   rw [hW.spread]
   simp only [spread_t,spread_f,spread_n,Nat.zero_add,Nat.reduceAdd,h13,h3]
   clear hW hQ'
   by_cases hi2 : i < n2
   ·have hi3 : (i : Int) < (L.length : Int) := by omega
    have hi4 : (i : Int) < 30 := by omega
    have g1 : 0 <= (i : Int) /\ (i : Int) < (L.length : Int) := by omega
    have g2 : 0 <= (i : Int) /\ (i : Int) < 30 := by omega
    obtain ⟨b, g, o, rw, full, e, hb, hfull⟩ := hfu'.out.resolve_left (by omega)
    cases e
    obtain ⟨x, hx⟩ : ∃ x, L[i]? = some x := ⟨_, List.getElem?_eq_getElem (by omega)⟩
    have hxL := List.mem_of_getElem? hx
    obtain ⟨hfx, ho2⟩ := hfull i x hx
    have hbG := hk.cells hb (by simp)
    unfold giV at hfx
    have hxr := hr'.out x hxL
    obtain ⟨pa, pc, pz, hpv, hpn, _, hpf⟩ := hxr
    have hxr := hr'.out x hxL
    have hTl : T.length < 100000000 := by omega
    have hok : VecOk G w 16 := hw.ok hTl
    have hpush : ∀ y : GI, RowAt H y.pv y.pl -> y.pl.length <= 30 -> ∃ a9 c9 y9, (vpush G w 16 (giV y)).1 = .sl a9 (T.length + 1) c9 y9 /\ Keeps [] H (vpush G w 16 (giV y)).2 /\ VecAt (vpush G w 16 (giV y)).2 (.sl a9 (T.length + 1) c9 y9) 16 (T ++ [y]).length (flG (T ++ [y])) /\ (∀ x ∈ own (.sl a9 (T.length + 1) c9 y9), H.length <= x) /\
      (∀ x ∈ T ++ [y], RowAt H x.pv x.pl) /\ ∀ x ∈ T ++ [y], x.pl.length <= 30 := fun y hy hyl => by
     have hP := hw.push (q := giV y) hTl rfl
     obtain ⟨a9, c9, y9, hsh⟩ := hP.sl
     have hoP := own_push G w 16 (giV y)
     rw [hsh] at hP hoP
     have hgl := hk.1
     refine ⟨a9, c9, y9, hsh, hk.wide (vpush_keeps G w 16 (giV y)) fun j hj hlt => by have := how j hj; omega, by rw [flG_snoc, List.length_append]; exact hP, fun z hz => (hoP z hz).elim (how z) fun e => by omega, fun z hz => ?_, fun z hz => ?_⟩
     ·exact (List.mem_append.1 hz).elim (hTr z) fun e => by rw [List.mem_singleton.1 e]; exact hy
     ·exact (List.mem_append.1 hz).elim (hTp z) fun e => by rw [List.mem_singleton.1 e]; exact hyl
    obtain ⟨wa, wc, wz, hws⟩ := hw.sl
    have happ := happ'.out
    by_cases hlong : 30 < (x.pl.length : Int)
    ·have hc2 : ¬ pc = 0 := by omega
     have hc3 : 30 <= (pc : Int) := by omega
     rcases hpf with e | ⟨b2, g2', o2, rw2, full2, e, hpf⟩
     ·rw [e] at hlong; simp at hlong
     cases e
     have hcr : ∀ z2, RowAt H (.sl (.at b2 g2' o2) 30 pc z2) (x.pl.take 30) := fun z2 => (hpv ▸ hxr : RowAt H (.sl (.at b2 g2' o2) x.pl.length pc pz) x.pl).slice (by omega) rfl z2
     by_cases hz2 : pz = 0
     ·obtain ⟨a9, c9, y9, hsh, p1, p2, p3, p4, p5⟩ := hpush (cutI x (.sl (.at b2 g2' o2) 30 pc 0)) (hcr 0) (by unfold cutI; dsimp only; rw [List.length_take]; omega)
      unfold giV cutI at hsh p1 p2
      dsimp only at hsh p1 p2
      have hTi' := Hid.mk hTi
      have p1' := Hid.mk p1
      have p2' := Hid.mk p2
      have p3' := Hid.mk p3
      have p4' := Hid.mk p4
      have p5' := Hid.mk p5
      clear p1 p2 p3 p4 p5 hpush hk hw how hTr hTp hfull hx hxr hpf hb hws hTi hcr
      (repeat' (first | (simp -implicitDefEqProofs (maxSteps := 1000000) (disch := first | assumption | omega | exact hgA _ | exact hgB _ | (simp only [ZDI]; omega)) only [*,lenV,hpv,SA.add,Nat.sub_zero,List.drop_zero,List.take_succ_cons,List.take_zero,eq_self,G19,Za,Zb,Zc,Zd,Ze,Zf,Zg,Zh,Zi,Zj,Zk,Zl,Zm,Zn,Zo,Ja,Jb,Jc,J6,Jd,Je,rd,J7,J8,Jf,Jg,Jh,Ji,Jj,Jk,J9,Jl,Jm,wr,Jn,JA,JB,Jo,Jp,Jq,Jr,Js,Jt,Ju,Jv,Jw,hcells_push,Jy,Jz,J0,J1,J2,J3,J4,J5,reduceCtorEq,JC,JD,JE,JF,JG,JH,JI,JJ]) | ((with_reducible (first | apply Ok.br | apply Ok.gd | apply Ok.ld)) <;> (intro g; (try simp only [ZGS] at g); try (exfalso; omega)))))
      exact Turn.next (n2 - (i + 1)) (by omega) ⟨rfl, i + 1, _, _, _, _, _, T ++ [cutI x _], rfl, by omega, rfl, rfl, rfl, p1'.out, p2'.out, p3'.out, p4'.out, by rw [List.length_append, hTi'.out]; rfl, p5'.out⟩
     ·obtain ⟨a9, c9, y9, hsh, p1, p2, p3, p4, p5⟩ := hpush (cutI x (.sl (.at b2 g2' o2) 30 pc pz)) (hcr pz) (by unfold cutI; dsimp only; rw [List.length_take]; omega)
      unfold giV cutI at hsh p1 p2
      dsimp only at hsh p1 p2
      have hTi' := Hid.mk hTi
      have p1' := Hid.mk p1
      have p2' := Hid.mk p2
      have p3' := Hid.mk p3
      have p4' := Hid.mk p4
      have p5' := Hid.mk p5
      clear p1 p2 p3 p4 p5 hpush hk hw how hTr hTp hfull hx hxr hpf hb hws hTi hcr
      (repeat' (first | (simp -implicitDefEqProofs (maxSteps := 1000000) (disch := first | assumption | omega | exact hgA _ | exact hgB _ | (simp only [ZDI]; omega)) only [*,lenV,hpv,SA.add,Nat.sub_zero,List.drop_zero,List.take_succ_cons,List.take_zero,eq_self,G19,Za,Zb,Zc,Zd,Ze,Zf,Zg,Zh,Zi,Zj,Zk,Zl,Zm,Zn,Zo,Ja,Jb,Jc,J6,Jd,Je,rd,J7,J8,Jf,Jg,Jh,Ji,Jj,Jk,J9,Jl,Jm,wr,Jn,JA,JB,Jo,Jp,Jq,Jr,Js,Jt,Ju,Jv,Jw,hcells_push,Jy,Jz,J0,J1,J2,J3,J4,J5,reduceCtorEq,JC,JD,JE,JF,JG,JH,JI,JJ]) | ((with_reducible (first | apply Ok.br | apply Ok.gd | apply Ok.ld)) <;> (intro g; (try simp only [ZGS] at g); try (exfalso; omega)))))
      exact Turn.next (n2 - (i + 1)) (by omega) ⟨rfl, i + 1, _, _, _, _, _, T ++ [cutI x _], rfl, by omega, rfl, rfl, rfl, p1'.out, p2'.out, p3'.out, p4'.out, by rw [List.length_append, hTi'.out]; rfl, p5'.out⟩
    ·have hxl : x.pl.length <= 30 := by omega
     obtain ⟨a9, c9, y9, hsh, p1, p2, p3, p4, p5⟩ := hpush x hxr hxl
     unfold giV at hsh p1 p2
     rw [hpv] at hsh p1 p2
     have hTi' := Hid.mk hTi
     have p1' := Hid.mk p1
     have p2' := Hid.mk p2
     have p3' := Hid.mk p3
     have p4' := Hid.mk p4
     have p5' := Hid.mk p5
     clear p1 p2 p3 p4 p5 hpush hk hw how hTr hTp hfull hx hxr hpf hb hws hTi
     (repeat' (first | (simp -implicitDefEqProofs (maxSteps := 1000000) (disch := first | assumption | omega | exact hgA _ | exact hgB _ | (simp only [ZDI]; omega)) only [*,lenV,hpv,List.drop_zero,List.take_succ_cons,List.take_zero,G19,Za,Zb,Zc,Zd,Ze,Zf,Zg,Zh,Zi,Zj,Zk,Zl,Zm,Zn,Zo,Ja,Jb,Jc,J6,Jd,Je,rd,J7,J8,Jf,Jg,Jh,Ji,Jj,Jk,J9,Jl,Jm,wr,Jn,JA,JB,Jo,Jp,Jq,Jr,Js,Jt,Ju,Jv,Jw,hcells_push,Jy,Jz,J0,J1,J2,J3,J4,J5,reduceCtorEq,JC,JD,JE,JF,JG,JH,JI,JJ]) | ((with_reducible (first | apply Ok.br | apply Ok.gd | apply Ok.ld)) <;> (intro g; (try simp only [ZGS] at g); try (exfalso; omega)))))
     exact Turn.next (n2 - (i + 1)) (by omega) ⟨rfl, i + 1, _, _, _, _, _, T ++ [x], rfl, by omega, rfl, rfl, rfl, p1'.out, p2'.out, p3'.out, p4'.out, by rw [List.length_append, hTi'.out]; rfl, p5'.out⟩
   ·first
     | have hi3 : ¬ (i : Int) < 30 := by omega
     | have hi3 : ¬ (i : Int) < (L.length : Int) := by omega
    have hk' := Hid.mk hk
    have hw' := Hid.mk hw
    have hTr' := Hid.mk hTr
    have hTp' := Hid.mk hTp
    clear hk hw how hTr hTp
    (repeat' (first | (simp -implicitDefEqProofs (maxSteps := 1000000) (disch := first | assumption | omega | (simp only [ZDI]; omega)) only [*,lenV,G19,Za,Zb,Zc,Zd,Ze,Zf,Zg,Zh,Zi,Zj,Zk,Zl,Zm,Zn,Zo,Ja,Jb,Jc,J6,Jd,Je,rd,J7,J8,Jf,Jg,Jh,Ji,Jj,Jk,J9,Jl,Jm,wr,Jn,JA,JB,Jo,Jp,Jq,Jr,Js,Jt,Ju,Jv,Jw,Jx,Jy,Jz,J0,J1,J2,J3,J4,J5,reduceCtorEq,JC,JD,JE,JF,JG,JH,JI,JJ]) | ((with_reducible (first | apply Ok.br | apply Ok.gd | apply Ok.ld)) <;> (intro g; (try simp only [ZGS] at g); try (exfalso; omega)))))
    exact Turn.exit ⟨rfl, rfl, _, _, _, _, w, T, rfl, rfl, hk'.out, hw'.out, hTr'.out, by omega, hTp'.out⟩
  ·intro y ⟨e', l', G⟩ hW ⟨hy, w1, w2, c1, c2, w, T, h3, hl, hk, hw, hTr, hTl, hTp⟩
   dsimp only at hW h3 hl hk hw
   subst l' hy
   rw [hW.spread]
   clear hW
   simp only [spread_t,spread_f,spread_n,Nat.zero_add,Nat.reduceAdd,h3]
   have hg' := Hid.mk (hw.gis fun x hx => (hTr x hx).keepF hk (by simp))
   have hk' := Hid.mk hk
   have hTp' := Hid.mk hTp
   clear hk hw hTr hTp
   (repeat' (first | (simp -implicitDefEqProofs (maxSteps := 1000000) (disch := first | assumption | omega | (simp only [ZDI]; omega)) only [*,lenV,G19,Za,Zb,Zc,Zd,Ze,Zf,Zg,Zh,Zi,Zj,Zk,Zl,Zm,Zn,Zo,Ja,Jb,Jc,J6,Jd,Je,rd,J7,J8,Jf,Jg,Jh,Ji,Jj,Jk,J9,Jl,Jm,wr,Jn,JA,JB,Jo,Jp,Jq,Jr,Js,Jt,Ju,Jv,Jw,Jx,Jy,Jz,J0,J1,J2,J3,J4,J5,reduceCtorEq,JC,JD,JE,JF,JG,JH,JI,JJ]) | ((with_reducible (first | apply Ok.br | apply Ok.gd | apply Ok.ld)) <;> (intro g; (try simp only [ZGS] at g); try (exfalso; omega)))))
   exact hQ'.out _ ⟨_, w, T, rfl, hk'.out, hg'.out, hTl, hTp'.out⟩
end Go.Ev
set_option maxRecDepth 100000
namespace Go.Ev
open Go.Sort
theorem taken_nodup (tk : GI -> Bool) : ∀ (s : List RP) (L : List GI), ((takenL tk s L).map GI.key).Nodup /\ ∀ x ∈ takenL tk s L, x.key ∉ s /\ x ∈ L
 | _, [] => ⟨List.nodup_nil, fun x hx => nomatch hx⟩
 | s, x :: r => by
  have h1 := taken_nodup tk s r
  have h2 := taken_nodup tk (x.key :: s) r
  unfold takenL
  split
  ·exact ⟨h1.1, fun y hy => ⟨(h1.2 y hy).1, List.mem_cons_of_mem _ (h1.2 y hy).2⟩⟩
  ·rename_i hx
   split
   ·refine ⟨?_, fun y hy => ?_⟩
    ·rw [List.map_cons, List.nodup_cons]
     refine ⟨fun hm => ?_, h2.1⟩
     obtain ⟨y, hy, e⟩ := List.mem_map.1 hm
     exact (h2.2 y hy).1 (by rw [e]; exact List.mem_cons_self)
    ·rcases List.mem_cons.1 hy with rfl | hy
     ·exact ⟨hx, List.mem_cons_self⟩
     ·exact ⟨fun hm => (h2.2 y hy).1 (List.mem_cons_of_mem _ hm), List.mem_cons_of_mem _ (h2.2 y hy).2⟩
   ·exact ⟨h2.1, fun y hy => ⟨fun hm => (h2.2 y hy).1 (List.mem_cons_of_mem _ hm), List.mem_cons_of_mem _ (h2.2 y hy).2⟩⟩
theorem taken_self : ∀ (s : List RP) (L : List GI), (L.map GI.key).Nodup -> (∀ x ∈ L, x.key ∉ s) -> takenL (fun _ => true) s L = L
 | _, [], _, _ => rfl
 | s, x :: r, hn, h => by
  rw [List.map_cons, List.nodup_cons] at hn
  unfold takenL
  rw [if_neg (h x List.mem_cons_self), if_pos rfl, taken_self (x.key :: s) r hn.2]
  intro y hy hm
  rcases List.mem_cons.1 hm with e | e
  ·exact hn.1 (e ▸ List.mem_map.2 ⟨y, hy, rfl⟩)
  ·exact h y (List.mem_cons_of_mem _ hy) e
section
variable {K : RP -> Prop} {E : RP -> RP -> Prop} {lt : RP -> RP -> Bool} {rows : List (List RP)}
theorem RowsOf.flat_nodup (h : RowsOf K E lt rows) (hT : Tot lt) : ∀ t, ((rows.take t).flatten).Nodup
 | 0 => by simp
 | t + 1 => by
  rw [List.take_add_one]
  cases hr : rows[t]? with
  | none => simpa using h.flat_nodup hT t
  | some r =>
   have hm := List.mem_of_getElem? hr
   rw [List.flatten_append, Option.toList_some, List.flatten_singleton, List.nodup_append]
   refine ⟨h.flat_nodup hT t, (h.srt r hm).imp fun {x y} k e => ?_, fun x hx y hy e => h.new t r hr y hy (e ▸ hx)⟩
   rw [e, hT.irr] at k; cases k
theorem RowsOf.flat_mem (h : RowsOf K E lt rows) (x : RP) : x ∈ rows.flatten ↔ K x := by
 rw [List.mem_flatten]
 exact ⟨fun ⟨r, hr, hx⟩ => (h.cls r hr x hx).1, fun hk => let ⟨r, hr, hx⟩ := h.all x hk; ⟨r, hr, hx⟩⟩
end
theorem nodup_len : ∀ {l m : List RP}, l.Nodup -> m.Nodup -> (∀ x, x ∈ l ↔ x ∈ m) -> l.length = m.length := fun hl hm h =>
 Nat.le_antisymm (hl.length_le_of_subset fun x hx => (h x).1 hx) (hm.length_le_of_subset fun x hx => (h x).2 hx)
theorem freeK_all {T : List GI} {cp : Nat -> Option Nat} (h : ∀ u, u < T.length -> ∃ c, cp u = some c) : freeK T cp (fun _ => false) = fun x => x ∈ T.map GI.key := by
 funext x
 refine propext ⟨fun ⟨u, c, hu, e, _⟩ => ?_, fun hm => ?_⟩
 ·rw [<- e]; exact List.mem_map.2 ⟨_, keyT_mem hu, rfl⟩
 ·obtain ⟨a, ha, e⟩ := List.mem_map.1 hm
  obtain ⟨u, hu, e2⟩ := List.mem_iff_getElem.1 ha
  obtain ⟨c, hc⟩ := h u hu
  exact ⟨u, c, hu, by unfold keyT; rw [List.getD_eq_getElem?_getD, List.getElem?_eq_getElem hu, e2]; exact e, hc, rfl⟩
theorem EK_perm {T U : List GI} (h : ∀ x, x ∈ T ↔ x ∈ U) : EK T = EK U := by
 have hk : ∀ y, y ∈ T.map GI.key ↔ y ∈ U.map GI.key := fun y => by
  rw [List.mem_map, List.mem_map]
  exact ⟨fun ⟨a, ha, e⟩ => ⟨a, (h a).1 ha, e⟩, fun ⟨a, ha, e⟩ => ⟨a, (h a).2 ha, e⟩⟩
 funext x y
 refine propext ⟨fun ⟨a, ha, h1, h2, h3, h4⟩ => ⟨a, (h a).1 ha, h1, h2, (hk y).1 h3, h4⟩, fun ⟨a, ha, h1, h2, h3, h4⟩ => ⟨a, (h a).2 ha, h1, h2, (hk y).2 h3, h4⟩⟩
theorem key_inj {T : List GI} (hd : (T.map GI.key).Nodup) {a b : GI} (ha : a ∈ T) (hb : b ∈ T) (e : a.key = b.key) : a = b := by
 obtain ⟨i, hi, ei⟩ := List.mem_iff_getElem.1 ha
 obtain ⟨j, hj, ej⟩ := List.mem_iff_getElem.1 hb
 have : i = j := keyT_inj hd hi hj (by
  unfold keyT
  rw [List.getD_eq_getElem?_getD, List.getD_eq_getElem?_getD, List.getElem?_eq_getElem hi, List.getElem?_eq_getElem hj, ei, ej]; exact e)
 subst this
 rw [<- ei, <- ej]
theorem sqK_perm {T U : List GI} (hd : (T.map GI.key).Nodup) (h : ∀ x, x ∈ T ↔ x ∈ U) (x : RP) : sqK T x = sqK U x := by
 unfold sqK
 congr 2
 cases h1 : T.find? fun a => decide (a.key = x) with
 | none =>
  rw [List.find?_eq_none] at h1
  exact (List.find?_eq_none.2 fun a ha => h1 a ((h a).2 ha)).symm
 | some a =>
  have ha := List.mem_of_find?_eq_some h1
  have ea : a.key = x := by simpa using List.find?_some h1
  cases h2 : U.find? fun a => decide (a.key = x) with
  | none =>
   rw [List.find?_eq_none] at h2
   exact absurd (decide_eq_true ea) (h2 a ((h a).1 ha))
  | some b =>
   have hb := List.mem_of_find?_eq_some h2
   have eb : b.key = x := by simpa using List.find?_some h2
   rw [key_inj hd ha ((h b).2 hb) (ea.trans eb.symm)]
theorem ltK_perm {T U : List GI} (hd : (T.map GI.key).Nodup) (h : ∀ x, x ∈ T ↔ x ∈ U) : ltK T = ltK U := by
 funext x y
 unfold ltK
 rw [sqK_perm hd h x, sqK_perm hd h y]
section
variable {T U : List GI} {fv fv2 : Nat -> V} {cp cp2 : Nat -> Option Nat} {cs cs2 : List (List Nat)} {o o2 : List Nat}
theorem Sorted.same (h : Sorted T (fun _ => false) fv cp cs o) (h2 : Sorted U (fun _ => false) fv2 cp2 cs2 o2) (hd : (T.map GI.key).Nodup) (hd2 : (U.map GI.key).Nodup) (hm : ∀ x, x ∈ T ↔ x ∈ U) : rowsT T cs o = rowsT U cs2 o2 := by
 have r1 := h.rows hd
 have r2 := h2.rows hd2
 rw [freeK_all h.ok.all] at r1
 rw [freeK_all h2.ok.all, <- EK_perm hm, <- ltK_perm hd hm] at r2
 have hk : (fun x => x ∈ U.map GI.key) = fun x => x ∈ T.map GI.key := by
  funext x
  refine propext ?_
  rw [List.mem_map, List.mem_map]
  exact ⟨fun ⟨a, ha, e⟩ => ⟨a, (hm a).2 ha, e⟩, fun ⟨a, ha, e⟩ => ⟨a, (hm a).1 ha, e⟩⟩
 rw [hk] at r2
 exact r1.unique (ltK_tot T) r2
theorem Sorted.total (h : Sorted T (fun _ => false) fv cp cs o) (hd : (T.map GI.key).Nodup) : (rowsT T cs o).flatten.length = T.length := by
 have r1 := h.rows hd
 rw [freeK_all h.ok.all] at r1
 have h1 := r1.flat_nodup (ltK_tot T) (rowsT T cs o).length
 rw [List.take_length] at h1
 rw [nodup_len h1 hd r1.flat_mem, List.length_map]
end
end Go.Ev
set_option maxRecDepth 100000
namespace Go.Ev
open Go.Ev renaming exPure -> Ja, ofValue -> Jb, cellsV -> Jc, load -> Jd, store -> Je, binOp -> Jf, intOp -> Jg, rdV -> Jh, vsame -> Ji, vsames -> Jj, makeSliceV -> Jk, resV -> Jl, isCell -> Jm, nilCheckV -> Jn, allV -> Jo, builtinV -> Jp, lenV -> Jq, indexAddrV -> Jr, unOp -> Js, minmaxV -> Jt, minmax -> Ju, sliceV -> Jv, asInt -> Jw, appendV -> Jx, forkB -> Jy, roY -> Jz, rwB -> J0, copyV -> J1, clearV -> J2, convV -> J3, sliceCells -> J4, shift -> J5
open Bool renaming true -> BT, false -> BF
open Nat renaming reduceEqDiff -> J6, reduceLT -> J7, reduceAdd -> J8, reduceBEq -> J9, reduceSub -> JA, reduceMul -> JB, reduceLeDiff -> JJ
open Int renaming reduceLT -> JC, reduceLE -> JD, reduceAdd -> JE, reduceSub -> JF, reduceNeg -> JG, reduceToNat -> JH, reduceEq -> JI
open Go.Proofs Go.Sort
theorem same_at {h : Heap} {v w : V} {l m : List RP} (hr : RowAt h v l) (hs : RowAt h w m) : D X (.fn 15 []) [v, w] h = some (.bool (decide (l = m)), h) := by
 refine Ok.eq ?_
 refine Ok.aim fun Q hQ => ?_
 have hQ' := Hid.mk hQ
 clear hQ
 obtain ⟨a, cap, z, rfl, h1, h1', h2⟩ := hr
 obtain ⟨a2, cap2, z2, rfl, h3, h3', h4⟩ := hs
 by_cases hlen : l.length = m.length
 ·have hlen' : (l.length : Int) = (m.length : Int) := by omega
  (refine Ok.body body15 pin15 ?_; simp only [c15,Try.f15,Option.getD_some,nslot15,List.append_nil,List.map,List.replicate,List.length_cons,List.length_nil,Nat.reduceAdd,Nat.reduceSub,List.cons_append,List.nil_append])
  (repeat' (first | (simp -implicitDefEqProofs (maxSteps := 1000000) (disch := first | assumption | omega | (simp only [ZDI]; omega)) only [*,lenV,G15,Za,Zb,Zc,Zd,Ze,Zf,Zg,Zh,Zi,Zj,Zk,Zl,Zm,Zn,Zo,Ja,Jb,Jc,J6,Jd,Je,rd,J7,J8,Jf,Jg,Jh,Ji,Jj,Jk,J9,Jl,Jm,wr,Jn,JA,JB,Jo,Jp,Jq,Jr,Js,Jt,Ju,Jv,Jw,Jx,Jy,Jz,J0,J1,J2,J3,J4,J5,reduceCtorEq,JC,JD,JE,JF,JG,JH,JI,JJ]) | ((with_reducible (first | apply Ok.br | apply Ok.gd | apply Ok.ld)) <;> (intro g; (try simp only [ZGS] at g); try (exfalso; omega)))))
  refine Ok.loop [BF, BF, BF, BF, BT, BT, BF, BF, BF, BF, BF, BF, BF, BT, BT, BT, BT, BT, BT, BT, BT, BT, BT, BT, BT, BT] (fun n s2 => ∃ (i : Nat), n = l.length - i /\ i <= l.length /\ tv s2.e 13 = .v (.int .i64 i) /\ s2.l = [] /\ s2.h = h /\ l.take i = m.take i)
   (fun y s2 => s2.h = h /\ s2.l = [] /\ ((y = .exit 0 /\ l = m) \/ (y = .ret /\ l ≠ m /\ tv s2.e 4 = .v (.bool false)))) (l.length - 0) ⟨0, rfl, Nat.zero_le _, rfl, rfl, rfl, by simp⟩ ?_ ?_
  ·intro n ⟨e', l', H'⟩ hW ⟨i, hm, hi, h9, k2, k3, hno⟩
   dsimp only at hW h9 k2 k3
   subst l' H'
   rw [hW.spread]
   simp only [spread_t,spread_f,spread_n,Nat.zero_add,Nat.reduceAdd,h9]
   clear hW hQ'
   have hno' := Hid.mk hno
   clear hno
   by_cases hlt : i < l.length
   ·have hlt' : (i : Int) < (m.length : Int) := by omega
    have g1 : 0 <= (i : Int) /\ (i : Int) < (m.length : Int) := by omega
    rcases h2 with rfl | ⟨b, g, o, rw, full, rfl, hb, hfull, ho⟩
    ·simp at hlt
    ·rcases h4 with rfl | ⟨b2, g2, o2, rw2, full2, rfl, hb2, hfull2, ho2⟩
     ·simp at hlen; subst hlen; simp at hlt
     ·obtain ⟨y, hy⟩ : ∃ y, l[i]? = some y := ⟨_, List.getElem?_eq_getElem hlt⟩
      obtain ⟨x, hx⟩ : ∃ y, m[i]? = some y := ⟨_, List.getElem?_eq_getElem (by omega)⟩
      have hf := hfull i y hy
      have hf2 := hfull2 i x hx
      have hy' := Hid.mk hy
      have hx' := Hid.mk hx
      clear hy hfull hx hfull2
      by_cases hxy : y = x
      ·subst hxy
       (repeat' (first | (simp -implicitDefEqProofs (maxSteps := 1000000) (disch := first | assumption | omega | (simp only [ZDI]; omega)) only [*,lenV,eq_self,G15,Za,Zb,Zc,Zd,Ze,Zf,Zg,Zh,Zi,Zj,Zk,Zl,Zm,Zn,Zo,Ja,Jb,Jc,J6,Jd,Je,rd,J7,J8,Jf,Jg,Jh,Ji,Jj,Jk,J9,Jl,Jm,wr,Jn,JA,JB,Jo,Jp,Jq,Jr,Js,Jt,Ju,Jv,Jw,Jx,Jy,Jz,J0,J1,J2,J3,J4,J5,reduceCtorEq,JC,JD,JE,JF,JG,JH,JI,JJ]) | ((with_reducible (first | apply Ok.br | apply Ok.gd | apply Ok.ld)) <;> (intro g; (try simp only [ZGS] at g); try (exfalso; omega)))))
       refine Turn.next (l.length - (i + 1)) (by omega) ⟨rfl, i + 1, by omega, by omega, rfl, rfl, rfl, ?_⟩
       rw [List.take_add_one, List.take_add_one, hy'.out, hx'.out, hno'.out]
      ·have hnx : ∀ P : Prop, (¬ y.1 = x.1 -> P) -> (y.1 = x.1 -> ¬ y.2 = x.2 -> P) -> P := fun P p q => by
        by_cases h1 : y.1 = x.1
        ·exact q h1 fun h2 => hxy (Prod.ext h1 h2)
        ·exact p h1
       have hno2 : l ≠ m := by
        rintro rfl
        have := hy'.out
        rw [hx'.out] at this
        exact hxy (Option.some.inj this).symm
       have hno3 := Hid.mk hno2
       clear hno2 hxy
       apply hnx <;> clear hnx
       ·intro hn1
        (repeat' (first | (simp -implicitDefEqProofs (maxSteps := 1000000) (disch := first | assumption | omega | (simp only [ZDI]; omega)) only [*,lenV,G15,Za,Zb,Zc,Zd,Ze,Zf,Zg,Zh,Zi,Zj,Zk,Zl,Zm,Zn,Zo,Ja,Jb,Jc,J6,Jd,Je,rd,J7,J8,Jf,Jg,Jh,Ji,Jj,Jk,J9,Jl,Jm,wr,Jn,JA,JB,Jo,Jp,Jq,Jr,Js,Jt,Ju,Jv,Jw,Jx,Jy,Jz,J0,J1,J2,J3,J4,J5,reduceCtorEq,JC,JD,JE,JF,JG,JH,JI,JJ]) | ((with_reducible (first | apply Ok.br | apply Ok.gd | apply Ok.ld)) <;> (intro g; (try simp only [ZGS] at g); try (exfalso; omega)))))
        exact Turn.ret ⟨rfl, rfl, rfl, .inr ⟨rfl, hno3.out, rfl⟩⟩
       ·intro hn1 hn2
        (repeat' (first | (simp -implicitDefEqProofs (maxSteps := 1000000) (disch := first | assumption | omega | (simp only [ZDI]; omega)) only [*,lenV,G15,Za,Zb,Zc,Zd,Ze,Zf,Zg,Zh,Zi,Zj,Zk,Zl,Zm,Zn,Zo,Ja,Jb,Jc,J6,Jd,Je,rd,J7,J8,Jf,Jg,Jh,Ji,Jj,Jk,J9,Jl,Jm,wr,Jn,JA,JB,Jo,Jp,Jq,Jr,Js,Jt,Ju,Jv,Jw,Jx,Jy,Jz,J0,J1,J2,J3,J4,J5,reduceCtorEq,JC,JD,JE,JF,JG,JH,JI,JJ]) | ((with_reducible (first | apply Ok.br | apply Ok.gd | apply Ok.ld)) <;> (intro g; (try simp only [ZGS] at g); try (exfalso; omega)))))
        exact Turn.ret ⟨rfl, rfl, rfl, .inr ⟨rfl, hno3.out, rfl⟩⟩
   ·have hlt' : ¬ (i : Int) < (m.length : Int) := by omega
    (repeat' (first | (simp -implicitDefEqProofs (maxSteps := 1000000) (disch := first | assumption | omega | (simp only [ZDI]; omega)) only [*,lenV,G15,Za,Zb,Zc,Zd,Ze,Zf,Zg,Zh,Zi,Zj,Zk,Zl,Zm,Zn,Zo,Ja,Jb,Jc,J6,Jd,Je,rd,J7,J8,Jf,Jg,Jh,Ji,Jj,Jk,J9,Jl,Jm,wr,Jn,JA,JB,Jo,Jp,Jq,Jr,Js,Jt,Ju,Jv,Jw,Jx,Jy,Jz,J0,J1,J2,J3,J4,J5,reduceCtorEq,JC,JD,JE,JF,JG,JH,JI,JJ]) | ((with_reducible (first | apply Ok.br | apply Ok.gd | apply Ok.ld)) <;> (intro g; (try simp only [ZGS] at g); try (exfalso; omega)))))
    refine Turn.exit ⟨rfl, rfl, rfl, .inl ⟨rfl, ?_⟩⟩
    have := hno'.out
    rwa [List.take_of_length_le (by omega), List.take_of_length_le (by omega)] at this
  ·intro y ⟨e', l', H'⟩ hW ⟨k3, k2, hy⟩
   dsimp only at hW k2 k3 hy
   subst l' H'
   rw [hW.spread]
   clear hW
   rcases hy with ⟨rfl, hm⟩ | ⟨rfl, hm, h4⟩
   ·simp only [spread_t,spread_f,spread_n,Nat.zero_add,Nat.reduceAdd]
    (repeat' (first | (simp -implicitDefEqProofs (maxSteps := 1000000) (disch := first | assumption | omega | (simp only [ZDI]; omega)) only [*,G15,Za,Zb,Zc,Zd,Ze,Zf,Zg,Zh,Zi,Zj,Zk,Zl,Zm,Zn,Zo,Ja,Jb,Jc,J6,Jd,Je,rd,J7,J8,Jf,Jg,Jh,Ji,Jj,Jk,J9,Jl,Jm,wr,Jn,JA,JB,Jo,Jp,Jq,Jr,Js,Jt,Ju,Jv,Jw,Jx,Jy,Jz,J0,J1,J2,J3,J4,J5,reduceCtorEq,JC,JD,JE,JF,JG,JH,JI,JJ]) | ((with_reducible (first | apply Ok.br | apply Ok.gd | apply Ok.ld)) <;> (intro g; (try simp only [ZGS] at g); try (exfalso; omega)))))
    exact hQ'.out _ (by rw [decide_eq_true hm])
   ·simp only [spread_t,spread_f,spread_n,Nat.zero_add,Nat.reduceAdd,h4]
    (repeat' (first | (simp -implicitDefEqProofs (maxSteps := 1000000) (disch := first | assumption | omega | (simp only [ZDI]; omega)) only [*,G15,Za,Zb,Zc,Zd,Ze,Zf,Zg,Zh,Zi,Zj,Zk,Zl,Zm,Zn,Zo,Ja,Jb,Jc,J6,Jd,Je,rd,J7,J8,Jf,Jg,Jh,Ji,Jj,Jk,J9,Jl,Jm,wr,Jn,JA,JB,Jo,Jp,Jq,Jr,Js,Jt,Ju,Jv,Jw,Jx,Jy,Jz,J0,J1,J2,J3,J4,J5,reduceCtorEq,JC,JD,JE,JF,JG,JH,JI,JJ]) | ((with_reducible (first | apply Ok.br | apply Ok.gd | apply Ok.ld)) <;> (intro g; (try simp only [ZGS] at g); try (exfalso; omega)))))
    exact hQ'.out _ (by rw [decide_eq_false hm])
 ·have hlen' : ¬ (l.length : Int) = (m.length : Int) := by omega
  (refine Ok.body body15 pin15 ?_; simp only [c15,Try.f15,Option.getD_some,nslot15,List.append_nil,List.map,List.replicate,List.length_cons,List.length_nil,Nat.reduceAdd,Nat.reduceSub,List.cons_append,List.nil_append])
  (repeat' (first | (simp -implicitDefEqProofs (maxSteps := 1000000) (disch := first | assumption | omega | (simp only [ZDI]; omega)) only [*,lenV,G15,Za,Zb,Zc,Zd,Ze,Zf,Zg,Zh,Zi,Zj,Zk,Zl,Zm,Zn,Zo,Ja,Jb,Jc,J6,Jd,Je,rd,J7,J8,Jf,Jg,Jh,Ji,Jj,Jk,J9,Jl,Jm,wr,Jn,JA,JB,Jo,Jp,Jq,Jr,Js,Jt,Ju,Jv,Jw,Jx,Jy,Jz,J0,J1,J2,J3,J4,J5,reduceCtorEq,JC,JD,JE,JF,JG,JH,JI,JJ]) | ((with_reducible (first | apply Ok.br | apply Ok.gd | apply Ok.ld)) <;> (intro g; (try simp only [ZGS] at g); try (exfalso; omega)))))
  exact hQ'.out _ (by rw [decide_eq_false]; rintro rfl; exact hlen rfl)
end Go.Ev
set_option maxRecDepth 100000
namespace Go.Ev
open Go.Ev renaming exPure -> Ja, ofValue -> Jb, cellsV -> Jc, load -> Jd, store -> Je, binOp -> Jf, intOp -> Jg, rdV -> Jh, vsame -> Ji, vsames -> Jj, makeSliceV -> Jk, resV -> Jl, isCell -> Jm, nilCheckV -> Jn, allV -> Jo, builtinV -> Jp, lenV -> Jq, indexAddrV -> Jr, unOp -> Js, minmaxV -> Jt, minmax -> Ju, sliceV -> Jv, asInt -> Jw, appendV -> Jx, forkB -> Jy, roY -> Jz, rwB -> J0, copyV -> J1, clearV -> J2, convV -> J3, sliceCells -> J4, shift -> J5
open Bool renaming true -> BT, false -> BF
open Nat renaming reduceEqDiff -> J6, reduceLT -> J7, reduceAdd -> J8, reduceBEq -> J9, reduceSub -> JA, reduceMul -> JB, reduceLeDiff -> JJ
open Int renaming reduceLT -> JC, reduceLE -> JD, reduceAdd -> JE, reduceSub -> JF, reduceNeg -> JG, reduceToNat -> JH, reduceEq -> JI
open Go.Proofs Go.Sort
theorem u64_small' {x : Int} (h : 0 <= x /\ x < 18446744073709551616) : IntKind.u64.wrap x = x := by simp only [IntKind.wrap,IntKind.signed,IntKind.bits]; simp; omega
section
variable {t el s1 b1 : Nat} {z1 : List V} {q1 : Bool} {e : TI} (ht : X.ty t = ⟨.slice el, s1, b1, z1, q1⟩) (he : X.ty el = e) (hb : e.bytes <= 100000) (hz : 0 < e.size) (hzz : e.zero.length = e.size)
include ht he hb hz hzz
theorem append_one {b0 g0 o0 b g o n cap z : Nat} {rw : Bool} {full : List V} (hn : 0 < n) (hn2 : n <= 100000000) (ho : o + n * e.size <= full.length) (s : St) (hc : hcells s.h b g = some (rw, full)) :
  appendV X.ty t s (.v (.sl (.at b0 g0 o0) 0 0 0)) (.v (.sl (.at b g o) n cap z)) = some (.v (.sl (.at s.h.length 0 0) n n e.size), { s with h := s.h ++ [.cells 0 true ((full.drop o).take (n * e.size))] }) := by
 have hn0 : ¬ n = 0 := by omega
 have hn1 : ¬ n <= 0 := by omega
 have hbs : n * e.bytes <= 35184372088832 := Nat.le_trans (Nat.mul_le_mul hn2 hb) (by decide)
 simp only [appendV,ht,he,sliceCells,hn0,hn1,decide_false,cnd_f,hc,bnd_s,grd_t ho,Nat.zero_add]
 rw [grd_t ⟨hbs, by omega, hzz, hz⟩]
 rfl
theorem append_two (hf : ∀ s y, forkB e s y = false) {b0 g0 n0 b g o n cap z : Nat} {rw : Bool} {full c0 : List V} (hn : 0 < n) (hn0 : 0 < n0) (hn2 : n0 + n <= 100000000) (ho : o + n * e.size <= full.length) (hl : c0.length = n0 * e.size) (s : St) (hc : hcells s.h b g = some (rw, full)) (hc0 : hcells s.h b0 g0 = some (true, c0)) :
  appendV X.ty t s (.v (.sl (.at b0 g0 0) n0 n0 e.size)) (.v (.sl (.at b g o) n cap z)) = some (.v (.sl (.at b0 (g0 + 1) 0) (n0 + n) (n0 + n) e.size), { s with h := s.h.set b0 (.cells (g0 + 1) true (c0 ++ (full.drop o).take (n * e.size))) }) := by
 have h0 : ¬ n = 0 := by omega
 have h1 : ¬ n0 + n <= n0 := by omega
 have hz0 : ¬ e.size = 0 := by omega
 have hbs : (n0 + n) * e.bytes <= 35184372088832 := Nat.le_trans (Nat.mul_le_mul hn2 hb) (by decide)
 simp only [appendV,ht,he,sliceCells,h0,h1,hz0,decide_false,cnd_f,hc,bnd_s,grd_t ho,Nat.zero_add,hc0,cnd_t,hf]
 rw [grd_t ⟨hbs, by omega, hzz, hz⟩, grd_t ⟨by omega, trivial⟩, List.drop_zero, <- hl, List.take_length]
omit hb hz hzz in
theorem append_none {a : SA} {n0 z0 b g o cap z : Nat} (s : St) : appendV X.ty t s (.v (.sl a n0 n0 z0)) (.v (.sl (.at b g o) 0 cap z)) = some (.v (.sl a n0 n0 z0), s) := by
 simp only [appendV,ht,he,sliceCells,decide_true,cnd_t,bnd_s,Nat.add_zero,Nat.le_refl]
end
theorem flG_drop (T : List GI) (k : Nat) : (flG T).drop (k * 16) = flG (T.drop k) := by
 induction k generalizing T with
 | zero => rw [Nat.zero_mul]; rfl
 | succ k ih =>
  cases T with
  | nil => unfold flG; simp
  | cons x T =>
   have e : (k + 1) * 16 = (giV x).length + k * 16 := by simp only [giV,List.length_cons,List.length_nil]; omega
   rw [List.drop_succ_cons, <- ih T]
   unfold flG
   rw [List.flatMap_cons, e, <- List.drop_drop, List.drop_left]
theorem flG_take (T : List GI) (k : Nat) : (flG T).take (k * 16) = flG (T.take k) := by
 induction k generalizing T with
 | zero => rw [Nat.zero_mul]; rfl
 | succ k ih =>
  cases T with
  | nil => unfold flG; simp
  | cons x T =>
   have e : (k + 1) * 16 = (giV x).length + k * 16 := by simp only [giV,List.length_cons,List.length_nil]; omega
   have e2 : flG (x :: T.take k) = giV x ++ flG (T.take k) := rfl
   have e3 : flG (x :: T) = giV x ++ flG T := rfl
   rw [List.take_succ_cons, e2, <- ih T, e3, e, List.take_length_add_append]
theorem flG_app (S T : List GI) : flG (S ++ T) = flG S ++ flG T := by unfold flG; rw [List.flatMap_append]
theorem slops_l (a b : Operand) : (#[a] ++ (some b).toArray ++ (none : Option Operand).toArray ++ (none : Option Operand).toArray).toList = [a, b] := rfl
theorem slops_h (a b : Operand) : (#[a] ++ (none : Option Operand).toArray ++ (some b).toArray ++ (none : Option Operand).toArray).toList = [a, b] := rfl
theorem fits_uintN {h : Heap} {d : Nat} {cs : List V} (hf : Fits X.ty h (d + 1) 54 cs) : ∃ n : Nat, cs = [.int .u64 n] /\ n < 18446744073709551616 := by
 unfold Fits at hf
 rw [ty54] at hf
 obtain ⟨i, rfl, h1⟩ := hf
 simp only [Lit.wf,IntKind.min,IntKind.max,IntKind.signed,IntKind.bits] at h1
 simp at h1
 exact ⟨i.toNat, by rw [Int.toNat_of_nonneg (by omega)], by omega⟩
theorem comp_of {H : Heap} {v : V} {U : List GI} (hg : GisAt H v U) (hd : (U.map GI.key).Nodup) (hl : U.length <= 30) (hp : ∀ x ∈ U, x.pl.length <= 30) :
  Ev.Ok (D X (.fn 25 []) [v] H) fun y => ∃ H' w fv cp cs o ol, y = (w, H') /\ Keeps [] H H' /\ Sorted U (fun _ => false) fv cp cs o /\ VecAt H' w 1 o.length ol /\
   (∀ (t : Nat) (v : V), ol[t]? = some v -> ∃ (c : Nat) (lc : List Nat), o[t]? = some c /\ cs[c]? = some lc /\ RowAt H' v (refsOf (nsT U fv) lc)) := by
 have := components_at hg (by omega) (fun x hx => by have := hp x hx; omega)
 rwa [taken_self [] U hd (fun x _ => by simp)] at this
theorem gis_new {H : Heap} {b g n cap z : Nat} {U : List GI} (hr : ∀ x ∈ U, RowAt H x.pv x.pl) (hb : hcells H b g = some (true, flG U)) (hn : n = U.length) : GisAt H (.sl (.at b g 0) n cap z) U := by
 refine ⟨_, _, _, by rw [hn], hr, .inr ⟨b, g, 0, true, flG U, rfl, hb, fun i x hx => ?_, ?_⟩⟩
 ·rw [Nat.zero_add]; exact flG_at U i x hx
 ·rw [flG_len, Nat.zero_add]; exact Nat.le_refl _
theorem rowsT_at {H : Heap} {T : List GI} {fv : Nat -> V} {cs : List (List Nat)} {o : List Nat} {ol : List V} {v : V} (hv : VecAt H v 1 o.length ol) (hr : ∀ (t : Nat) (v : V), ol[t]? = some v -> ∃ (c : Nat) (lc : List Nat), o[t]? = some c /\ cs[c]? = some lc /\ RowAt H v (refsOf (nsT T fv) lc)) {i : Nat} (hi : i < o.length) :
  ∃ w r, ol[i]? = some w /\ (rowsT T cs o)[i]? = some r /\ RowAt H w r := by
 have hl := hv.len
 have h2 : i < ol.length := by omega
 obtain ⟨c, lc, h3, h4, h5⟩ := hr i ol[i] (List.getElem?_eq_getElem h2)
 refine ⟨ol[i], lc.map (keyT T), List.getElem?_eq_getElem h2, ?_, h5⟩
 unfold rowsT
 rw [List.getElem?_map, h3, Option.map_some, List.getD_eq_getElem?_getD, h4]; rfl
set_option maxHeartbeats 8000000 in
theorem graphSets_at {H : Heap} {v : V} {L : List GI} (hL : GisAt H v L) (hcap : ∃ a n cap z, v = .sl a n cap z /\ n <= cap) (n : Nat) (hn : n < 18446744073709551616) :
  Ev.Ok (D X (.fn 10 []) [v, .int .u64 n] H) fun y => y.1 = .bool true := by
 refine Ok.aim fun Q hQ => ?_
 have hQ' := Hid.mk hQ
 clear hQ
 have hcut := cut_at hL hcap
 obtain ⟨a0, c0, z0, rfl⟩ := hL.sl
 clear hL hcap
 (refine Ok.body body10 pin10 ?_; simp only [c10,Try.f10,Option.getD_some,nslot10,List.append_nil,List.map,List.replicate,List.length_cons,List.length_nil,Nat.reduceAdd,Nat.reduceSub,List.cons_append,List.nil_append])
 (repeat' (first | (simp -implicitDefEqProofs (maxSteps := 1000000) (disch := first | assumption | omega | (simp only [ZDI]; omega)) only [*,lenV,G10,Za,Zb,Zc,Zd,Ze,Zf,Zg,Zh,Zi,Zj,Zk,Zl,Zm,Zn,Zo,Ja,Jb,Jc,J6,Jd,Je,rd,J7,J8,Jf,Jg,Jh,Ji,Jj,Jk,J9,Jl,Jm,wr,Jn,JA,JB,Jo,Jp,Jq,Jr,Js,Jt,Ju,Jv,Jw,Jx,Jy,Jz,J0,J1,J2,J3,J4,J5,reduceCtorEq,JC,JD,JE,JF,JG,JH,JI,JJ]) | ((with_reducible (first | apply Ok.br | apply Ok.gd | apply Ok.ld)) <;> (intro g; (try simp only [ZGS] at g); try (exfalso; omega)))))
 refine Ok.bnd2 hcut fun y H1 ⟨H1', w1, L1, hy, hk1, hg1, hl1, hp1⟩ => ?_
 cases hy
 clear hcut
 have hfirst := first_at hg1 (by omega)
 obtain ⟨a1, c1, z1, rfl⟩ := hg1.sl
 (repeat' (first | (simp -implicitDefEqProofs (maxSteps := 1000000) (disch := first | assumption | omega | (simp only [ZDI]; omega)) only [*,lenV,G10,Za,Zb,Zc,Zd,Ze,Zf,Zg,Zh,Zi,Zj,Zk,Zl,Zm,Zn,Zo,Ja,Jb,Jc,J6,Jd,Je,rd,J7,J8,Jf,Jg,Jh,Ji,Jj,Jk,J9,Jl,Jm,wr,Jn,JA,JB,Jo,Jp,Jq,Jr,Js,Jt,Ju,Jv,Jw,Jx,Jy,Jz,J0,J1,J2,J3,J4,J5,reduceCtorEq,JC,JD,JE,JF,JG,JH,JI,JJ]) | ((with_reducible (first | apply Ok.br | apply Ok.gd | apply Ok.ld)) <;> (intro g; (try simp only [ZGS] at g); try (exfalso; omega)))))
 refine Ok.bnd2 hfirst fun y H2 ⟨H2', w2, hy, hk2, hg2, hv2⟩ => ?_
 cases hy
 clear hfirst
 have hd := (taken_nodup (fun _ => true) [] L1).1
 have hTp : ∀ x ∈ takenL (fun _ => true) [] L1, x.pl.length <= 30 := fun x hx => hp1 x ((taken_nodup (fun _ => true) [] L1).2 x hx).2
 have hTl : (takenL (fun _ => true) [] L1).length <= 30 := Nat.le_trans (takenL_len _ _ _) hl1
 generalize takenL (fun _ => true) [] L1 = T at hg2 hd hTp hTl hv2
 clear hk1 hg1 hl1 hp1 hk2
 have hcomp := comp_of hg2 hd hTl hTp
 have hr2 : ∀ x ∈ T, RowAt H2 x.pv x.pl := let ⟨_, _, _, _, h, _⟩ := hg2; h
 rcases hv2 with ⟨h0, rfl, _⟩ | ⟨b, g, cap, full, rfl, hb, hfl, hcap, _, hfT⟩
 rotate_left
 by_cases h0 : T.length = 0
 rotate_left
 rotate_left
 (repeat' (first | (simp -implicitDefEqProofs (maxSteps := 1000000) (disch := first | assumption | omega | (simp only [ZDI]; omega)) only [*,lenV,G10,Za,Zb,Zc,Zd,Ze,Zf,Zg,Zh,Zi,Zj,Zk,Zl,Zm,Zn,Zo,Ja,Jb,Jc,J6,Jd,Je,rd,J7,J8,Jf,Jg,Jh,Ji,Jj,Jk,J9,Jl,Jm,wr,Jn,JA,JB,Jo,Jp,Jq,Jr,Js,Jt,Ju,Jv,Jw,Jx,Jy,Jz,J0,J1,J2,J3,J4,J5,reduceCtorEq,JC,JD,JE,JF,JG,JH,JI,JJ]) | ((with_reducible (first | apply Ok.br | apply Ok.gd | apply Ok.ld)) <;> (intro g; (try simp only [ZGS] at g); try (exfalso; omega)))))
 refine Ok.bnd2 hcomp fun y H3 ⟨H3', w3, fv, cp, cs, o, ol, hy, hk3, hS, hv3, hrows⟩ => ?_
 cases hy
 clear hcomp
 have hv3' := Hid.mk hv3
 have hrows' := Hid.mk hrows
 have hS' := Hid.mk hS
 obtain ⟨a3, c3, z3, rfl⟩ := hv3.sl
 clear hv3 hrows hg2 hk3 hS hr2
 (repeat' (first | (simp -implicitDefEqProofs (maxSteps := 1000000) (disch := first | assumption | omega | (simp only [ZDI]; omega)) only [*,lenV,slops_l,slops_h,G10,Za,Zb,Zc,Zd,Ze,Zf,Zg,Zh,Zi,Zj,Zk,Zl,Zm,Zn,Zo,Ja,Jb,Jc,J6,Jd,Je,rd,J7,J8,Jf,Jg,Jh,Ji,Jj,Jk,J9,Jl,Jm,wr,Jn,JA,JB,Jo,Jp,Jq,Jr,Js,Jt,Ju,Jv,Jw,Jx,Jy,Jz,J0,J1,J2,J3,J4,J5,reduceCtorEq,JC,JD,JE,JF,JG,JH,JI,JJ]) | ((with_reducible (first | apply Ok.br | apply Ok.gd | apply Ok.ld)) <;> (intro g; (try simp only [ZGS] at g); try (exfalso; omega)))))
 have hcomp2 := comp_of (H := H3 ++ [.cells 0 true []]) (v := .sl (.at H3.length 0 0) 0 0 0) (U := T) ⟨_, _, _, by rw [h0], fun x hx => (by rw [List.length_eq_zero_iff.1 h0] at hx; cases hx), .inl (List.length_eq_zero_iff.1 h0)⟩ hd hTl hTp
 have hk4 : Keeps [] H3 (H3 ++ [.cells 0 true []]) := .app _ _ _
 have hm : ∀ x, x ∈ T ↔ x ∈ T := fun _ => Iff.rfl
 have hdU := hd
 rotate_left
 rw [h0] at hcomp
 (repeat' (first | (simp -implicitDefEqProofs (maxSteps := 1000000) (disch := first | assumption | omega | (simp only [ZDI]; omega)) only [*,lenV,G10,Za,Zb,Zc,Zd,Ze,Zf,Zg,Zh,Zi,Zj,Zk,Zl,Zm,Zn,Zo,Ja,Jb,Jc,J6,Jd,Je,rd,J7,J8,Jf,Jg,Jh,Ji,Jj,Jk,J9,Jl,Jm,wr,Jn,JA,JB,Jo,Jp,Jq,Jr,Js,Jt,Ju,Jv,Jw,Jx,Jy,Jz,J0,J1,J2,J3,J4,J5,reduceCtorEq,JC,JD,JE,JF,JG,JH,JI,JJ]) | ((with_reducible (first | apply Ok.br | apply Ok.gd | apply Ok.ld)) <;> (intro g; (try simp only [ZGS] at g); try (exfalso; omega)))))
 refine Ok.bnd2 hcomp fun y H3 ⟨H3', w3, fv, cp, cs, o, ol, hy, hk3, hS, hv3, hrows⟩ => ?_
 cases hy
 clear hcomp
 have hv3' := Hid.mk hv3
 have hrows' := Hid.mk hrows
 have hS' := Hid.mk hS
 obtain ⟨a3, c3, z3, rfl⟩ := hv3.sl
 clear hv3 hrows hg2 hk3 hS hr2
 (repeat' (first | (simp -implicitDefEqProofs (maxSteps := 1000000) (disch := first | assumption | omega | (simp only [ZDI]; omega)) only [*,lenV,slops_l,slops_h,G10,Za,Zb,Zc,Zd,Ze,Zf,Zg,Zh,Zi,Zj,Zk,Zl,Zm,Zn,Zo,Ja,Jb,Jc,J6,Jd,Je,rd,J7,J8,Jf,Jg,Jh,Ji,Jj,Jk,J9,Jl,Jm,wr,Jn,JA,JB,Jo,Jp,Jq,Jr,Js,Jt,Ju,Jv,Jw,Jx,Jy,Jz,J0,J1,J2,J3,J4,J5,reduceCtorEq,JC,JD,JE,JF,JG,JH,JI,JJ]) | ((with_reducible (first | apply Ok.br | apply Ok.gd | apply Ok.ld)) <;> (intro g; (try simp only [ZGS] at g); try (exfalso; omega)))))
 have hcomp2 := comp_of (H := H3 ++ [.cells 0 true []]) (v := .sl (.at H3.length 0 0) 0 0 0) (U := T) ⟨_, _, _, by rw [h0], fun x hx => (by rw [List.length_eq_zero_iff.1 h0] at hx; cases hx), .inl (List.length_eq_zero_iff.1 h0)⟩ hd hTl hTp
 have hk4 : Keeps [] H3 (H3 ++ [.cells 0 true []]) := .app _ _ _
 have hm : ∀ x, x ∈ T ↔ x ∈ T := fun _ => Iff.rfl
 have hdU := hd
 rotate_left
 have h0p : 0 < T.length := by omega
 have h0' : 0 < (T.length : Int) := by omega
 have g0 : ¬ (T.length : Int) = 0 := by omega
 have hwr : IntKind.u64.wrap (T.length : Int) = (T.length : Int) := u64_small' (by omega)
 have htm : (n : Int).tmod (T.length : Int) = ((n % T.length : Nat) : Int) := rfl
 have hlt : n % T.length < T.length := Nat.mod_lt _ h0p
 have hwr2 : IntKind.i64.wrap ((n % T.length : Nat) : Int) = ((n % T.length : Nat) : Int) := wrap_i64 (by omega)
 generalize n % T.length = k at htm hlt hwr2
 (repeat' (first | (simp -implicitDefEqProofs (maxSteps := 1000000) (disch := first | assumption | omega | (simp only [ZDI]; omega)) only [*,lenV,G10,Za,Zb,Zc,Zd,Ze,Zf,Zg,Zh,Zi,Zj,Zk,Zl,Zm,Zn,Zo,Ja,Jb,Jc,J6,Jd,Je,rd,J7,J8,Jf,Jg,Jh,Ji,Jj,Jk,J9,Jl,Jm,wr,Jn,JA,JB,Jo,Jp,Jq,Jr,Js,Jt,Ju,Jv,Jw,Jx,Jy,Jz,J0,J1,J2,J3,J4,J5,reduceCtorEq,JC,JD,JE,JF,JG,JH,JI,JJ]) | ((with_reducible (first | apply Ok.br | apply Ok.gd | apply Ok.ld)) <;> (intro g; (try simp only [ZGS] at g); try (exfalso; omega)))))
 refine Ok.bnd2 hcomp fun y H3 ⟨H3', w3, fv, cp, cs, o, ol, hy, hk3, hS, hv3, hrows⟩ => ?_
 cases hy
 clear hcomp
 have hb3 := hk3.cells hb (by simp)
 have hr3 : ∀ l, ∀ x ∈ T, RowAt (H3 ++ l) x.pv x.pl := fun l x hx => ((hr2 x hx).keepF hk3 (by simp)).keepF (.app [] H3 l) (by simp)
 have hr3' := Hid.mk hr3
 have hv3' := Hid.mk hv3
 have hrows' := Hid.mk hrows
 have hS' := Hid.mk hS
 obtain ⟨a3, c3, z3, rfl⟩ := hv3.sl
 clear hv3 hrows hg2 hk3 hS hr2 hr3
 have hbl := hcells_lt hb3
 have hgA : ∀ x, hcells (H3 ++ x) b g = some (true, full) := fun x => (hcells_app hbl).trans hb3
 by_cases hk0 : k = 0
 subst hk0
 have e1 := fun s => append_one (t := 31) ty31 ty42 (by decide) (by decide) rfl (b0 := H3.length) (g0 := 0) (o0 := 0) (b := b) (g := g) (o := 0) (cap := cap) (z := 16) (rw := true) (full := full) h0p (by omega) (by show 0 + T.length * 16 <= _; have := Nat.mul_le_mul_right 16 hcap; omega) s
 have e2 := fun a n0 s => append_none (t := 31) ty31 ty42 (a := a) (n0 := n0) (z0 := 16) (b := b) (g := g) (o := 0) (cap := cap) (z := 16) s
 dsimp only at e1 e2
 have hc4 : (full.drop 0).take (T.length * 16) = flG T := by rw [List.drop_zero, <- hfT]
 rw [hc4] at e1
 have hgB := hgA
 clear hfT hc4
 (repeat' (first | (simp -implicitDefEqProofs (maxSteps := 1000000) (disch := first | assumption | omega | exact hgA _ | exact hgB _ | (simp only [ZDI]; omega)) only [*,lenV,hwr,htm,hwr2,slops_l,slops_h,eq_self,G10,Za,Zb,Zc,Zd,Ze,Zf,Zg,Zh,Zi,Zj,Zk,Zl,Zm,Zn,Zo,Ja,Jb,Jc,J6,Jd,Je,rd,J7,J8,Jf,Jg,Jh,Ji,Jj,Jk,J9,Jl,Jm,wr,Jn,JA,JB,Jo,Jp,Jq,Jr,Js,Jt,Ju,Jv,Jw,hcells_push,Jy,Jz,J0,J1,J2,J3,J4,J5,reduceCtorEq,JC,JD,JE,JF,JG,JH,JI,JJ]) | ((with_reducible (first | apply Ok.br | apply Ok.gd | apply Ok.ld)) <;> (intro g; (try simp only [ZGS] at g); try (exfalso; omega)))))
 have hcomp2 := comp_of (gis_new (H := H3 ++ [.cells 0 true [], .cells 0 true (flG T)]) (b := H3.length + 1) (g := 0) (cap := T.length) (z := 16) (n := T.length) (U := T) (hr3'.out _) (by rw [hcells_ge (by omega), Nat.add_sub_cancel_left]; rfl) rfl) hd hTl hTp
 have hk4 : Keeps [] H3 (H3 ++ [.cells 0 true [], .cells 0 true (flG T)]) := .app _ _ _
 have hm : ∀ x, x ∈ T ↔ x ∈ T := fun _ => Iff.rfl
 have hdU := hd
 clear e1 e2 hgA hgB
 rotate_left
 have hk1 : 0 < k := by omega
 have hkc : k < cap := by omega
 have hkc' : (k : Int) <= (cap : Int) := by omega
 have hkl' : (k : Int) <= (T.length : Int) := by omega
 obtain ⟨m, hm⟩ : ∃ m, T.length - k = m := ⟨_, rfl⟩
 have hmul := Nat.mul_le_mul_right 16 hcap
 have hml : (flG (T.drop k)).length = m * 16 := by rw [flG_len, List.length_drop, hm]
 have e1 := fun s => append_one (t := 31) ty31 ty42 (by decide) (by decide) rfl (b0 := H3.length) (g0 := 0) (o0 := 0) (b := b) (g := g) (o := k * 16) (n := m) (cap := cap - k) (z := 16) (rw := true) (full := full) (by omega) (by omega) (by show k * 16 + m * 16 <= _; omega) s
 have e2 := fun s => append_two (t := 31) ty31 ty42 (by decide) (by decide) rfl (fun _ _ => rfl) (b0 := H3.length + 1) (g0 := 0) (n0 := m) (b := b) (g := g) (o := 0) (n := k) (cap := cap) (z := 16) (rw := true) (full := full) (c0 := flG (T.drop k)) hk1 (by omega) (by omega) (by show 0 + k * 16 <= _; omega) hml s
 dsimp only at e1 e2
 have hc4 : (full.drop (k * 16)).take (m * 16) = flG (T.drop k) := by
  rw [<- flG_drop, hfT, List.drop_take]
  congr 1; omega
 have hc5 : (full.drop 0).take (k * 16) = flG (T.take k) := by
  rw [<- flG_take, hfT, List.take_take, List.drop_zero]
  congr 1; omega
 rw [hc4] at e1
 rw [hc5] at e2
 have hgB : ∀ x, hcells (H3 ++ [x, .cells 0 true (flG (T.drop k))]) (H3.length + 1) 0 = some (true, flG (T.drop k)) := fun x => by
  rw [hcells_ge (by omega), Nat.add_sub_cancel_left]; rfl
 clear hc4 hc5 hfT
 (repeat' (first | (simp -implicitDefEqProofs (maxSteps := 1000000) (disch := first | assumption | omega | exact hgA _ | exact hgB _ | (simp only [ZDI]; omega)) only [*,lenV,hwr,htm,hwr2,slops_l,slops_h,SA.add,eq_self,G10,Za,Zb,Zc,Zd,Ze,Zf,Zg,Zh,Zi,Zj,Zk,Zl,Zm,Zn,Zo,Ja,Jb,Jc,J6,Jd,Je,rd,J7,J8,Jf,Jg,Jh,Ji,Jj,Jk,J9,Jl,Jm,wr,Jn,JA,JB,Jo,Jp,Jq,Jr,Js,Jt,Ju,Jv,Jw,hcells_push,Jy,Jz,J0,J1,J2,J3,J4,J5,reduceCtorEq,JC,JD,JE,JF,JG,JH,JI,JJ]) | ((with_reducible (first | apply Ok.br | apply Ok.gd | apply Ok.ld)) <;> (intro g; (try simp only [ZGS] at g); try (exfalso; omega)))))
 have hUm : ∀ x, x ∈ T ↔ x ∈ T.drop k ++ T.take k := fun x => by
  rw [List.mem_append, Or.comm, <- List.mem_append, List.take_append_drop]
 have hUp : List.Perm (T.drop k ++ T.take k) T := List.perm_append_comm.trans (by rw [List.take_append_drop])
 have hUd : ((T.drop k ++ T.take k).map GI.key).Nodup := (hUp.map GI.key).nodup_iff.2 hd
 have hUl : (T.drop k ++ T.take k).length = m + k := by rw [List.length_append, List.length_drop, List.length_take, hm]; omega
 have hcomp2 := comp_of (gis_new (H := H3 ++ [.cells 0 true [], .cells 1 true (flG (T.drop k) ++ flG (T.take k))]) (b := H3.length + 1) (g := 1) (cap := m + k) (z := 16) (n := m + k) (U := T.drop k ++ T.take k) (fun x hx => hr3'.out _ x ((hUm x).2 hx)) (by rw [hcells_ge (by omega), Nat.add_sub_cancel_left, flG_app]; rfl) hUl.symm) hUd (by omega) (fun x hx => hTp x ((hUm x).2 hx))
 have hk4 : Keeps [] H3 (H3 ++ [.cells 0 true [], .cells 1 true (flG (T.drop k) ++ flG (T.take k))]) := .app _ _ _
 have hm := hUm
 have hdU := hUd
 clear e1 e2 hgA hgB hml hmul hUl
 rotate_left
 all_goals
  generalize hH4 : H3 ++ _ = H4 at hcomp2 hk4 ⊢
  clear hH4
  refine Ok.bnd2 hcomp2 fun y H5 ⟨H5', w5, fv2, cp2, cs2, o2, ol2, hy, hk5, hS2, hv5, hrows2⟩ => ?_
  cases hy
  clear hcomp2
  have hsame := hS'.out.same hS2 hd hdU hm
  have htot := hS'.out.total hd
  have hrl : (rowsT T cs o).length = o.length := by unfold rowsT; rw [List.length_map]
  have hol : o2.length = o.length := by
   rw [hsame] at hrl
   unfold rowsT at hrl
   rw [List.length_map] at hrl; exact hrl
  have hne := ((hS'.out.rows hd)).ne
  have hk6 : Keeps [] H3 H5 := hk4.trans hk5
  have hv6 := hv3'.out.keep hk6 (by simp)
  have hget : ∀ i, i < o.length -> ∃ w r w2, ol[i]? = some w /\ (rowsT T cs o)[i]? = some r /\ RowAt H5 w r /\ ol2[i]? = some w2 /\ RowAt H5 w2 r := fun i hi => by
   obtain ⟨w, r, p1, p2, p3⟩ := rowsT_at hv3'.out hrows'.out hi
   obtain ⟨w2, r2, q1, q2, q3⟩ := rowsT_at hv5 hrows2 (hol ▸ hi)
   rw [<- hsame, p2] at q2
   cases q2
   exact ⟨w, r, w2, p1, p2, p3.keepF hk6 (by simp), q1, q3⟩
  rw [hol] at hv5
  clear hS' hS2 hrows2 hrows' hsame hm hdU hk4 hk5 hk6 hv3' hol
  generalize rowsT T cs o = R at htot hne hget hrl
  obtain ⟨a5, c5, z5, rfl⟩ := hv5.sl
  have hget' := Hid.mk hget
  have hne' := Hid.mk hne
  have hv5' := Hid.mk hv5
  have hv6' := Hid.mk hv6
  have hlv := D_pin (X := X) (f := 17) (b := true) rfl H5
  clear hget hne hv5 hv6
  (repeat' (first | (simp -implicitDefEqProofs (maxSteps := 1000000) (disch := first | assumption | omega | (simp only [ZDI]; omega)) only [*,lenV,eq_self,G10,Za,Zb,Zc,Zd,Ze,Zf,Zg,Zh,Zi,Zj,Zk,Zl,Zm,Zn,Zo,Ja,Jb,Jc,J6,Jd,Je,rd,J7,J8,Jf,Jg,Jh,Ji,Jj,Jk,J9,Jl,Jm,wr,Jn,JA,JB,Jo,Jp,Jq,Jr,Js,Jt,Ju,Jv,Jw,Jx,Jy,Jz,J0,J1,J2,J3,J4,J5,reduceCtorEq,JC,JD,JE,JF,JG,JH,JI,JJ]) | ((with_reducible (first | apply Ok.br | apply Ok.gd | apply Ok.ld)) <;> (intro g; (try simp only [ZGS] at g); try (exfalso; omega)))))
  refine Ok.loop [BF, BF, BF, BF, BT, BF, BF, BF, BT, BT, BF, BF, BF, BF, BF, BF, BF, BF, BF, BF, BF, BF, BF, BF, BF, BF, BF, BF, BF, BF, BF, BF, BF, BF, BF, BF, BF, BF, BF, BF, BF, BT, BT, BT, BT, BT, BT, BT, BT, BT, BT, BT, BT, BT, BT, BT, BT, BT, BT, BT, BT, BT, BT, BT, BT, BT, BT, BT, BT, BT, BF, BF, BF, BF, BF, BF, BF] (fun q s2 => ∃ (i : Nat), q = o.length - i /\ i <= o.length /\ tv s2.e 41 = .v (.int .i64 i) /\ tv s2.e 8 = .v (.int .i64 ((R.take i).flatten.length : Nat)) /\ s2.l = [] /\ s2.h = H5)
   (fun y s2 => y = .exit 0 /\ tv s2.e 8 = .v (.int .i64 (T.length : Nat)) /\ s2.l = [] /\ s2.h = H5) (o.length - 0)
   ⟨0, rfl, Nat.zero_le _, rfl, rfl, rfl, rfl⟩ ?_ ?_
  ·intro q ⟨e', l', G⟩ hW ⟨i, hq, hi, h41, h8, hl, hG⟩
   dsimp only at hW h41 h8 hl hG
   subst l' G
   rw [hW.spread]
   simp only [spread_t,spread_f,spread_n,Nat.zero_add,Nat.reduceAdd,h41,h8]
   clear hW hQ'
   by_cases hi2 : i < o.length
   ·have hi3 : (i : Int) < (o.length : Int) := by omega
    have g1 : 0 <= (i : Int) /\ (i : Int) < (o.length : Int) := by omega
    obtain ⟨w, r, w2, p1, p2, p3, p4, p5⟩ := hget'.out i hi2
    obtain ⟨b5, g5, cap5, full5, e5, hb5, hf5, hn5, _, hc5⟩ := hv5'.out.at (by omega)
    obtain ⟨b6, g6, cap6, full6, e6, hb6, hf6, hn6, _, hc6⟩ := hv6'.out.at (by omega)
    cases e5
    cases e6
    have hsm := same_at p3 p5
    rw [decide_eq_true rfl] at hsm
    obtain ⟨ra, rc, rz, rfl⟩ : ∃ a c z, w = .sl a r.length c z := let ⟨a, c, z, e, _⟩ := p3; ⟨a, c, z, e⟩
    have hr0 : ¬ r.length = 0 := fun e => hne'.out r (List.mem_of_getElem? p2) (List.length_eq_zero_iff.1 e)
    have hr1 : ¬ (r.length : Int) = 0 := by omega
    have hsum : (R.take (i + 1)).flatten.length = (R.take i).flatten.length + r.length := by
     rw [List.take_add_one, p2, List.flatten_append, List.length_append]; simp
    have hle : (R.take (i + 1)).flatten.length <= T.length := by
     rw [<- htot]
     conv => rhs; rw [<- List.take_append_drop (i + 1) R]
     rw [List.flatten_append, List.length_append]; omega
    obtain ⟨n0, hn0⟩ : ∃ n0, (R.take i).flatten.length = n0 := ⟨_, rfl⟩
    rw [hn0] at hsum
    have hw8 : IntKind.i64.wrap ((n0 : Int) + (r.length : Int)) = ((n0 + r.length : Nat) : Int) := by
     rw [wrap_i64 (by omega)]; omega
    have hsum' := Hid.mk hsum
    rw [hc6, List.getElem?_take, if_pos (by omega)] at p1
    rw [hc5, List.getElem?_take, if_pos (by omega)] at p4
    clear hsum hle p2 p3 p5 htot hc5 hc6
    (repeat' (first | (simp -implicitDefEqProofs (maxSteps := 1000000) (disch := first | assumption | omega | (simp only [ZDI]; omega)) only [*,lenV,eq_self,G10,Za,Zb,Zc,Zd,Ze,Zf,Zg,Zh,Zi,Zj,Zk,Zl,Zm,Zn,Zo,Ja,Jb,Jc,J6,Jd,Je,rd,J7,J8,Jf,Jg,Jh,Ji,Jj,Jk,J9,Jl,Jm,wr,Jn,JA,JB,Jo,Jp,Jq,Jr,Js,Jt,Ju,Jv,Jw,Jx,Jy,Jz,J0,J1,J2,J3,J4,J5,reduceCtorEq,JC,JD,JE,JF,JG,JH,JI,JJ]) | ((with_reducible (first | apply Ok.br | apply Ok.gd | apply Ok.ld)) <;> (intro g; (try simp only [ZGS] at g); try (exfalso; omega)))))
    exact Turn.next (o.length - (i + 1)) (by omega) ⟨rfl, i + 1, rfl, by omega, rfl, by rw [hsum'.out]; rfl, rfl, rfl⟩
   ·have hi3 : ¬ (i : Int) < (o.length : Int) := by omega
    have hrt : (R.take i).flatten.length = T.length := by rw [List.take_of_length_le (by omega), htot]
    rw [hrt]
    clear hrt htot
    (repeat' (first | (simp -implicitDefEqProofs (maxSteps := 1000000) (disch := first | assumption | omega | (simp only [ZDI]; omega)) only [*,lenV,G10,Za,Zb,Zc,Zd,Ze,Zf,Zg,Zh,Zi,Zj,Zk,Zl,Zm,Zn,Zo,Ja,Jb,Jc,J6,Jd,Je,rd,J7,J8,Jf,Jg,Jh,Ji,Jj,Jk,J9,Jl,Jm,wr,Jn,JA,JB,Jo,Jp,Jq,Jr,Js,Jt,Ju,Jv,Jw,Jx,Jy,Jz,J0,J1,J2,J3,J4,J5,reduceCtorEq,JC,JD,JE,JF,JG,JH,JI,JJ]) | ((with_reducible (first | apply Ok.br | apply Ok.gd | apply Ok.ld)) <;> (intro g; (try simp only [ZGS] at g); try (exfalso; omega)))))
    exact Turn.exit ⟨rfl, rfl, by first | rfl | (rw [h0]; rfl), rfl, rfl⟩
  ·intro y ⟨e', l', G⟩ hW ⟨hy, h8, hl, hG⟩
   dsimp only at hW h8 hl hG
   subst l' hy G
   rw [hW.spread]
   clear hW
   simp only [spread_t,spread_f,spread_n,Nat.zero_add,Nat.reduceAdd,h8]
   (repeat' (first | (simp -implicitDefEqProofs (maxSteps := 1000000) (disch := first | assumption | omega | (simp only [ZDI]; omega)) only [*,lenV,eq_self,G10,Za,Zb,Zc,Zd,Ze,Zf,Zg,Zh,Zi,Zj,Zk,Zl,Zm,Zn,Zo,Ja,Jb,Jc,J6,Jd,Je,rd,J7,J8,Jf,Jg,Jh,Ji,Jj,Jk,J9,Jl,Jm,wr,Jn,JA,JB,Jo,Jp,Jq,Jr,Js,Jt,Ju,Jv,Jw,Jx,Jy,Jz,J0,J1,J2,J3,J4,J5,reduceCtorEq,JC,JD,JE,JF,JG,JH,JI,JJ]) | ((with_reducible (first | apply Ok.br | apply Ok.gd | apply Ok.ld)) <;> (intro g; (try simp only [ZGS] at g); try (exfalso; omega)))))
   exact hQ'.out _ rfl
end Go.Ev
