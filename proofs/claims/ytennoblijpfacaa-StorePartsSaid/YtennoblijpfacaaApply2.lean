/-
Store.Apply: its loop, and all of it.
-/
import Derived.Test.YtennoblijpfacaaApply
set_option linter.unusedSimpArgs false
set_option linter.unusedVariables false
set_option maxRecDepth 100000
namespace Go.Ev
open Go.Proofs

/-- A store behind the blocks f to m of a command. -/
def Sto.to (s : Sto) (o c q f m : Int) (l : List ByteArray) : Sto :=
  { s with
    txt := fun j => if (o = 2 ∨ o = 3) ∧ f ≤ s.a + j ∧ s.a + j < m ∧ s.mrk j c.toNat < q then (if o = 2 then l.getD (s.a + j - f).toNat ⟨#[]⟩ else ⟨#[]⟩) else s.txt j
    mrk := fun j k => if (o = 2 ∨ o = 3) ∧ f ≤ s.a + j ∧ s.a + j < m ∧ s.mrk j c.toNat < q ∧ k = c.toNat then q else s.mrk j k }

theorem Sto.ext' {s s' : Sto} (h1 : s.a = s'.a) (h2 : s.b = s'.b) (h3 : s.fz = s'.fz) (h4 : ∀ j, s.txt j = s'.txt j) (h5 : ∀ j k, s.mrk j k = s'.mrk j k) : s = s' := by
  obtain ⟨a, b, fz, t, m⟩ := s
  obtain ⟨a', b', fz', t', m'⟩ := s'
  simp only at h1 h2 h3 h4 h5
  subst h1 h2 h3
  congr
  · funext j; exact h4 j
  · funext j k; exact h5 j k

theorem Sto.to_start (s : Sto) (o c q f : Int) (l : List ByteArray) : s.to o c q f f l = s := by
  refine Sto.ext' rfl rfl rfl (fun j => ?_) (fun j k => ?_)
  · exact if_neg (by omega)
  · exact if_neg (by omega)

theorem Sto.to_look (s : Sto) {o : Int} (ho : ¬ (o = 2 ∨ o = 3)) (c q f m m' : Int) (l : List ByteArray) : s.to o c q f m l = s.to o c q f m' l := by
  refine Sto.ext' rfl rfl rfl (fun j => ?_) (fun j k => ?_)
  · show ite _ _ _ = ite _ _ _
    rw [if_neg (by omega), if_neg (by omega)]
  · show ite _ _ _ = ite _ _ _
    rw [if_neg (by omega), if_neg (by omega)]

theorem ite_iff {α : Type} {P Q : Prop} [Decidable P] [Decidable Q] {a b c d : α} (h : P ↔ Q) (h1 : a = c) (h2 : b = d) : ite P a b = ite Q c d := by subst h1 h2; by_cases hp : P <;> simp [hp, h.symm]

theorem Sto.to_old (s : Sto) {o c q f m : Int} (l : List ByteArray) (ha : s.a ≤ m) (hm : q ≤ s.mrk (m - s.a).toNat c.toNat) : s.to o c q f (m + 1) l = s.to o c q f m l := by
  have key : ∀ j : Nat, (s.a + j < m + 1 ∧ s.mrk j c.toNat < q) ↔ (s.a + j < m ∧ s.mrk j c.toNat < q) := by
    intro j
    constructor
    · intro ⟨h1, h2⟩
      refine ⟨?_, h2⟩
      by_cases e : s.a + j = m
      · have : (m - s.a).toNat = j := by omega
        rw [this] at hm; omega
      · omega
    · intro ⟨h1, h2⟩; exact ⟨by omega, h2⟩
  refine Sto.ext' rfl rfl rfl (fun j => ?_) (fun j k => ?_)
  · exact ite_iff (by have := key j; omega) rfl rfl
  · exact ite_iff (by have := key j; omega) rfl rfl

theorem Sto.to_new (s : Sto) {o c q f m : Int} (l : List ByteArray) (ho : o = 2 ∨ o = 3) (hf : f ≤ m) (ha : s.a ≤ m) (hm : s.mrk (m - s.a).toNat c.toNat < q) :
    s.to o c q f (m + 1) l = (s.to o c q f m l).upd (m - s.a).toNat c.toNat (if o = 2 then l.getD (m - f).toNat ⟨#[]⟩ else ⟨#[]⟩) q := by
  refine Sto.ext' rfl rfl rfl (fun j => ?_) (fun j k => ?_)
  · show ite _ _ _ = ite _ _ (ite _ _ _)
    by_cases e : j = (m - s.a).toNat
    · subst e
      rw [if_pos rfl, if_pos ⟨ho, by omega, by omega, hm⟩, show s.a + ((m - s.a).toNat : Int) - f = m - f by omega]
    · rw [if_neg e]
      exact ite_iff (by omega) rfl rfl
  · show ite _ _ _ = ite _ _ (ite _ _ _)
    by_cases e : j = (m - s.a).toNat ∧ k = c.toNat
    · obtain ⟨rfl, rfl⟩ := e
      have h1 : (o = 2 ∨ o = 3) ∧ f ≤ s.a + ((m - s.a).toNat : Int) ∧ s.a + ((m - s.a).toNat : Int) < m + 1 ∧ s.mrk (m - s.a).toNat c.toNat < q ∧ c.toNat = c.toNat := ⟨ho, by omega, by omega, hm, rfl⟩
      rw [if_pos h1, if_pos ⟨rfl, rfl⟩]
    · rw [if_neg e]
      exact ite_iff (by omega) rfl rfl

/-- What a command reads of the blocks f to m. -/
def Sto.data (s : Sto) (o f m : Int) : List ByteArray := if o = 1 then (List.range (m - f).toNat).map fun i => s.txt ((f - s.a).toNat + i) else []

theorem Sto.data_next (s : Sto) {f m : Int} (h1 : s.a ≤ f) (h2 : f ≤ m) : s.data 1 f (m + 1) = s.data 1 f m ++ [s.txt (m - s.a).toNat] := by
  unfold Sto.data
  rw [if_pos rfl, if_pos rfl, show (m + 1 - f).toNat = (m - f).toNat + 1 by omega, List.range_succ, List.map_append]
  congr 2
  simp only [List.map_cons, List.map_nil]
  rw [show (f - s.a).toNat + (m - f).toNat = (m - s.a).toNat by omega]

/-- A reply's texts in memory: in a block from lo on. -/
def DataAt (H : Heap) (dv : V) (l : List ByteArray) (lo : Nat) : Prop :=
  (l = [] ∧ dv = .sl .nil 0 0 0) ∨ ∃ db dg, dv = .sl (.at db dg 0) l.length l.length 1 ∧ hcells H db dg = some (true, l.map .str) ∧ lo ≤ db

theorem DataAt.keeps {F : List Nat} {H H' : Heap} {dv : V} {l : List ByteArray} {lo : Nat} (h : DataAt H dv l lo) (k : Keeps F H H') (hF : ∀ i ∈ F, i < lo) : DataAt H' dv l lo := by
  rcases h with h | ⟨db, dg, h1, h2, h3⟩
  · exact .inl h
  · exact .inr ⟨db, dg, h1, k.cells h2 (fun hm => by have := hF _ hm; omega), h3⟩

/-- A slice's block is none of these. -/
def Away (F : List Nat) (v : V) : Prop := match v with | .sl (.at b _ _) _ _ _ => b ∉ F | _ => True

theorem StrsAt.keeps {F : List Nat} {h h' : Heap} {v : V} {l : List ByteArray} (hs : StrsAt h v l) (k : Keeps F h h') (ha : l ≠ [] → Away F v) : StrsAt h' v l := by
  obtain ⟨a, cap, z, rfl, h1, h2, h3⟩ := hs
  refine ⟨a, cap, z, rfl, h1, h2, ?_⟩
  by_cases hl : l = []
  · exact .inl hl
  · rcases h3 with h3 | ⟨b, g, o, rw, full, rfl, hb, hf⟩
    · exact absurd h3 hl
    · exact .inr ⟨b, g, o, rw, full, rfl, k.cells hb (ha hl), hf⟩

theorem Sto.to_mrk (s : Sto) {o c q f m : Int} (l : List ByteArray) (ha : s.a ≤ m) (k : Nat) : (s.to o c q f m l).mrk (m - s.a).toNat k = s.mrk (m - s.a).toNat k := if_neg (by omega)

structure ApplyInv (H : Heap) (p cb g L : Nat) (s : Sto) (r : LoopR) (o c q f t : Int) (v : V) (x2 : Nat × List V) (l : List ByteArray) (i : Int) (H' : Heap) : Prop where
  st : StoreAt H' p cb g (s.to o c q f i l)
  rc : ∃ dv x4, loopAt H' L = some { r with l := [(1, [.ptr p 0 0]), (1, cmdV o c q f t v), x2, (1, [.bool true, dv]), x4] } ∧ DataAt H' dv (s.data o f i) H.length
  kp : Keeps [cb, L] H H'

section
variable {H : Heap} {p cb g L : Nat} {s : Sto} {r : LoopR} {o c q f t : Int} {v : V} {x2 : Nat × List V} {l : List ByteArray}

theorem inv_read (hL : loopAt H L = some r) (hr : ApplyRec r) (hp : p ≠ L) (hc : cb ≠ L) (hpl : p < H.length) (hcl : cb < H.length) (hf : s.a ≤ f) (ht : t ≤ s.b) (ht16 : t - f ≤ 16) {i : Int} {H' : Heap} (hi1 : f ≤ i) (hi2 : i < t) (h : ApplyInv H p cb g L s r 1 c q f t v x2 l i H') :
    Ev.Ok (D X (.yld L) [.int .i64 i] H') fun y => ∃ H2, y = (.bool true, H2) ∧ ApplyInv H p cb g L s r 1 c q f t v x2 l (i + 1) H2 := by
  obtain ⟨hst, ⟨dv, x4, hrec, hda⟩, hk⟩ := h
  have hr' : ApplyRec { r with l := [(1, [.ptr p 0 0]), (1, cmdV 1 c q f t v), x2, (1, [.bool true, dv]), x4] } := ⟨hr.state, hr.pending, hr.fn, hr.params, hr.code, hr.lent, hr.len, hr.t2, hr.t3, hr.t6⟩
  have e1 := Sto.to_look s (o := 1) (by omega) c q f i (i + 1) l
  have e2 := Sto.to_look s (o := 1) (by omega) c q f i f l
  rw [Sto.to_start] at e2
  have e3 := e1.symm.trans e2
  rw [e2] at hst
  have hLl := loopAt_lt hL
  have hLl' := Nat.lt_of_lt_of_le hLl hk.1
  have hdn := Sto.data_next s (m := i) hf hi1
  rcases hda with ⟨hd1, rfl⟩ | ⟨db, dg, rfl, hd2, hd3⟩
  · obtain ⟨k4, y4⟩ := x4
    have hrd := read_nil hst hrec hr' rfl hp hc (i := i) (by omega) (by omega)
    refine ⟨_, hrd, _, rfl, ?_, ⟨.sl (.at H'.length 0 0) 1 1 1, (k4 + 1, [.str (s.txt (i - s.a).toNat)]), ?_, .inr ⟨H'.length, 0, ?_, ?_, hk.1⟩⟩, ?_⟩
    · rw [e3]
      exact hst.keeps (F := [L]) ((Keeps.set (.refl _ _) (.inl (by simp)) _).snoc _) (by simp [hp]) (by simp [hc])
    · rw [loopAt_app (by simpa using hLl'), loopAt_set_eq hLl']
    · rw [hdn, hd1]; rfl
    · rw [hdn, hd1, hcells_ge (by simp)]
      simp only [List.length_set, Nat.sub_self]
      exact grd_t rfl _
    · exact hk.trans ((Keeps.set (.refl _ _) (.inl (by simp)) _).snoc _)
  · obtain ⟨k4, y4⟩ := x4
    have hdL : db ≠ L := by omega
    have hrd := read_more hst hrec hr' rfl hp hc (i := i) (by omega) (by omega) hd2 (by simp) (by simp only [Sto.data, if_true, List.length_map, List.length_range]; omega) hdL
    have hdl := hcells_lt hd2
    have hdcb : db ≠ cb := by omega
    have hdp : db ≠ p := by omega
    refine ⟨_, hrd, _, rfl, ?_, ⟨.sl (.at db (dg + 1) 0) ((s.data 1 f i).length + 1) ((s.data 1 f i).length + 1) 1, (k4 + 1, [.str (s.txt (i - s.a).toNat)]), ?_, .inr ⟨db, dg + 1, ?_, ?_, hd3⟩⟩, ?_⟩
    · rw [e3]
      exact hst.keeps (F := [L, db]) (((Keeps.set (.refl _ _) (.inl (by simp)) _).set (.inl (by simp)) _).set (.inl (by simp)) _) (by simp [hp, Ne.symm hdp]) (by simp [hc, Ne.symm hdcb])
    · rw [loopAt_set_eq (by simpa using hLl')]
    · rw [hdn]; simp
    · rw [hdn, hcells_set_ne hdL, hcells_set_eq (by simpa using hdl)]; simp
    · exact hk.wide (G := [L, db]) (((Keeps.set (.refl _ _) (.inl (by simp)) _).set (.inl (by simp)) _).set (.inl (by simp)) _) (fun j hj hlt => by simp at hj ⊢; omega)

theorem data_off {o : Int} (ho : ¬ o = 1) (f m m' : Int) : s.data o f m = s.data o f m' := by
  unfold Sto.data; rw [if_neg ho, if_neg ho]

theorem inv_flush (hr : ApplyRec r) (hp : p ≠ L) (hc : cb ≠ L) (hf : s.a ≤ f) (ht : t ≤ s.b) {i : Int} {H' : Heap} (hi1 : f ≤ i) (hi2 : i < t) (h : ApplyInv H p cb g L s r 4 c q f t v x2 l i H') :
    Ev.Ok (D X (.yld L) [.int .i64 i] H') fun y => ∃ H2, y = (.bool true, H2) ∧ ApplyInv H p cb g L s r 4 c q f t v x2 l (i + 1) H2 := by
  obtain ⟨hst, ⟨dv, x4, hrec, hda⟩, hk⟩ := h
  have hr' : ApplyRec { r with l := [(1, [.ptr p 0 0]), (1, cmdV 4 c q f t v), x2, (1, [.bool true, dv]), x4] } := ⟨hr.state, hr.pending, hr.fn, hr.params, hr.code, hr.lent, hr.len, hr.t2, hr.t3, hr.t6⟩
  have hrd := flush_round hst hrec hr' rfl hp hc (i := i) (by show s.a ≤ i; omega) (by show i < s.b; omega)
  refine ⟨_, hrd, H', rfl, ?_, ⟨dv, x4, hrec, ?_⟩, hk⟩
  · rw [Sto.to_look s (o := 4) (by omega) c q f (i + 1) i l]; exact hst
  · rw [data_off (by omega) f (i + 1) i]; exact hda

theorem inv_put (ho : o = 2 ∨ o = 3) (hL : loopAt H L = some r) (hr : ApplyRec r) (hp : p ≠ L) (hc : cb ≠ L) (hcl : cb < H.length) (hc4 : 0 ≤ c ∧ c < 4) (h0 : 0 ≤ f) (hf : s.a ≤ f) (ht : t ≤ s.b)
    (hv : StrsAt H v l) (hva : l ≠ [] → Away [cb, L] v) (hlen : o = 2 → (l.length : Int) = t - f) {i : Int} {H' : Heap} (hi1 : f ≤ i) (hi2 : i < t) (h : ApplyInv H p cb g L s r o c q f t v x2 l i H') :
    Ev.Ok (D X (.yld L) [.int .i64 i] H') fun y => ∃ H2, y = (.bool true, H2) ∧ ApplyInv H p cb g L s r o c q f t v x2 l (i + 1) H2 := by
  obtain ⟨hst, ⟨dv, x4, hrec, hda⟩, hk⟩ := h
  have hr' : ApplyRec { r with l := [(1, [.ptr p 0 0]), (1, cmdV o c q f t v), x2, (1, [.bool true, dv]), x4] } := ⟨hr.state, hr.pending, hr.fn, hr.params, hr.code, hr.lent, hr.len, hr.t2, hr.t3, hr.t6⟩
  have hmk := Sto.to_mrk s (o := o) (c := c) (q := q) (f := f) (m := i) l (by omega) c.toNat
  have hla := Nat.lt_of_lt_of_le hcl hk.1
  by_cases hm : s.mrk (i - s.a).toNat c.toNat < q
  · have fin : ∀ H2, StoreAt H2 p cb g ((s.to o c q f i l).upd (i - s.a).toNat c.toNat (if o = 2 then l.getD (i - f).toNat ⟨#[]⟩ else ⟨#[]⟩) q) → loopAt H2 L = some { r with l := [(1, [.ptr p 0 0]), (1, cmdV o c q f t v), x2, (1, [.bool true, dv]), x4] } → Keeps [cb] H' H2 → ApplyInv H p cb g L s r o c q f t v x2 l (i + 1) H2 := by
      intro H2 w1 w2 w3
      refine ⟨?_, ⟨dv, x4, w2, ?_⟩, hk.trans (w3.mono fun b _ hb => by simp at hb ⊢; exact .inl hb)⟩
      · rw [Sto.to_new s l ho hi1 (by omega) hm]; exact w1
      · rw [data_off (by omega) f (i + 1) i]; exact hda.keeps w3 (by simpa using hcl)
    rcases ho with rfl | rfl
    · have hv' := hv.keeps hk hva
      obtain ⟨a, cap, z, rfl, _, _, hx⟩ := hv'
      have hln := hlen rfl
      rcases hx with rfl | ⟨b', g', o', rw', full', rfl, hb, hfull⟩
      · simp at hln; omega
      · have hij : (i - f).toNat < l.length := by omega
        have hx1 := hfull (i - f).toNat l[(i - f).toNat] (List.getElem?_eq_getElem hij)
        have hgd : l.getD (i - f).toNat ⟨#[]⟩ = l[(i - f).toNat] := by simp [List.getD, hij]
        have hbF : b' ≠ cb ∧ b' ≠ L := by simpa [Away] using hva (by rintro rfl; simp at hij)
        obtain ⟨y, ey, H2, rfl, w1, w2, w3⟩ := write_round hst hrec hr' rfl hp hc (i := i) (by show s.a ≤ i; omega) (by show i < s.b; omega) hc4 (by rw [show (s.to 2 c q f i l).a = s.a from rfl, hmk]; exact hm) rfl hb hbF.2 hbF.1 (by omega) h0 hx1
        refine ⟨_, ey, H2, rfl, fin H2 ?_ w2 w3⟩
        rw [if_pos rfl, hgd]; exact w1
    · obtain ⟨y, ey, H2, rfl, w1, w2, w3⟩ := trim_round hst hrec hr' rfl hp hc (i := i) (by show s.a ≤ i; omega) (by show i < s.b; omega) hc4 (by rw [show (s.to 3 c q f i l).a = s.a from rfl, hmk]; exact hm)
      refine ⟨_, ey, H2, rfl, fin H2 ?_ w2 w3⟩
      rw [if_neg (by omega)]; exact w1
  · have hrd := old_round hst hrec hr' ho rfl hp hc (i := i) (by show s.a ≤ i; omega) (by show i < s.b; omega) hc4 (by rw [show (s.to o c q f i l).a = s.a from rfl, hmk]; omega)
    refine ⟨_, hrd, H', rfl, ?_, ⟨dv, x4, hrec, ?_⟩, hk⟩
    · rw [Sto.to_old s l (by omega) (by omega)]; exact hst
    · rw [data_off (by omega) f (i + 1) i]; exact hda

theorem DataAt.strs {H : Heap} {dv : V} {l : List ByteArray} {lo : Nat} (h : DataAt H dv l lo) (h2 : l.length ≤ 9223372036854775807) : StrsAt H dv l := by
  rcases h with ⟨rfl, rfl⟩ | ⟨db, dg, rfl, h3, _⟩
  · exact ⟨_, _, _, rfl, h2, trivial, .inl rfl⟩
  · refine ⟨_, _, _, rfl, h2, trivial, .inr ⟨db, dg, 0, true, _, rfl, h3, fun i s hi => ?_⟩⟩
    rw [Nat.zero_add, List.getElem?_map, hi]; rfl
theorem DataAt.away {H : Heap} {dv : V} {l : List ByteArray} {lo : Nat} (h : DataAt H dv l lo) {F : List Nat} (hF : ∀ i ∈ F, i < lo) (hne : l ≠ []) : Away F dv := by
  rcases h with ⟨rfl, rfl⟩ | ⟨db, dg, rfl, h3, h4⟩
  · exact absurd rfl hne
  · intro hm; have := hF _ hm; omega
theorem apply_loop {pb sb : Nat} (hs : StoreAt H p cb g s) (hL : loopAt H L = some r) (hr : ApplyRec r)
    (hl : r.l = [(1, [.ptr p 0 0]), (1, cmdV o c q f t v), x2, (1, [.bool true, .sl .nil 0 0 0]), (0, [])])
    (hv : StrsAt H v l) (hva : l ≠ [] → Away [cb, L] v) (hp : p ≠ L) (hc : cb ≠ L) (ho : 1 ≤ o ∧ o ≤ 4) (hc4 : 0 ≤ c ∧ c < 4) (hf : s.a ≤ f) (hft : f < t) (ht : t ≤ s.b) (ht16 : t - f ≤ 16) (hlen : o = 2 → (l.length : Int) = t - f)
    (h1 : hcells H pb 0 = some (true, [.sl (.at sb 0 0) 1 1 2])) (h2 : hcells H sb 0 = some (true, [.int .i64 f, .int .i64 t])) (hpb : pb ∉ [cb, L]) (hsb : sb ∉ [cb, L]) :
    Ev.Ok (D X (.fn 80 [.ptr pb 0 0]) [.yld L] H) fun y => ∃ H', y = (.tup [], H') ∧ ApplyInv H p cb g L s r o c q f t v x2 l t H' := by
  have hok : s.Ok := by obtain ⟨_, _, _, _, _, _, _, h⟩ := hs; exact h.toOk
  have hpl := (StoreAt.lt hs).1
  have hcl := (StoreAt.lt hs).2
  have g0 := hok.h0
  have g1 := hok.h2
  refine iter_1 (pb := pb) (sb := sb) (L := L) (f := f) (t := t) (ApplyInv H p cb g L s r o c q f t v x2 l)
      hft (by omega) (by omega) (fun i H' h => ⟨h.kp.cells h1 hpb, h.kp.cells h2 hsb⟩) (fun i H' hi1 hi2 h => ?_) (H0 := H) ⟨?_, ⟨.sl .nil 0 0 0, (0, []), ?_, .inl ⟨?_, rfl⟩⟩, .refl _ _⟩
  · by_cases o1 : o = 1
    · subst o1
      exact inv_read hL hr hp hc hpl hcl hf ht ht16 hi1 hi2 h
    · by_cases o4 : o = 4
      · subst o4
        exact inv_flush hr hp hc hf ht hi1 hi2 h
      · exact inv_put (by omega) hL hr hp hc hcl hc4 (by omega) hf ht hv hva hlen hi1 hi2 h
  · rw [Sto.to_start]; exact hs
  · rw [hL, ← hl]
  · unfold Sto.data; split <;> simp
end
end Go.Ev
