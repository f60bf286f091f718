/-
Sorting pairs of numbers: what each part brings about.
-/
import Derived.Test.YtgkmfoljhapmiaaSortF
set_option linter.unusedSimpArgs false
set_option linter.unusedVariables false
set_option maxRecDepth 100000
namespace Go.Ev
open Go.Proofs Go.Sort
variable {fv : V} {lt : RP → RP → Bool}

/-- Heap G is H, its row at b now e, with more behind. -/
def At (H : Heap) (b g : Nat) (e : Array RP) (G : Heap) : Prop := ∃ l, G = hs (H ++ l) b g e

variable {H G : Heap} {b g n cap z : Nat} {d e : Array RP} {i0 j0 pv : Nat}

theorem At.cells (hb : b < H.length) (hG : At H b g e G) : hcells G b g = some (true, fl e) := by
  obtain ⟨l, rfl⟩ := hG
  unfold hs
  exact hcells_set_eq (by simp; omega)

theorem ins_R (hc : Cmp fv lt) (hS : SWO lt) (hb : b < H.length) (hG : At H b g e G) (hn : n ≤ e.size) (hl : e.size ≤ 1000000000) (h1 : i0 ≤ j0) (h2 : j0 ≤ n) :
    Ev.Ok (D X (.fn 48 []) [.sl (.at b g 0) n cap z, .int .i64 i0, .int .i64 j0, fv] G) fun y => ∃ G2 e2, y = (.tup [], G2) ∧ At H b g e2 G2 ∧ PermIn i0 j0 e e2 ∧ SortedIn lt i0 j0 e2 := by
  obtain ⟨l, rfl⟩ := hG
  have hb' : b < (H ++ l).length := by simp; omega
  rw [insertion_at hc hb' hn hl h1 h2]
  have := insertionSort_holds (lt := lt) hS e i0 j0 h1 (by omega)
  exact Ok.ret ⟨_, _, rfl, ⟨l, rfl⟩, this.1, this.2⟩

theorem heap_R (hc : Cmp fv lt) (hS : SWO lt) (hb : b < H.length) (hG : At H b g e G) (hn : n ≤ e.size) (hl : e.size ≤ 1000000000) (h1 : i0 < j0) (h2 : j0 ≤ n) :
    Ev.Ok (D X (.fn 49 []) [.sl (.at b g 0) n cap z, .int .i64 i0, .int .i64 j0, fv] G) fun y => ∃ G2 e2, y = (.tup [], G2) ∧ At H b g e2 G2 ∧ PermIn i0 j0 e e2 ∧ SortedIn lt i0 j0 e2 := by
  obtain ⟨l, rfl⟩ := hG
  have hb' : b < (H ++ l).length := by simp; omega
  rw [heap_at hc hb' hn hl h1 h2]
  have := heapSort_holds (lt := lt) hS e i0 j0 (by omega) (by omega)
  exact Ok.ret ⟨_, _, rfl, ⟨l, rfl⟩, this.1, this.2⟩

theorem break_R (hb : b < H.length) (hG : At H b g e G) (hn : n ≤ e.size) (hl : e.size ≤ 1000000000) (h1 : i0 + 8 ≤ j0) (h2 : j0 ≤ n) :
    Ev.Ok (D X (.fn 50 []) [.sl (.at b g 0) n cap z, .int .i64 i0, .int .i64 j0, fv] G) fun y => ∃ G2 e2, y = (.tup [], G2) ∧ At H b g e2 G2 ∧ PermIn i0 j0 e e2 := by
  obtain ⟨l, rfl⟩ := hG
  have hb' : b < (H ++ l).length := by simp; omega
  refine (break_at hb' hn hl h1 h2).mono fun y ⟨r, d2, hy, hp⟩ => ?_
  exact ⟨_, d2, hy, ⟨l ++ [Blk.cells 0 true [.int .u64 r]], by rw [List.append_assoc]⟩, hp⟩

theorem pivot_R (hc : Cmp fv lt) (hb : b < H.length) (hG : At H b g e G) (hn : n ≤ e.size) (hl : e.size ≤ 1000000000) (h1 : i0 < j0) (h2 : j0 ≤ n) :
    Ev.Ok (D X (.fn 51 []) [.sl (.at b g 0) n cap z, .int .i64 i0, .int .i64 j0, fv] G) fun y => ∃ G2 c h, y = (.tup [.int .i64 ((c : Nat) : Int), .int .i64 h], G2) ∧ At H b g e G2 ∧ (i0 ≤ c ∧ c < j0) ∧ (h = 0 ∨ h = 1 ∨ h = 2) := by
  obtain ⟨l, rfl⟩ := hG
  have hb' : b < (H ++ l).length := by simp; omega
  refine (pivot_at hc hb' hn hl h1 h2).mono fun y ⟨t, hy⟩ => ?_
  refine ⟨_, _, _, hy, ⟨l ++ [Blk.cells 0 true [.int .i64 t]], by rw [List.append_assoc]⟩, choosePivot_holds lt e i0 j0 h1, ?_⟩
  cases (choosePivot lt e i0 j0).2 with
  | unknown => exact .inl rfl
  | increasing => exact .inr (.inl rfl)
  | decreasing => exact .inr (.inr rfl)

theorem reverse_R (hb : b < H.length) (hG : At H b g e G) (hn : n ≤ e.size) (hl : e.size ≤ 1000000000) (h1 : i0 < j0) (h2 : j0 ≤ n) :
    Ev.Ok (D X (.fn 52 []) [.sl (.at b g 0) n cap z, .int .i64 i0, .int .i64 j0, fv] G) fun y => ∃ G2 e2, y = (.tup [], G2) ∧ At H b g e2 G2 ∧ PermIn i0 j0 e e2 := by
  obtain ⟨l, rfl⟩ := hG
  have hb' : b < (H ++ l).length := by simp; omega
  rw [reverse_at hb' hn hl h1 h2]
  exact Ok.ret ⟨_, _, rfl, ⟨l, rfl⟩, reverseRange_holds e i0 j0 (by omega) (by omega)⟩

theorem partIns_R (hc : Cmp fv lt) (hS : SWO lt) (hb : b < H.length) (hG : At H b g e G) (hn : n ≤ e.size) (hl : e.size ≤ 1000000000) (h1 : i0 < j0) (h2 : j0 ≤ n) (hB : Below lt i0 j0 e) :
    Ev.Ok (D X (.fn 53 []) [.sl (.at b g 0) n cap z, .int .i64 i0, .int .i64 j0, fv] G) fun y => ∃ G2 e2 r, y = (.bool r, G2) ∧ At H b g e2 G2 ∧ PermIn i0 j0 e e2 ∧ (r = true → SortedIn lt i0 j0 e2) := by
  obtain ⟨l, rfl⟩ := hG
  have hb' : b < (H ++ l).length := by simp; omega
  rw [partIns_at hc hb' hn hl h1 h2]
  have := partialInsertionSort_holds (lt := lt) hS e i0 j0 h1 (by omega) hB
  exact Ok.ret ⟨_, _, _, rfl, ⟨l, rfl⟩, this.1, this.2⟩

theorem partEq_R (hc : Cmp fv lt) (hS : SWO lt) (hb : b < H.length) (hG : At H b g e G) (hn : n ≤ e.size) (hl : e.size ≤ 1000000000) (h1 : i0 ≤ pv) (h2 : pv < j0) (h3 : j0 ≤ n) (h0 : 0 < i0) (hB : Below lt i0 j0 e) (hx : lt e[i0 - 1]! e[pv]! = false) :
    Ev.Ok (D X (.fn 54 []) [.sl (.at b g 0) n cap z, .int .i64 i0, .int .i64 j0, .int .i64 pv, fv] G) fun y => ∃ G2 e2 mid, y = (.int .i64 ((mid : Nat) : Int), G2) ∧ At H b g e2 G2 ∧ (i0 < mid ∧ mid ≤ j0) ∧ e2.size = e.size ∧ Below lt mid j0 e2 ∧ ∀ R, PermIn mid j0 e2 R → SortedIn lt mid j0 R → PermIn i0 j0 e R ∧ SortedIn lt i0 j0 R := by
  obtain ⟨l, rfl⟩ := hG
  have hb' : b < (H ++ l).length := by simp; omega
  rw [partEq_at hc hb' hn hl h1 h2 h3]
  have := round_eq hS (partitionEqual_holds lt) h0 h1 h2 (by omega) hB hx (mid := (partitionEqual lt e i0 j0 pv).1) (d4 := (partitionEqual lt e i0 j0 pv).2) rfl
  exact Ok.ret ⟨_, _, _, rfl, ⟨l, rfl⟩, ⟨this.1, this.2.1⟩, this.2.2⟩

theorem part_R (hc : Cmp fv lt) (hS : SWO lt) (hb : b < H.length) (hG : At H b g e G) (hn : n ≤ e.size) (hl : e.size ≤ 1000000000) (h1 : i0 ≤ pv) (h2 : pv < j0) (h3 : j0 ≤ n) (hB : Below lt i0 j0 e) :
    Ev.Ok (D X (.fn 55 []) [.sl (.at b g 0) n cap z, .int .i64 i0, .int .i64 j0, .int .i64 pv, fv] G) fun y => ∃ G2 e2 mid ap, y = (.tup [.int .i64 ((mid : Nat) : Int), .bool ap], G2) ∧ At H b g e2 G2 ∧ (i0 ≤ mid ∧ mid < j0) ∧ e2.size = e.size ∧ Below lt i0 mid e2 ∧ Below lt (mid + 1) j0 e2 ∧
      (∀ L, PermIn i0 mid e2 L → SortedIn lt i0 mid L → Below lt (mid + 1) j0 L ∧ ∀ R, PermIn (mid + 1) j0 L R → SortedIn lt (mid + 1) j0 R → PermIn i0 j0 e R ∧ SortedIn lt i0 j0 R) ∧
      (∀ L, PermIn (mid + 1) j0 e2 L → SortedIn lt (mid + 1) j0 L → Below lt i0 mid L ∧ ∀ R, PermIn i0 mid L R → SortedIn lt i0 mid R → PermIn i0 j0 e R ∧ SortedIn lt i0 j0 R) := by
  obtain ⟨l, rfl⟩ := hG
  have hb' : b < (H ++ l).length := by simp; omega
  rw [part_at hc hb' hn hl h1 h2 h3]
  have := round_part hS (partition_holds lt) h1 h2 (by omega) hB (mid := (partition lt e i0 j0 pv).1) (ap := (partition lt e i0 j0 pv).2.1) (d4 := (partition lt e i0 j0 pv).2.2) rfl
  exact Ok.ret ⟨_, _, _, _, rfl, ⟨l, rfl⟩, ⟨this.1, this.2.1⟩, this.2.2⟩

/-- What the loop keeps. -/
structure Rnd (lt : RP → RP → Bool) (n i0 j0 : Nat) (d : Array RP) (a b : Nat) (e : Array RP) : Prop where
  le : a ≤ b
  to : b ≤ n
  sz : e.size = d.size
  bel : Below lt a b e
  fin : ∀ R, PermIn a b e R → SortedIn lt a b R → PermIn i0 j0 d R ∧ SortedIn lt i0 j0 R
theorem Rnd.perm {a c : Nat} {e2 : Array RP} (h : Rnd lt n i0 j0 d a c e) (hn : n ≤ d.size) (hp : PermIn a c e e2) : Rnd lt n i0 j0 d a c e2 :=
  ⟨h.le, h.to, by rw [hp.1]; exact h.sz, h.bel.perm (by have := h.to; have := h.sz; omega) hp, fun R hR hs => h.fin R (permIn_trans _ _ _ _ _ hp hR) hs⟩
end Go.Ev
