/-
Arguments of this seat's types, opened.
-/
import Derived.Test.YtennoblijpfacaaArg
import Derived.Test.YtennoblijpfacaaWp2
import Derived.Test.YtennoblijpfacaaFns
import Derived.Test.YtennoblijpfacaaTys
set_option linter.unusedSimpArgs false
set_option linter.unusedVariables false
set_option maxRecDepth 100000
namespace Go.Ev
open Go.Proofs

def In64 (n : Int) : Prop := -9223372036854775808 ≤ n ∧ n ≤ 9223372036854775807

theorem in64_of {i : Int} (h : (Lit.int .i64 i).wf = true) : In64 i := by
  simp only [Lit.wf, IntKind.min, IntKind.max, IntKind.signed, IntKind.bits] at h
  simp at h
  unfold In64
  omega

theorem fits_int {h : Heap} {d : Nat} {cs : List V} (hf : Fits X.ty h (d + 1) 3 cs) : ∃ i, cs = [.int .i64 i] ∧ In64 i := by
  unfold Fits at hf
  rw [ty3] at hf
  obtain ⟨i, rfl, h1⟩ := hf
  exact ⟨i, rfl, in64_of h1⟩

/-- A slice's elements, z cells each. -/
def SlAt (h : Heap) (v : V) (z : Nat) (cs : List V) : Prop :=
  ∃ a len cap y, v = .sl a len cap y ∧ cs.length = len * z ∧ (len = 0 ∨ ∃ b g o rw full, a = .at b g o ∧ hcells h b g = some (rw, full) ∧ ∀ j, j < len * z → full[o + j]? = cs[j]?)

/-- A slice of strings that came in. -/
def Strs (h : Heap) (v : V) (l : List ByteArray) : Prop :=
  (∀ s ∈ l, s.size ≤ 9223372036854775807) ∧ l.length ≤ 9223372036854775807 ∧ ((v = .sl .nil 0 0 0 ∧ l = []) ∨ (v = .sl .any 0 0 1 ∧ l = []) ∨ ∃ b cap full, v = .sl (.at b 0 0) l.length cap 0 ∧ l.length ≤ cap ∧ cap ≤ 9223372036854775807 ∧ h[b]? = some (.cells 0 false full) ∧ full.length = cap ∧ ∀ (i : Nat) (s : ByteArray), l[i]? = some s → full[i]? = some (V.str s))

theorem fits_strs {h : Heap} {d : Nat} {cs : List V} (hf : Fits X.ty h (d + 2) 22 cs) : ∃ v l, cs = [v] ∧ Strs h v l := by
  unfold Fits at hf
  rw [ty22] at hf
  have hmax : maxLen = 9223372036854775807 := by decide
  rw [hmax] at hf
  rcases hf with rfl | rfl | ⟨b, len, cap, full, rfl, h1, h2, h3, h4, h5, h6⟩
  · exact ⟨_, [], rfl, by simp, by decide, .inl ⟨rfl, rfl⟩⟩
  · exact ⟨_, [], rfl, by simp, by decide, .inr (.inl ⟨rfl, rfl⟩)⟩
  · have hsz : (X.ty 9).size = 1 := by rw [ty9]
    rw [hsz] at h5 h6
    have hs : ∀ i, i < cap → ∃ s : ByteArray, full[i]? = some (V.str s) ∧ s.size ≤ 9223372036854775807 := by
      intro i hi
      have h7 := h6 i hi
      unfold Fits at h7
      rw [ty9] at h7
      rw [hmax] at h7
      obtain ⟨s, h8, h9⟩ := h7
      refine ⟨s, ?_, h9⟩
      have := congrArg (fun l => l[0]?) h8
      simpa using this
    let g : Nat → ByteArray := fun i => match full[i]? with | some (.str s) => s | _ => .empty
    have hg : ∀ i, i < cap → full[i]? = some (V.str (g i)) ∧ (g i).size ≤ 9223372036854775807 := by
      intro i hi
      obtain ⟨s, h7, h8⟩ := hs i hi
      simp only [g, h7]
      exact ⟨trivial, h8⟩
    refine ⟨_, (List.range len).map g, rfl, ?_, by rw [List.length_map, List.length_range]; omega, .inr (.inr ⟨b, cap, full, by simp, by simpa using h2, h3, h4, by simpa using h5, ?_⟩)⟩
    · intro s hm
      obtain ⟨i, hi, rfl⟩ := List.mem_map.1 hm
      have := List.mem_range.1 hi
      exact (hg i (by omega)).2
    · intro i s hi
      rw [List.getElem?_map] at hi
      cases hr : (List.range len)[i]? with
      | none => rw [hr] at hi; cases hi
      | some j =>
        rw [hr] at hi
        have hj : i < len := by have := (List.getElem?_eq_some_iff.1 hr).1; simpa using this
        have : j = i := by rw [List.getElem?_range hj] at hr; exact (Option.some.inj hr).symm
        subst this
        simp only [Option.map_some, Option.some.injEq] at hi
        subst hi
        exact (hg j (by omega)).1

theorem Strs.sl {h : Heap} {v : V} {l : List ByteArray} (hs : Strs h v l) : ∃ a len cap z, v = .sl a len cap z := by
  obtain ⟨_, _, ⟨rfl, _⟩ | ⟨rfl, _⟩ | ⟨b, cap, full, rfl, _⟩⟩ := hs
  · exact ⟨_, _, _, _, rfl⟩
  · exact ⟨_, _, _, _, rfl⟩
  · exact ⟨_, _, _, _, rfl⟩

theorem fits_span {h : Heap} {d : Nat} {cs : List V} (hf : Fits X.ty h (d + 2) 26 cs) : ∃ a b, cs = [.int .i64 a, .int .i64 b] ∧ In64 a ∧ In64 b := by
  unfold Fits at hf
  rw [ty26] at hf
  obtain ⟨hl, hf⟩ := hf
  match cs, hl with
  | [c0, c1], _ =>
    obtain ⟨a, h0, i0⟩ := fits_int (hf (0, 3) (by simp))
    obtain ⟨b, h1, i1⟩ := fits_int (hf (1, 3) (by simp))
    simp [ty3] at h0 h1
    subst h0 h1
    exact ⟨a, b, rfl, i0, i1⟩

theorem fits_cmd {h : Heap} {d : Nat} {cs : List V} (hf : Fits X.ty h (d + 3) 24 cs) :
    ∃ o c q f t v l, cs = [.int .i64 o, .int .i64 c, .int .i64 q, .int .i64 f, .int .i64 t, v] ∧ In64 o ∧ In64 c ∧ In64 q ∧ In64 f ∧ In64 t ∧ Strs h v l := by
  unfold Fits at hf
  rw [ty24] at hf
  obtain ⟨hl, hf⟩ := hf
  match cs, hl with
  | [c0, c1, c2, c3, c4, c5], _ =>
    obtain ⟨o, h0, i0⟩ := fits_int (hf (0, 3) (by simp))
    obtain ⟨c, h1, i1⟩ := fits_int (hf (1, 3) (by simp))
    obtain ⟨q, h2, i2⟩ := fits_int (hf (2, 3) (by simp))
    obtain ⟨f, h3, i3⟩ := fits_int (hf (3, 3) (by simp))
    obtain ⟨t, h4, i4⟩ := fits_int (hf (4, 3) (by simp))
    obtain ⟨v, l, h5, i5⟩ := fits_strs (hf (5, 22) (by simp))
    simp [ty3] at h0 h1 h2 h3 h4
    simp [ty22] at h5
    subst h0 h1 h2 h3 h4 h5
    exact ⟨o, c, q, f, t, _, l, rfl, i0, i1, i2, i3, i4, i5⟩

theorem fits_two {h : Heap} {d : Nat} {cs : List V} (hf : Fits X.ty h (d + 2) 35 cs) : ∃ a b, cs = [.int .i64 a, .int .i64 b] ∧ In64 a ∧ In64 b := by
  unfold Fits at hf
  rw [ty35] at hf
  obtain ⟨hl, hf⟩ := hf
  match cs, hl with
  | [c0, c1], _ =>
    obtain ⟨a, h0, i0⟩ := fits_int (hf 0 (by omega))
    obtain ⟨b, h1, i1⟩ := fits_int (hf 1 (by omega))
    simp [ty3] at h0 h1
    subst h0 h1
    exact ⟨a, b, rfl, i0, i1⟩

theorem fits_uint {h : Heap} {d : Nat} {cs : List V} (hf : Fits X.ty h (d + 1) 37 cs) : ∃ i, cs = [.int .u64 i] ∧ 0 ≤ i ∧ i ≤ 18446744073709551615 := by
  unfold Fits at hf
  rw [ty37] at hf
  obtain ⟨i, rfl, h1⟩ := hf
  refine ⟨i, rfl, ?_⟩
  simp only [Lit.wf, IntKind.min, IntKind.max, IntKind.signed, IntKind.bits] at h1
  simp at h1
  omega
end Go.Ev
