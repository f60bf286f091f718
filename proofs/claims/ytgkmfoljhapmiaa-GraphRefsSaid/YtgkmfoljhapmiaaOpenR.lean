/-
Arguments of this seat's types, opened: rows of references.
-/
import Derived.Test.YtgkmfoljhapmiaaGrA
set_option linter.unusedSimpArgs false
set_option linter.unusedVariables false
set_option maxRecDepth 100000
namespace Go.Ev
open Go.Proofs

def In64 (n : Int) : Prop := -9223372036854775808 ≤ n ∧ n ≤ 9223372036854775807
theorem in64_of {i : Int} (h : (Lit.int .i64 i).wf = true) : In64 i := by
  simp only [Lit.wf, IntKind.min, IntKind.max, IntKind.signed, IntKind.bits] at h
  simp at h
  unfold In64
  omega
theorem fits_int {h : Heap} {d : Nat} {cs : List V} (hf : Fits X.ty h (d + 1) 3 cs) : ∃ i, cs = [.int .i64 i] ∧ In64 i := by
  unfold Fits at hf
  rw [ty3] at hf
  obtain ⟨i, rfl, h1⟩ := hf
  exact ⟨i, rfl, in64_of h1⟩
theorem fits_ref {h : Heap} {d : Nat} {cs : List V} (hf : Fits X.ty h (d + 2) 25 cs) : ∃ a b, cs = [.int .i64 a, .int .i64 b] ∧ In64 a ∧ In64 b := by
  unfold Fits at hf
  rw [ty25] at hf
  obtain ⟨hl, hf⟩ := hf
  match cs, hl with
  | [c0, c1], _ =>
    obtain ⟨a, h0, i0⟩ := fits_int (hf (0, 3) (by simp))
    obtain ⟨b, h1, i1⟩ := fits_int (hf (1, 3) (by simp))
    simp [ty3] at h0 h1
    subst h0 h1
    exact ⟨a, b, rfl, i0, i1⟩
theorem fits_refs {h : Heap} {d : Nat} {cs : List V} (hf : Fits X.ty h (d + 3) 22 cs) : ∃ v L, cs = [v] ∧ RowAt h v L := by
  unfold Fits at hf
  rw [ty22] at hf
  have hmax : maxLen = 9223372036854775807 := by decide
  rw [hmax] at hf
  rcases hf with rfl | rfl | ⟨b, len, cap, full, rfl, h1, h2, h3, h4, h5, h6⟩
  · exact ⟨_, [], rfl, .nil, 0, 0, rfl, by simp, by decide, .inl rfl⟩
  · exact ⟨_, [], rfl, .any, 0, 1, rfl, by simp, by decide, .inl rfl⟩
  · have hsz : (X.ty 25).size = 2 := by rw [ty25]
    rw [hsz] at h5 h6
    have hx : ∀ i, ∃ x : RP, i < cap → (full.drop (i * 2)).take 2 = [.int .i64 x.1, .int .i64 x.2] := by
      intro i
      by_cases hi : i < cap
      · obtain ⟨a, b, e, _, _⟩ := fits_ref (h6 i hi)
        exact ⟨(a, b), fun _ => e⟩
      · exact ⟨(0, 0), fun h' => absurd h' hi⟩
    obtain ⟨g, hg⟩ := Classical.axiomOfChoice hx
    have hlen : ((List.range len).map g).length = len := by rw [List.length_map, List.length_range]
    refine ⟨_, (List.range len).map g, rfl, .at b 0 0, cap, 0, by rw [hlen], by rw [hlen]; omega, by omega, .inr ⟨b, 0, 0, false, full, rfl, ?_, ?_, ?_⟩⟩
    · unfold hcells; rw [h4]; exact grd_t rfl _
    · intro i x hi
      rw [List.getElem?_map] at hi
      cases hr : (List.range len)[i]? with
      | none => rw [hr] at hi; cases hi
      | some j =>
        rw [hr] at hi
        have hj : i < len := by have := (List.getElem?_eq_some_iff.1 hr).1; simpa using this
        have : j = i := by rw [List.getElem?_range hj] at hr; exact (Option.some.inj hr).symm
        subst this
        simp only [Option.map_some, Option.some.injEq] at hi
        subst hi
        rw [Nat.zero_add]
        exact hg j (by omega)
    · rw [hlen, h5, Nat.zero_add]
      exact Nat.mul_le_mul_right 2 (by omega)
end Go.Ev
