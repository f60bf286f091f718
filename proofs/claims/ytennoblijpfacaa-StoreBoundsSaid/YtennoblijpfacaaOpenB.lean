/-
More arguments of this seat's types, opened.
-/
import Derived.Test.YtennoblijpfacaaOpen
set_option linter.unusedSimpArgs false
set_option linter.unusedVariables false
set_option maxRecDepth 100000
namespace Go.Ev
open Go.Proofs
theorem fits_two {h : Heap} {d : Nat} {cs : List V} (hf : Fits X.ty h (d + 2) 35 cs) : ∃ a b, cs = [.int .i64 a, .int .i64 b] ∧ In64 a ∧ In64 b := by
  unfold Fits at hf
  rw [ty35] at hf
  obtain ⟨hl, hf⟩ := hf
  match cs, hl with
  | [c0, c1], _ =>
    obtain ⟨a, h0, i0⟩ := fits_int (hf 0 (by omega))
    obtain ⟨b, h1, i1⟩ := fits_int (hf 1 (by omega))
    simp [ty3] at h0 h1
    subst h0 h1
    exact ⟨a, b, rfl, i0, i1⟩
end Go.Ev
