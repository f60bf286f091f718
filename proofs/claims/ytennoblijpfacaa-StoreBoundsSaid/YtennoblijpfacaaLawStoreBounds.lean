/- 'StoreBounds' returns true for all spans and all numbers, and each argument reads afterwards as it read before. No condition is added. -/
import Derived.Test.YtennoblijpfacaaRows
import Derived.Test.YtennoblijpfacaaRow
import Derived.Test.YtennoblijpfacaaOpen
import Derived.Test.YtennoblijpfacaaOpenB
import Derived.Test.YtennoblijpfacaaBounds
set_option linter.unusedSimpArgs false
set_option linter.unusedVariables false
set_option maxRecDepth 100000
namespace Go.Proofs.Ytennoblijpfacaa
open Go.ChangeShapes Go.WideShapes Go.ChangeAt Go.RowKit Go.Ev

theorem storeBounds_law (hp : Heap) (xss : List (List V)) (hf : FitsAll (tyOf Try.prog) hp 6 Try.f9.params.toList xss) :
    ∃ h', D X (.fn 9 []) (argVs (tyOf Try.prog) Try.f9.params.toList xss) hp = some (.bool true, h') := by
  rw [← Go.Ev.fit.ty, Try.params9] at hf
  rw [← Go.Ev.fit.ty, Try.params9]
  match xss, hf with
  | [x0, x1, x2], hf =>
    obtain ⟨ha, hb, hc, _⟩ := hf
    obtain ⟨x1, x2, rfl, _, _⟩ := fits_span ha
    obtain ⟨y1, y2, rfl, _, _⟩ := fits_span hb
    obtain ⟨q1, q2, rfl, _, _⟩ := fits_two hc
    obtain ⟨⟨v', h'⟩, e, e'⟩ := storeBounds_at x1 x2 y1 y2 q1 q2 hp
    dsimp only at e'
    subst e'
    refine ⟨h', ?_⟩
    simp only [argVs, argV, ty26, ty35, TI.kind]
    exact e

theorem storeBounds_lifted (os : Os) (started : os.Started) (H : Type) (enc : TypeId × Value → H) :
    ReturnsInHanded {} Try.checked os 9 .any (Rows.storeBoundsSpec.pre6 enc Try.prog Try.f9 Rows.storeBoundsRow.domain false) (Rows.storeBoundsSpec.post enc Try.prog Try.f9 false true false false) :=
  lifted_of (C := Try.checked) (X := X) Go.Ev.fit 6 (tb := 4) (by kernel_rfl) started (by kernel_rfl) Try.func9
    (ChangeSpec.witness6 (enc := enc) (C := Try.checked) false ⟨#[], #[.agg #[.int .i64 0, .int .i64 0], .agg #[.int .i64 0, .int .i64 0], .agg #[.int .i64 0, .int .i64 0]], []⟩ 8 (by kernel_rfl) (by kernel_rfl) (by kernel_rfl) (by kernel_rfl))
    (by kernel_rfl) rfl (fun ds h => match ds, h with | [_, _, _], _ => rfl) rfl Try.underlying4 (by kernel_rfl) (by kernel_rfl) storeBounds_law

theorem storeBounds_holds : Rows.StoreBoundsSaid :=
  OpenClaim.holds_of_wide 9 Try.f9 rfl rfl rfl rfl rfl rfl rfl ⟨rfl, rfl, rfl, rfl, rfl⟩ rfl rfl rfl rfl rfl (by kernel_rfl) Try.func9 (by kernel_rfl)
    (of_decide_eq_true (by kernel_rfl)) (by unfold Func.isWrapper; first | (rw [if_pos (by decide +kernel)]; kernel_rfl) | (rw [if_neg (by decide +kernel)]; exact ⟨rfl, rfl⟩))
    (fun os started H enc _ => storeBounds_lifted os started H enc)
#print axioms storeBounds_holds
end Go.Proofs.Ytennoblijpfacaa
