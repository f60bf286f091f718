/- 'GraphRefs' returns true for all rows of references, and each argument reads afterwards as it read before. No condition is added. -/
import Derived.Test.YtgkmfoljhapmiaaRows
import Derived.Test.YtgkmfoljhapmiaaRow
import Derived.Test.YtgkmfoljhapmiaaOpenR
import Derived.Test.YtgkmfoljhapmiaaGrF
set_option linter.unusedSimpArgs false
set_option linter.unusedVariables false
set_option maxRecDepth 100000
namespace Go.Proofs.Ytgkmfoljhapmiaa
open Go.ChangeShapes Go.WideShapes Go.ChangeAt Go.RowKit Go.Ev

theorem graphRefs_law (hp : Heap) (xss : List (List V)) (hf : FitsAll (tyOf Try.prog) hp 6 Try.f3.params.toList xss) :
    ∃ h', D X (.fn 3 []) (argVs (tyOf Try.prog) Try.f3.params.toList xss) hp = some (.bool true, h') := by
  rw [← Go.Ev.fit.ty, Try.params3] at hf
  rw [← Go.Ev.fit.ty, Try.params3]
  match xss, hf with
  | [x0, x1], hf =>
    obtain ⟨ha, hb, _⟩ := hf
    obtain ⟨v, L, rfl, hL⟩ := fits_refs ha
    obtain ⟨w, M, rfl, hM⟩ := fits_refs hb
    obtain ⟨⟨v', h'⟩, e, e'⟩ := graphRefs_at hL hM
    dsimp only at e'
    subst e'
    refine ⟨h', ?_⟩
    simp only [argVs, argV, ty22, TI.kind, List.headD]
    exact e

theorem graphRefs_lifted (os : Os) (started : os.Started) (H : Type) (enc : TypeId × Value → H) :
    ReturnsInHanded {} Try.checked os 3 .any (Rows.graphRefsSpec.pre6 enc Try.prog Try.f3 Rows.graphRefsRow.domain false) (Rows.graphRefsSpec.post enc Try.prog Try.f3 false true false false) :=
  lifted_of (C := Try.checked) (X := X) Go.Ev.fit 6 (tb := 4) (by kernel_rfl) started (by kernel_rfl) Try.func3
    (ChangeSpec.witness6 (enc := enc) (C := Try.checked) false ⟨#[], #[.slice none 0 0, .slice none 0 0], []⟩ 8 (by kernel_rfl) (by kernel_rfl) (by kernel_rfl) (by kernel_rfl))
    (by kernel_rfl) rfl (fun ds h => match ds, h with | [_, _], _ => rfl) rfl Try.underlying4 (by kernel_rfl) (by kernel_rfl) graphRefs_law

theorem graphRefs_holds : Rows.GraphRefsSaid :=
  OpenClaim.holds_of_wide 3 Try.f3 rfl rfl rfl rfl rfl rfl rfl ⟨rfl, rfl, rfl, rfl, rfl⟩ rfl rfl rfl rfl rfl (by kernel_rfl) Try.func3 (by kernel_rfl)
    (of_decide_eq_true (by kernel_rfl)) (by unfold Func.isWrapper; first | (rw [if_pos (by decide +kernel)]; kernel_rfl) | (rw [if_neg (by decide +kernel)]; exact ⟨rfl, rfl⟩))
    (fun os started H enc _ => graphRefs_lifted os started H enc)
#print axioms graphRefs_holds
end Go.Proofs.Ytgkmfoljhapmiaa
