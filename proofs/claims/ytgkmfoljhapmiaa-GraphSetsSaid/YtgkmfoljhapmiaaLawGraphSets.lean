/- 'GraphSets' returns true for every row of instances and every number, and each argument reads afterwards as it read before. No condition is added. -/
import Derived.Test.YtgkmfoljhapmiaaAg
import Derived.Test.YtgkmfoljhapmiaaRows
set_option linter.unusedSimpArgs false
set_option linter.unusedVariables false
set_option linter.unusedSectionVars false
set_option maxRecDepth 100000
namespace Go.Proofs.Ytgkmfoljhapmiaa
open Go.ChangeShapes Go.WideShapes Go.ChangeAt Go.RowKit Go.Ev
theorem graphSets_law (hp : Heap) (xss : List (List V)) (hf : FitsAll (tyOf Try.prog) hp 6 Try.f10.params.toList xss) :
    ∃ h', D X (.fn 10 []) (argVs (tyOf Try.prog) Try.f10.params.toList xss) hp = some (.bool true, h') := by
  rw [<- Go.Ev.fit.ty, Try.params10] at hf
  rw [<- Go.Ev.fit.ty, Try.params10]
  match xss, hf with
  | [x0, x1], hf =>
    obtain ⟨ha, hb, _⟩ := hf
    obtain ⟨v, L, rfl, hL, hc⟩ := fits_gis ha
    obtain ⟨m, rfl, hm⟩ := fits_uintN hb
    obtain ⟨⟨v', h'⟩, e, e'⟩ := graphSets_at hL hc m hm
    dsimp only at e'
    subst e'
    refine ⟨h', ?_⟩
    simp only [argVs,argV,ty31,ty54,TI.kind,List.headD]
    exact e
theorem graphSets_lifted (os : Os) (started : os.Started) (H : Type) (enc : TypeId × Value -> H) :
    ReturnsInHanded {} Try.checked os 10 .any (Rows.graphSetsSpec.pre6 enc Try.prog Try.f10 Rows.graphSetsRow.domain false) (Rows.graphSetsSpec.post enc Try.prog Try.f10 false true false false) :=
  lifted_of (C := Try.checked) (X := X) Go.Ev.fit 6 (tb := 4) (by kernel_rfl) started (by kernel_rfl) Try.func10
    (ChangeSpec.witness6 (enc := enc) (C := Try.checked) false ⟨#[], #[.slice none 0 0, .int .u64 0], []⟩ 8 (by kernel_rfl) (by kernel_rfl) (by kernel_rfl) (by kernel_rfl))
    (by kernel_rfl) rfl (fun ds h => match ds, h with | [_, _], _ => rfl) rfl Try.underlying4 (by kernel_rfl) (by kernel_rfl) graphSets_law
theorem graphSets_holds : Rows.GraphSetsSaid :=
  OpenClaim.holds_of_wide 10 Try.f10 rfl rfl rfl rfl rfl rfl rfl ⟨rfl, rfl, rfl, rfl, rfl⟩ rfl rfl rfl rfl rfl (by kernel_rfl) Try.func10 (by kernel_rfl)
    (of_decide_eq_true (by kernel_rfl)) (by unfold Func.isWrapper; first | (rw [if_pos (by decide +kernel)]; kernel_rfl) | (rw [if_neg (by decide +kernel)]; exact ⟨rfl, rfl⟩))
    (fun os started H enc _ => graphSets_lifted os started H enc)
end Go.Proofs.Ytgkmfoljhapmiaa
