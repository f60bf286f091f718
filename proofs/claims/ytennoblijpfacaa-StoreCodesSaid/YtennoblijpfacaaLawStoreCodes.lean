/- 'StoreCodes' returns true for every span and all commands, and each argument reads afterwards as it read before. No condition is added. -/
import Derived.Test.YtennoblijpfacaaAe
import Derived.Test.YtennoblijpfacaaRows
set_option linter.unusedSimpArgs false
set_option linter.unusedVariables false
set_option maxRecDepth 100000
namespace Go.Proofs.Ytennoblijpfacaa
open Go.ChangeShapes Go.WideShapes Go.ChangeAt Go.RowKit Go.Ev
theorem storeCodes_law (hp : Heap) (xss : List (List V)) (hf : FitsAll (tyOf Try.prog) hp 6 Try.f14.params.toList xss) :
    ∃ h', D X (.fn 14 []) (argVs (tyOf Try.prog) Try.f14.params.toList xss) hp = some (.bool true, h') := by
  rw [<- Go.Ev.fit.ty, Try.params14] at hf
  rw [<- Go.Ev.fit.ty, Try.params14]
  match xss, hf with
  | [x0, x1], hf =>
    obtain ⟨ha, hb, _⟩ := hf
    obtain ⟨x1, x2, rfl, _, _⟩ := fits_span ha
    obtain ⟨v, L, rfl, hL⟩ := fits_cmds hb
    obtain ⟨⟨v', h'⟩, e, e'⟩ := storeCodes_at x1 x2 hL
    dsimp only at e'
    subst e'
    refine ⟨h', ?_⟩
    simp only [argVs,argV,ty26,ty48,TI.kind,List.headD]
    exact e
theorem storeCodes_lifted (os : Os) (started : os.Started) (H : Type) (enc : TypeId × Value -> H) :
    ReturnsInHanded {} Try.checked os 14 .any (Rows.storeCodesSpec.pre6 enc Try.prog Try.f14 Rows.storeCodesRow.domain false) (Rows.storeCodesSpec.post enc Try.prog Try.f14 false true false false) :=
  lifted_of (C := Try.checked) (X := X) Go.Ev.fit 6 (tb := 4) (by kernel_rfl) started (by kernel_rfl) Try.func14
    (ChangeSpec.witness6 (enc := enc) (C := Try.checked) false ⟨#[], #[.agg #[.int .i64 0, .int .i64 0], .slice none 0 0], []⟩ 8 (by kernel_rfl) (by kernel_rfl) (by kernel_rfl) (by kernel_rfl))
    (by kernel_rfl) rfl (fun ds h => match ds, h with | [_, _], _ => rfl) rfl Try.underlying4 (by kernel_rfl) (by kernel_rfl) storeCodes_law
theorem storeCodes_holds : Rows.StoreCodesSaid :=
  OpenClaim.holds_of_wide 14 Try.f14 rfl rfl rfl rfl rfl rfl rfl ⟨rfl, rfl, rfl, rfl, rfl⟩ rfl rfl rfl rfl rfl (by kernel_rfl) Try.func14 (by kernel_rfl)
    (of_decide_eq_true (by kernel_rfl)) (by unfold Func.isWrapper; first | (rw [if_pos (by decide +kernel)]; kernel_rfl) | (rw [if_neg (by decide +kernel)]; exact ⟨rfl, rfl⟩))
    (fun os started H enc _ => storeCodes_lifted os started H enc)
end Go.Proofs.Ytennoblijpfacaa
