/- 'InstsSees' returns true for every row of commands, and each argument reads afterwards as it read before. No condition is added. -/
import Derived.Test.YtidlajmifppcnaaAg
import Derived.Test.YtidlajmifppcnaaRows
set_option linter.unusedSimpArgs false
set_option linter.unusedVariables false
set_option maxRecDepth 100000
namespace Go.Proofs.Ytidlajmifppcnaa
open Go.ChangeShapes Go.WideShapes Go.ChangeAt Go.RowKit Go.Ev
theorem instsSees_law (hp : Heap) (xss : List (List V)) (hf : FitsAll (tyOf Try.prog) hp 6 Try.f4.params.toList xss) :
    ∃ h', D X (.fn 4 []) (argVs (tyOf Try.prog) Try.f4.params.toList xss) hp = some (.bool true, h') := by
  rw [<- Go.Ev.fit.ty, Try.params4] at hf
  rw [<- Go.Ev.fit.ty, Try.params4]
  obtain ⟨x0, rfl, ha⟩ := FitsAll.one hf
  obtain ⟨v, C, rfl, hC⟩ := fits_cms ha
  obtain ⟨⟨v', h'⟩, e, e'⟩ := instsSees_at hC
  dsimp only at e'
  subst e'
  refine ⟨h', ?_⟩
  simp only [argVs, argV, ty36, TI.kind, List.headD]
  exact e
theorem instsSees_lifted (os : Os) (started : os.Started) (H : Type) (enc : TypeId × Value -> H) :
    ReturnsInHanded {} Try.checked os 4 .any (Rows.instsSeesSpec.pre6 enc Try.prog Try.f4 Rows.instsSeesRow.domain false) (Rows.instsSeesSpec.post enc Try.prog Try.f4 false true false false) :=
  lifted_of (C := Try.checked) (X := X) Go.Ev.fit 6 (tb := 4) (by kernel_rfl) started (by kernel_rfl) Try.func4
    (ChangeSpec.witness6 (enc := enc) (C := Try.checked) false ⟨#[], #[.slice none 0 0], []⟩ 8 (by kernel_rfl) (by kernel_rfl) (by kernel_rfl) (by kernel_rfl))
    (by kernel_rfl) rfl (fun ds h => match ds, h with | [_], _ => rfl) rfl Try.underlying4 (by kernel_rfl) (by kernel_rfl) instsSees_law
theorem instsSees_holds : Rows.InstsSeesSaid :=
  OpenClaim.holds_of_wide 4 Try.f4 rfl rfl rfl rfl rfl rfl rfl ⟨rfl, rfl, rfl, rfl, rfl⟩ rfl rfl rfl rfl rfl (by kernel_rfl) Try.func4 (by kernel_rfl)
    (of_decide_eq_true (by kernel_rfl)) (by unfold Func.isWrapper; first | (rw [if_pos (by decide +kernel)]; kernel_rfl) | (rw [if_neg (by decide +kernel)]; exact ⟨rfl, rfl⟩))
    (fun os started H enc _ => instsSees_lifted os started H enc)
end Go.Proofs.Ytidlajmifppcnaa
