/- 'InstsNext' returns true for every row of instances and every Lead, and each argument reads afterwards as it read before. No condition is added. -/
import Derived.Test.YtidlajmifppcnaaAg
import Derived.Test.YtidlajmifppcnaaRows
set_option linter.unusedSimpArgs false
set_option linter.unusedVariables false
set_option maxRecDepth 100000
namespace Go.Proofs.Ytidlajmifppcnaa
open Go.ChangeShapes Go.WideShapes Go.ChangeAt Go.RowKit Go.Ev
theorem instsNext_law (hp : Heap) (xss : List (List V)) (hf : FitsAll (tyOf Try.prog) hp 6 Try.f6.params.toList xss) :
    ∃ h', D X (.fn 6 []) (argVs (tyOf Try.prog) Try.f6.params.toList xss) hp = some (.bool true, h') := by
  rw [<- Go.Ev.fit.ty, Try.params6] at hf
  rw [<- Go.Ev.fit.ty, Try.params6]
  obtain ⟨x0, x1, rfl, ha, hb⟩ := FitsAll.two hf
  obtain ⟨v, L, rfl, hL, _⟩ := fits_insts ha
  obtain ⟨i, rfl, _⟩ := fits_int hb
  obtain ⟨⟨v', h'⟩, e, e'⟩ := instsNext_at hL i
  dsimp only at e'
  subst e'
  refine ⟨h', ?_⟩
  simp only [argVs, argV, ty39, ty3, TI.kind, List.headD]
  exact e
theorem instsNext_lifted (os : Os) (started : os.Started) (H : Type) (enc : TypeId × Value -> H) :
    ReturnsInHanded {} Try.checked os 6 .any (Rows.instsNextSpec.pre6 enc Try.prog Try.f6 Rows.instsNextRow.domain false) (Rows.instsNextSpec.post enc Try.prog Try.f6 false true false false) :=
  lifted_of (C := Try.checked) (X := X) Go.Ev.fit 6 (tb := 4) (by kernel_rfl) started (by kernel_rfl) Try.func6
    (ChangeSpec.witness6 (enc := enc) (C := Try.checked) false ⟨#[], #[.slice none 0 0, .int .i64 0], []⟩ 8 (by kernel_rfl) (by kernel_rfl) (by kernel_rfl) (by kernel_rfl))
    (by kernel_rfl) rfl (fun ds h => match ds, h with | [_, _], _ => rfl) rfl Try.underlying4 (by kernel_rfl) (by kernel_rfl) instsNext_law
theorem instsNext_holds : Rows.InstsNextSaid :=
  OpenClaim.holds_of_wide 6 Try.f6 rfl rfl rfl rfl rfl rfl rfl ⟨rfl, rfl, rfl, rfl, rfl⟩ rfl rfl rfl rfl rfl (by kernel_rfl) Try.func6 (by kernel_rfl)
    (of_decide_eq_true (by kernel_rfl)) (by unfold Func.isWrapper; first | (rw [if_pos (by decide +kernel)]; kernel_rfl) | (rw [if_neg (by decide +kernel)]; exact ⟨rfl, rfl⟩))
    (fun os started H enc _ => instsNext_lifted os started H enc)
end Go.Proofs.Ytidlajmifppcnaa
