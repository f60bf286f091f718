/- 'InstsApart' returns true for every row of instances and every instance, and each argument reads afterwards as it read before. No condition is added. -/
import Derived.Test.YtidlajmifppcnaaAg
import Derived.Test.YtidlajmifppcnaaRows
set_option linter.unusedSimpArgs false
set_option linter.unusedVariables false
set_option maxRecDepth 100000
namespace Go.Proofs.Ytidlajmifppcnaa
open Go.ChangeShapes Go.WideShapes Go.ChangeAt Go.RowKit Go.Ev
theorem instsApart_law (hp : Heap) (xss : List (List V)) (hf : FitsAll (tyOf Try.prog) hp 6 Try.f9.params.toList xss) :
    ∃ h', D X (.fn 9 []) (argVs (tyOf Try.prog) Try.f9.params.toList xss) hp = some (.bool true, h') := by
  rw [<- Go.Ev.fit.ty, Try.params9] at hf
  rw [<- Go.Ev.fit.ty, Try.params9]
  obtain ⟨x0, x1, rfl, ha, hb⟩ := FitsAll.two hf
  obtain ⟨v, L, rfl, hL, _⟩ := fits_insts ha
  obtain ⟨x, rfl, hx, _⟩ := fits_inst hb
  obtain ⟨⟨v', h'⟩, e, e'⟩ := instsApart_at hL hx
  dsimp only at e'
  subst e'
  refine ⟨h', ?_⟩
  simp only [argVs, argV, ty39, ty31, TI.kind, List.headD]
  exact e
theorem instsApart_lifted (os : Os) (started : os.Started) (H : Type) (enc : TypeId × Value -> H) :
    ReturnsInHanded {} Try.checked os 9 .any (Rows.instsApartSpec.pre6 enc Try.prog Try.f9 Rows.instsApartRow.domain false) (Rows.instsApartSpec.post enc Try.prog Try.f9 false true false false) :=
  lifted_of (C := Try.checked) (X := X) Go.Ev.fit 6 (tb := 4) (by kernel_rfl) started (by kernel_rfl) Try.func9
    (ChangeSpec.witness6 (enc := enc) (C := Try.checked) false ⟨#[], #[.slice none 0 0, .agg #[.int .i64 0, .int .i64 0, .int .i64 0, .int .i64 0, .int .i64 0, .int .i64 0, .int .i64 0, .bool false, .int .i64 0, .int .i64 0, .int .i64 0, .int .i64 0, .int .i64 0, .slice none 0 0, .int .i64 0, .slice none 0 0]], []⟩ 8 (by kernel_rfl) (by kernel_rfl) (by kernel_rfl) (by kernel_rfl))
    (by kernel_rfl) rfl (fun ds h => match ds, h with | [_, _], _ => rfl) rfl Try.underlying4 (by kernel_rfl) (by kernel_rfl) instsApart_law
theorem instsApart_holds : Rows.InstsApartSaid :=
  OpenClaim.holds_of_wide 9 Try.f9 rfl rfl rfl rfl rfl rfl rfl ⟨rfl, rfl, rfl, rfl, rfl⟩ rfl rfl rfl rfl rfl (by kernel_rfl) Try.func9 (by kernel_rfl)
    (of_decide_eq_true (by kernel_rfl)) (by unfold Func.isWrapper; first | (rw [if_pos (by decide +kernel)]; kernel_rfl) | (rw [if_neg (by decide +kernel)]; exact ⟨rfl, rfl⟩))
    (fun os started H enc _ => instsApart_lifted os started H enc)
end Go.Proofs.Ytidlajmifppcnaa
