/- 'InstsFull' returns true for every number, and each argument reads afterwards as it read before. No condition is added. -/
import Derived.Test.YtidlajmifppcnaaAg
import Derived.Test.YtidlajmifppcnaaRows
set_option linter.unusedSimpArgs false
set_option linter.unusedVariables false
set_option maxRecDepth 100000
namespace Go.Proofs.Ytidlajmifppcnaa
open Go.ChangeShapes Go.WideShapes Go.ChangeAt Go.RowKit Go.Ev
theorem instsFull_law (hp : Heap) (xss : List (List V)) (hf : FitsAll (tyOf Try.prog) hp 6 Try.f7.params.toList xss) :
    ∃ h', D X (.fn 7 []) (argVs (tyOf Try.prog) Try.f7.params.toList xss) hp = some (.bool true, h') := by
  rw [<- Go.Ev.fit.ty, Try.params7] at hf
  rw [<- Go.Ev.fit.ty, Try.params7]
  obtain ⟨x0, rfl, ha⟩ := FitsAll.one hf
  obtain ⟨i, rfl, _⟩ := fits_int ha
  obtain ⟨⟨v', h'⟩, e, e'⟩ := instsFull_at i hp
  dsimp only at e'
  subst e'
  refine ⟨h', ?_⟩
  simp only [argVs, argV, ty3, TI.kind, List.headD]
  exact e
theorem instsFull_lifted (os : Os) (started : os.Started) (H : Type) (enc : TypeId × Value -> H) :
    ReturnsInHanded {} Try.checked os 7 .any (Rows.instsFullSpec.pre6 enc Try.prog Try.f7 Rows.instsFullRow.domain false) (Rows.instsFullSpec.post enc Try.prog Try.f7 false true false false) :=
  lifted_of (C := Try.checked) (X := X) Go.Ev.fit 6 (tb := 4) (by kernel_rfl) started (by kernel_rfl) Try.func7
    (ChangeSpec.witness6 (enc := enc) (C := Try.checked) false ⟨#[], #[.int .i64 0], []⟩ 8 (by kernel_rfl) (by kernel_rfl) (by kernel_rfl) (by kernel_rfl))
    (by kernel_rfl) rfl (fun ds h => match ds, h with | [_], _ => rfl) rfl Try.underlying4 (by kernel_rfl) (by kernel_rfl) instsFull_law
theorem instsFull_holds : Rows.InstsFullSaid :=
  OpenClaim.holds_of_wide 7 Try.f7 rfl rfl rfl rfl rfl rfl rfl ⟨rfl, rfl, rfl, rfl, rfl⟩ rfl rfl rfl rfl rfl (by kernel_rfl) Try.func7 (by kernel_rfl)
    (of_decide_eq_true (by kernel_rfl)) (by unfold Func.isWrapper; first | (rw [if_pos (by decide +kernel)]; kernel_rfl) | (rw [if_neg (by decide +kernel)]; exact ⟨rfl, rfl⟩))
    (fun os started H enc _ => instsFull_lifted os started H enc)
end Go.Proofs.Ytidlajmifppcnaa
