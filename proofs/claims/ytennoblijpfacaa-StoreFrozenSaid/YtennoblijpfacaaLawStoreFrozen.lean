/- 'StoreFrozen' returns true for every span and all commands, and each argument reads afterwards as it read before. No condition is added. -/
import Derived.Test.YtennoblijpfacaaRows
import Derived.Test.YtennoblijpfacaaRow
import Derived.Test.YtennoblijpfacaaOpen
import Derived.Test.YtennoblijpfacaaOpenB
import Derived.Test.YtennoblijpfacaaFrozen
import Derived.Test.YtennoblijpfacaaOpenC
set_option linter.unusedSimpArgs false
set_option linter.unusedVariables false
set_option maxRecDepth 100000
namespace Go.Proofs.Ytennoblijpfacaa
open Go.ChangeShapes Go.WideShapes Go.ChangeAt Go.RowKit Go.Ev

theorem storeFrozen_law (hp : Heap) (xss : List (List V)) (hf : FitsAll (tyOf Try.prog) hp 6 Try.f8.params.toList xss) :
    ∃ h', D X (.fn 8 []) (argVs (tyOf Try.prog) Try.f8.params.toList xss) hp = some (.bool true, h') := by
  rw [← Go.Ev.fit.ty, Try.params8] at hf
  rw [← Go.Ev.fit.ty, Try.params8]
  match xss, hf with
  | [x0, x1, x2], hf =>
    obtain ⟨ha, hb, hc, _⟩ := hf
    obtain ⟨x1, x2, rfl, _, _⟩ := fits_span ha
    obtain ⟨v, L, rfl, hL⟩ := fits_cmds hb
    obtain ⟨w, L2, rfl, hL2⟩ := fits_cmds hc
    obtain ⟨⟨v', h'⟩, e, e'⟩ := storeFrozen_at x1 x2 hL hL2
    dsimp only at e'
    subst e'
    refine ⟨h', ?_⟩
    simp only [argVs, argV, ty26, ty48, TI.kind, List.headD]
    exact e

theorem storeFrozen_lifted (os : Os) (started : os.Started) (H : Type) (enc : TypeId × Value → H) :
    ReturnsInHanded {} Try.checked os 8 .any (Rows.storeFrozenSpec.pre6 enc Try.prog Try.f8 Rows.storeFrozenRow.domain false) (Rows.storeFrozenSpec.post enc Try.prog Try.f8 false true false false) :=
  lifted_of (C := Try.checked) (X := X) Go.Ev.fit 6 (tb := 4) (by kernel_rfl) started (by kernel_rfl) Try.func8
    (ChangeSpec.witness6 (enc := enc) (C := Try.checked) false ⟨#[], #[.agg #[.int .i64 0, .int .i64 0], .slice none 0 0, .slice none 0 0], []⟩ 8 (by kernel_rfl) (by kernel_rfl) (by kernel_rfl) (by kernel_rfl))
    (by kernel_rfl) rfl (fun ds h => match ds, h with | [_, _, _], _ => rfl) rfl Try.underlying4 (by kernel_rfl) (by kernel_rfl) storeFrozen_law

theorem storeFrozen_holds : Rows.StoreFrozenSaid :=
  OpenClaim.holds_of_wide 8 Try.f8 rfl rfl rfl rfl rfl rfl rfl ⟨rfl, rfl, rfl, rfl, rfl⟩ rfl rfl rfl rfl rfl (by kernel_rfl) Try.func8 (by kernel_rfl)
    (of_decide_eq_true (by kernel_rfl)) (by unfold Func.isWrapper; first | (rw [if_pos (by decide +kernel)]; kernel_rfl) | (rw [if_neg (by decide +kernel)]; exact ⟨rfl, rfl⟩))
    (fun os started H enc _ => storeFrozen_lifted os started H enc)
#print axioms storeFrozen_holds
end Go.Proofs.Ytennoblijpfacaa
