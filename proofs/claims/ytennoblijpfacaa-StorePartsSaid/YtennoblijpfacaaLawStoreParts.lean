/- 'StoreParts' returns true for every span, all commands and every number, and each argument reads afterwards as it read before. No condition is added. -/
import Derived.Test.YtennoblijpfacaaRows
import Derived.Test.YtennoblijpfacaaRow
import Derived.Test.YtennoblijpfacaaOpen
import Derived.Test.YtennoblijpfacaaHalves
import Derived.Test.YtennoblijpfacaaOpenC
set_option linter.unusedSimpArgs false
set_option linter.unusedVariables false
set_option maxRecDepth 100000
namespace Go.Proofs.Ytennoblijpfacaa
open Go.ChangeShapes Go.WideShapes Go.ChangeAt Go.RowKit Go.Ev

theorem storeParts_law (hp : Heap) (xss : List (List V)) (hf : FitsAll (tyOf Try.prog) hp 6 Try.f10.params.toList xss) :
    ∃ h', D X (.fn 10 []) (argVs (tyOf Try.prog) Try.f10.params.toList xss) hp = some (.bool true, h') := by
  rw [← Go.Ev.fit.ty, Try.params10] at hf
  rw [← Go.Ev.fit.ty, Try.params10]
  match xss, hf with
  | [x0, x1, x2], hf =>
    obtain ⟨ha, hb, hc, _⟩ := hf
    obtain ⟨x1, x2, rfl, _, _⟩ := fits_span ha
    obtain ⟨v, L, rfl, hL⟩ := fits_cmds hb
    obtain ⟨m, rfl, hm, _⟩ := fits_uint hc
    obtain ⟨⟨v', h'⟩, e, e'⟩ := storeParts_at x1 x2 m hm hL
    dsimp only at e'
    subst e'
    refine ⟨h', ?_⟩
    simp only [argVs, argV, ty26, ty48, ty37, TI.kind, List.headD]
    exact e

theorem storeParts_lifted (os : Os) (started : os.Started) (H : Type) (enc : TypeId × Value → H) :
    ReturnsInHanded {} Try.checked os 10 .any (Rows.storePartsSpec.pre6 enc Try.prog Try.f10 Rows.storePartsRow.domain false) (Rows.storePartsSpec.post enc Try.prog Try.f10 false true false false) :=
  lifted_of (C := Try.checked) (X := X) Go.Ev.fit 6 (tb := 4) (by kernel_rfl) started (by kernel_rfl) Try.func10
    (ChangeSpec.witness6 (enc := enc) (C := Try.checked) false ⟨#[], #[.agg #[.int .i64 0, .int .i64 0], .slice none 0 0, .int .u64 0], []⟩ 8 (by kernel_rfl) (by kernel_rfl) (by kernel_rfl) (by kernel_rfl))
    (by kernel_rfl) rfl (fun ds h => match ds, h with | [_, _, _], _ => rfl) rfl Try.underlying4 (by kernel_rfl) (by kernel_rfl) storeParts_law

theorem storeParts_holds : Rows.StorePartsSaid :=
  OpenClaim.holds_of_wide 10 Try.f10 rfl rfl rfl rfl rfl rfl rfl ⟨rfl, rfl, rfl, rfl, rfl⟩ rfl rfl rfl rfl rfl (by kernel_rfl) Try.func10 (by kernel_rfl)
    (of_decide_eq_true (by kernel_rfl)) (by unfold Func.isWrapper; first | (rw [if_pos (by decide +kernel)]; kernel_rfl) | (rw [if_neg (by decide +kernel)]; exact ⟨rfl, rfl⟩))
    (fun os started H enc _ => storeParts_lifted os started H enc)
#print axioms storeParts_holds
end Go.Proofs.Ytennoblijpfacaa
