/- 'StoreDecodes' returns true for all bytes, and each argument reads afterwards as it read before. No condition is added. -/
import Derived.Test.YtennoblijpfacaaAe
import Derived.Test.YtennoblijpfacaaRows
set_option linter.unusedSimpArgs false
set_option linter.unusedVariables false
set_option maxRecDepth 100000
namespace Go.Proofs.Ytennoblijpfacaa
open Go.ChangeShapes Go.WideShapes Go.ChangeAt Go.RowKit Go.Ev
theorem storeDecodes_law (hp : Heap) (xss : List (List V)) (hf : FitsAll (tyOf Try.prog) hp 6 Try.f13.params.toList xss) :
    ∃ h', D X (.fn 13 []) (argVs (tyOf Try.prog) Try.f13.params.toList xss) hp = some (.bool true, h') := by
  rw [<- Go.Ev.fit.ty, Try.params13] at hf
  rw [<- Go.Ev.fit.ty, Try.params13]
  match xss, hf with
  | [x0], hf =>
    obtain ⟨ha, _⟩ := hf
    obtain ⟨v, bs, rfl, hm, hcap⟩ := fits_bytesN ha
    obtain ⟨⟨v', h'⟩, e, e'⟩ := storeDecodes_at hm hcap
    dsimp only at e'
    subst e'
    refine ⟨h', ?_⟩
    simp only [argVs,argV,ty64,TI.kind,List.headD]
    exact e
theorem storeDecodes_lifted (os : Os) (started : os.Started) (H : Type) (enc : TypeId × Value -> H) :
    ReturnsInHanded {} Try.checked os 13 .any (Rows.storeDecodesSpec.pre6 enc Try.prog Try.f13 Rows.storeDecodesRow.domain false) (Rows.storeDecodesSpec.post enc Try.prog Try.f13 false true false false) :=
  lifted_of (C := Try.checked) (X := X) Go.Ev.fit 6 (tb := 4) (by kernel_rfl) started (by kernel_rfl) Try.func13
    (ChangeSpec.witness6 (enc := enc) (C := Try.checked) false ⟨#[], #[.slice none 0 0], []⟩ 8 (by kernel_rfl) (by kernel_rfl) (by kernel_rfl) (by kernel_rfl))
    (by kernel_rfl) rfl (fun ds h => match ds, h with | [_], _ => rfl) rfl Try.underlying4 (by kernel_rfl) (by kernel_rfl) storeDecodes_law
theorem storeDecodes_holds : Rows.StoreDecodesSaid :=
  OpenClaim.holds_of_wide 13 Try.f13 rfl rfl rfl rfl rfl rfl rfl ⟨rfl, rfl, rfl, rfl, rfl⟩ rfl rfl rfl rfl rfl (by kernel_rfl) Try.func13 (by kernel_rfl)
    (of_decide_eq_true (by kernel_rfl)) (by unfold Func.isWrapper; first | (rw [if_pos (by decide +kernel)]; kernel_rfl) | (rw [if_neg (by decide +kernel)]; exact ⟨rfl, rfl⟩))
    (fun os started H enc _ => storeDecodes_lifted os started H enc)
end Go.Proofs.Ytennoblijpfacaa
