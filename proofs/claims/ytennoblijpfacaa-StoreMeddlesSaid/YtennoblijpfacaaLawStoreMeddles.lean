/- 'StoreMeddles' returns true for all commands a and b, and each argument reads afterwards as it read before. No condition is added. -/
import Derived.Test.YtennoblijpfacaaRows
import Derived.Test.YtennoblijpfacaaRow
import Derived.Test.YtennoblijpfacaaOpen
import Derived.Test.YtennoblijpfacaaMeddle
set_option linter.unusedSimpArgs false
set_option linter.unusedVariables false
set_option maxRecDepth 100000
namespace Go.Proofs.Ytennoblijpfacaa
open Go.ChangeShapes Go.WideShapes Go.ChangeAt Go.RowKit Go.Ev

theorem storeMeddles_law (hp : Heap) (xss : List (List V)) (hf : FitsAll (tyOf Try.prog) hp 6 Try.f5.params.toList xss) :
    ∃ h', D X (.fn 5 []) (argVs (tyOf Try.prog) Try.f5.params.toList xss) hp = some (.bool true, h') := by
  rw [← Go.Ev.fit.ty, Try.params5] at hf
  rw [← Go.Ev.fit.ty, Try.params5]
  match xss, hf with
  | [a, b], hf =>
    obtain ⟨ha, hb, _⟩ := hf
    obtain ⟨o, c, q, f, t, v, l, rfl, _, _, _, _, _, hs⟩ := fits_cmd ha
    obtain ⟨o', c', q', f', t', v', l', rfl, _, _, _, _, _, hs'⟩ := fits_cmd hb
    obtain ⟨a, n, m, z, rfl⟩ := hs.sl
    obtain ⟨a', n', m', z', rfl⟩ := hs'.sl
    refine ⟨hp, ?_⟩
    simp only [argVs, argV, ty24, TI.kind]
    exact storeMeddles_at o c q f t o' c' q' f' t' a a' n m z n' m' z' hp

theorem storeMeddles_lifted (os : Os) (started : os.Started) (H : Type) (enc : TypeId × Value → H) :
    ReturnsInHanded {} Try.checked os 5 .any (Rows.storeMeddlesSpec.pre6 enc Try.prog Try.f5 Rows.storeMeddlesRow.domain false) (Rows.storeMeddlesSpec.post enc Try.prog Try.f5 false true false false) :=
  lifted_of (C := Try.checked) (X := X) Go.Ev.fit 6 (tb := 4) (by kernel_rfl) started (by kernel_rfl) Try.func5
    (ChangeSpec.witness6 (enc := enc) (C := Try.checked) false ⟨#[], #[.agg #[.int .i64 0, .int .i64 0, .int .i64 0, .int .i64 0, .int .i64 0, .slice none 0 0], .agg #[.int .i64 0, .int .i64 0, .int .i64 0, .int .i64 0, .int .i64 0, .slice none 0 0]], []⟩ 8 (by kernel_rfl) (by kernel_rfl) (by kernel_rfl) (by kernel_rfl))
    (by kernel_rfl) rfl (fun ds h => match ds, h with | [_, _], _ => rfl) rfl Try.underlying4 (by kernel_rfl) (by kernel_rfl) storeMeddles_law

theorem storeMeddles_holds : Rows.StoreMeddlesSaid :=
  OpenClaim.holds_of_wide 5 Try.f5 rfl rfl rfl rfl rfl rfl rfl ⟨rfl, rfl, rfl, rfl, rfl⟩ rfl rfl rfl rfl rfl (by kernel_rfl) Try.func5 (by kernel_rfl)
    (of_decide_eq_true (by kernel_rfl)) (by unfold Func.isWrapper; first | (rw [if_pos (by decide +kernel)]; kernel_rfl) | (rw [if_neg (by decide +kernel)]; exact ⟨rfl, rfl⟩))
    (fun os started H enc _ => storeMeddles_lifted os started H enc)
#print axioms storeMeddles_holds
end Go.Proofs.Ytennoblijpfacaa
