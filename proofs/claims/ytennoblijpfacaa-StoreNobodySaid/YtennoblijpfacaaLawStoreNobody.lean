/- 'StoreNobody' returns true for every span and every command, and each argument reads afterwards as it read before. No condition is added. -/
import Derived.Test.YtennoblijpfacaaRows
import Derived.Test.YtennoblijpfacaaRow
import Derived.Test.YtennoblijpfacaaOpen
import Derived.Test.YtennoblijpfacaaNobody
set_option linter.unusedSimpArgs false
set_option linter.unusedVariables false
set_option maxRecDepth 100000
namespace Go.Proofs.Ytennoblijpfacaa
open Go.ChangeShapes Go.WideShapes Go.ChangeAt Go.RowKit Go.Ev

theorem storeNobody_law (hp : Heap) (xss : List (List V)) (hf : FitsAll (tyOf Try.prog) hp 6 Try.f11.params.toList xss) :
    ∃ h', D X (.fn 11 []) (argVs (tyOf Try.prog) Try.f11.params.toList xss) hp = some (.bool true, h') := by
  rw [← Go.Ev.fit.ty, Try.params11] at hf
  rw [← Go.Ev.fit.ty, Try.params11]
  match xss, hf with
  | [x0, x1], hf =>
    obtain ⟨ha, hb, _⟩ := hf
    obtain ⟨x1, x2, rfl, _, _⟩ := fits_span ha
    obtain ⟨o, c, q, f, t, w, l, rfl, _, _, _, _, _, hs⟩ := fits_cmd hb
    obtain ⟨⟨v', h'⟩, e, e'⟩ := storeNobody_at x1 x2 (o := o) (c := c) (q := q) (f := f) (t := t) hs.at
    dsimp only at e'
    subst e'
    refine ⟨h', ?_⟩
    simp only [argVs, argV, ty26, ty24, TI.kind]
    exact e

theorem storeNobody_lifted (os : Os) (started : os.Started) (H : Type) (enc : TypeId × Value → H) :
    ReturnsInHanded {} Try.checked os 11 .any (Rows.storeNobodySpec.pre6 enc Try.prog Try.f11 Rows.storeNobodyRow.domain false) (Rows.storeNobodySpec.post enc Try.prog Try.f11 false true false false) :=
  lifted_of (C := Try.checked) (X := X) Go.Ev.fit 6 (tb := 4) (by kernel_rfl) started (by kernel_rfl) Try.func11
    (ChangeSpec.witness6 (enc := enc) (C := Try.checked) false ⟨#[], #[.agg #[.int .i64 0, .int .i64 0], .agg #[.int .i64 0, .int .i64 0, .int .i64 0, .int .i64 0, .int .i64 0, .slice none 0 0]], []⟩ 8 (by kernel_rfl) (by kernel_rfl) (by kernel_rfl) (by kernel_rfl))
    (by kernel_rfl) rfl (fun ds h => match ds, h with | [_, _], _ => rfl) rfl Try.underlying4 (by kernel_rfl) (by kernel_rfl) storeNobody_law

theorem storeNobody_holds : Rows.StoreNobodySaid :=
  OpenClaim.holds_of_wide 11 Try.f11 rfl rfl rfl rfl rfl rfl rfl ⟨rfl, rfl, rfl, rfl, rfl⟩ rfl rfl rfl rfl rfl (by kernel_rfl) Try.func11 (by kernel_rfl)
    (of_decide_eq_true (by kernel_rfl)) (by unfold Func.isWrapper; first | (rw [if_pos (by decide +kernel)]; kernel_rfl) | (rw [if_neg (by decide +kernel)]; exact ⟨rfl, rfl⟩))
    (fun os started H enc _ => storeNobody_lifted os started H enc)
#print axioms storeNobody_holds
end Go.Proofs.Ytennoblijpfacaa
