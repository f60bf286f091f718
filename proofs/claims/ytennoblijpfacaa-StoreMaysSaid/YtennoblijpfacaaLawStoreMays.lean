/- 'StoreMays' returns true for every command c and every span, and each argument reads afterwards as it read before. No condition is added. -/
import Derived.Test.YtennoblijpfacaaRows
import Derived.Test.YtennoblijpfacaaRow
import Derived.Test.YtennoblijpfacaaOpen
import Derived.Test.YtennoblijpfacaaMays
set_option linter.unusedSimpArgs false
set_option linter.unusedVariables false
set_option maxRecDepth 100000
namespace Go.Proofs.Ytennoblijpfacaa
open Go.ChangeShapes Go.WideShapes Go.ChangeAt Go.RowKit Go.Ev

theorem storeMays_law (hp : Heap) (xss : List (List V)) (hf : FitsAll (tyOf Try.prog) hp 6 Try.f3.params.toList xss) :
    ∃ h', D X (.fn 3 []) (argVs (tyOf Try.prog) Try.f3.params.toList xss) hp = some (.bool true, h') := by
  rw [← Go.Ev.fit.ty, Try.params3] at hf
  rw [← Go.Ev.fit.ty, Try.params3]
  match xss, hf with
  | [x0, x1], hf =>
    obtain ⟨ha, hb, _⟩ := hf
    obtain ⟨o, c, q, f, t, v, l, rfl, _, _, _, _, _, hs⟩ := fits_cmd ha
    obtain ⟨a, b, rfl, _, _⟩ := fits_span hb
    obtain ⟨⟨v', h'⟩, e, e'⟩ := storeMays_at (o := o) (c := c) (q := q) (f := f) (t := t) (a := a) (b := b) hs.at
    dsimp only at e'
    subst e'
    refine ⟨h', ?_⟩
    simp only [argVs, argV, ty24, ty26, TI.kind]
    exact e

theorem storeMays_lifted (os : Os) (started : os.Started) (H : Type) (enc : TypeId × Value → H) :
    ReturnsInHanded {} Try.checked os 3 .any (Rows.storeMaysSpec.pre6 enc Try.prog Try.f3 Rows.storeMaysRow.domain false) (Rows.storeMaysSpec.post enc Try.prog Try.f3 false true false false) :=
  lifted_of (C := Try.checked) (X := X) Go.Ev.fit 6 (tb := 4) (by kernel_rfl) started (by kernel_rfl) Try.func3
    (ChangeSpec.witness6 (enc := enc) (C := Try.checked) false ⟨#[], #[.agg #[.int .i64 0, .int .i64 0, .int .i64 0, .int .i64 0, .int .i64 0, .slice none 0 0], .agg #[.int .i64 0, .int .i64 0]], []⟩ 8 (by kernel_rfl) (by kernel_rfl) (by kernel_rfl) (by kernel_rfl))
    (by kernel_rfl) rfl (fun ds h => match ds, h with | [_, _], _ => rfl) rfl Try.underlying4 (by kernel_rfl) (by kernel_rfl) storeMays_law

theorem storeMays_holds : Rows.StoreMaysSaid :=
  OpenClaim.holds_of_wide 3 Try.f3 rfl rfl rfl rfl rfl rfl rfl ⟨rfl, rfl, rfl, rfl, rfl⟩ rfl rfl rfl rfl rfl (by kernel_rfl) Try.func3 (by kernel_rfl)
    (of_decide_eq_true (by kernel_rfl)) (by unfold Func.isWrapper; first | (rw [if_pos (by decide +kernel)]; kernel_rfl) | (rw [if_neg (by decide +kernel)]; exact ⟨rfl, rfl⟩))
    (fun os started H enc _ => storeMays_lifted os started H enc)
#print axioms storeMays_holds
end Go.Proofs.Ytennoblijpfacaa
