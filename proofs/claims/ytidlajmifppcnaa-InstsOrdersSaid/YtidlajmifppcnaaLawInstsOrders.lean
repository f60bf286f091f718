/- 'InstsOrders' returns true for every row of instances, every command and every Ref, and each argument reads afterwards as it read before. No condition is added. -/
import Derived.Test.YtidlajmifppcnaaAg
import Derived.Test.YtidlajmifppcnaaRows
set_option linter.unusedSimpArgs false
set_option linter.unusedVariables false
set_option maxRecDepth 100000
namespace Go.Proofs.Ytidlajmifppcnaa
open Go.ChangeShapes Go.WideShapes Go.ChangeAt Go.RowKit Go.Ev
theorem instsOrders_law (hp : Heap) (xss : List (List V)) (hf : FitsAll (tyOf Try.prog) hp 6 Try.f5.params.toList xss) :
    ∃ h', D X (.fn 5 []) (argVs (tyOf Try.prog) Try.f5.params.toList xss) hp = some (.bool true, h') := by
  rw [<- Go.Ev.fit.ty, Try.params5] at hf
  rw [<- Go.Ev.fit.ty, Try.params5]
  obtain ⟨x0, x1, x2, rfl, ha, hb, hc⟩ := FitsAll.three hf
  obtain ⟨v, L, rfl, hL, _⟩ := fits_insts ha
  obtain ⟨o, c, q, f, t, u, l, rfl, _⟩ := fits_cmd hb
  obtain ⟨a1, a2, rfl, _⟩ := fits_ref hc
  obtain ⟨⟨v', h'⟩, e, e'⟩ := instsOrders_at hL o c q f t u a1 a2
  dsimp only at e'
  subst e'
  refine ⟨h', ?_⟩
  simp only [argVs, argV, ty39, ty28, ty23, TI.kind, List.headD]
  exact e
theorem instsOrders_lifted (os : Os) (started : os.Started) (H : Type) (enc : TypeId × Value -> H) :
    ReturnsInHanded {} Try.checked os 5 .any (Rows.instsOrdersSpec.pre6 enc Try.prog Try.f5 Rows.instsOrdersRow.domain false) (Rows.instsOrdersSpec.post enc Try.prog Try.f5 false true false false) :=
  lifted_of (C := Try.checked) (X := X) Go.Ev.fit 6 (tb := 4) (by kernel_rfl) started (by kernel_rfl) Try.func5
    (ChangeSpec.witness6 (enc := enc) (C := Try.checked) false ⟨#[], #[.slice none 0 0, .agg #[.int .i64 0, .int .i64 0, .int .i64 0, .int .i64 0, .int .i64 0, .slice none 0 0], .agg #[.int .i64 0, .int .i64 0]], []⟩ 8 (by kernel_rfl) (by kernel_rfl) (by kernel_rfl) (by kernel_rfl))
    (by kernel_rfl) rfl (fun ds h => match ds, h with | [_, _, _], _ => rfl) rfl Try.underlying4 (by kernel_rfl) (by kernel_rfl) instsOrders_law
theorem instsOrders_holds : Rows.InstsOrdersSaid :=
  OpenClaim.holds_of_wide 5 Try.f5 rfl rfl rfl rfl rfl rfl rfl ⟨rfl, rfl, rfl, rfl, rfl⟩ rfl rfl rfl rfl rfl (by kernel_rfl) Try.func5 (by kernel_rfl)
    (of_decide_eq_true (by kernel_rfl)) (by unfold Func.isWrapper; first | (rw [if_pos (by decide +kernel)]; kernel_rfl) | (rw [if_neg (by decide +kernel)]; exact ⟨rfl, rfl⟩))
    (fun os started H enc _ => instsOrders_lifted os started H enc)
end Go.Proofs.Ytidlajmifppcnaa
