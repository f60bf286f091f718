/- 'InstsLays' returns true for every instance and all bytes, and each argument reads afterwards as it read before. No condition is added. -/
import Derived.Test.YtidlajmifppcnaaAg
import Derived.Test.YtidlajmifppcnaaRows
set_option linter.unusedSimpArgs false
set_option linter.unusedVariables false
set_option maxRecDepth 100000
namespace Go.Proofs.Ytidlajmifppcnaa
open Go.ChangeShapes Go.WideShapes Go.ChangeAt Go.RowKit Go.Ev
theorem instsLays_law (hp : Heap) (xss : List (List V)) (hf : FitsAll (tyOf Try.prog) hp 6 Try.f11.params.toList xss) :
    ∃ h', D X (.fn 11 []) (argVs (tyOf Try.prog) Try.f11.params.toList xss) hp = some (.bool true, h') := by
  rw [<- Go.Ev.fit.ty, Try.params11] at hf
  rw [<- Go.Ev.fit.ty, Try.params11]
  obtain ⟨x0, x1, rfl, ha, hb⟩ := FitsAll.two hf
  obtain ⟨x, rfl, hx, hok, hps⟩ := fits_instN ha
  obtain ⟨v, bs, rfl, hm⟩ := fits_bytes hb
  obtain ⟨⟨v', h'⟩, e, e'⟩ := instsLays_at hx hok hps hm
  dsimp only at e'
  subst e'
  refine ⟨h', ?_⟩
  simp only [argVs,argV,ty31,ty67,TI.kind,List.headD]
  exact e
theorem instsLays_lifted (os : Os) (started : os.Started) (H : Type) (enc : TypeId × Value -> H) :
    ReturnsInHanded {} Try.checked os 11 .any (Rows.instsLaysSpec.pre6 enc Try.prog Try.f11 Rows.instsLaysRow.domain false) (Rows.instsLaysSpec.post enc Try.prog Try.f11 false true false false) :=
  lifted_of (C := Try.checked) (X := X) Go.Ev.fit 6 (tb := 4) (by kernel_rfl) started (by kernel_rfl) Try.func11
    (ChangeSpec.witness6 (enc := enc) (C := Try.checked) false ⟨#[], #[.agg #[.int .i64 0, .int .i64 0, .int .i64 0, .int .i64 0, .int .i64 0, .int .i64 0, .int .i64 0, .bool false, .int .i64 0, .int .i64 0, .int .i64 0, .int .i64 0, .int .i64 0, .slice none 0 0, .int .i64 0, .slice none 0 0], .slice none 0 0], []⟩ 8 (by kernel_rfl) (by kernel_rfl) (by kernel_rfl) (by kernel_rfl))
    (by kernel_rfl) rfl (fun ds h => match ds, h with | [_, _], _ => rfl) rfl Try.underlying4 (by kernel_rfl) (by kernel_rfl) instsLays_law
theorem instsLays_holds : Rows.InstsLaysSaid :=
  OpenClaim.holds_of_wide 11 Try.f11 rfl rfl rfl rfl rfl rfl rfl ⟨rfl, rfl, rfl, rfl, rfl⟩ rfl rfl rfl rfl rfl (by kernel_rfl) Try.func11 (by kernel_rfl)
    (of_decide_eq_true (by kernel_rfl)) (by unfold Func.isWrapper; first | (rw [if_pos (by decide +kernel)]; kernel_rfl) | (rw [if_neg (by decide +kernel)]; exact ⟨rfl, rfl⟩))
    (fun os started H enc _ => instsLays_lifted os started H enc)
end Go.Proofs.Ytidlajmifppcnaa
