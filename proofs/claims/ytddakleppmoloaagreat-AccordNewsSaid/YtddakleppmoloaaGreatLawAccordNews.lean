/- 'AccordNews' returns true for every number, all numbers and every row of instances, and each argument reads afterwards as it read before. No condition is added. -/
import Derived.Test.YtddakleppmoloaaGreatAg
import Derived.Test.YtddakleppmoloaaGreatRows
set_option linter.unusedSimpArgs false
set_option linter.unusedVariables false
set_option maxRecDepth 100000
namespace Go.Proofs.YtddakleppmoloaaGreat
open Go.ChangeShapes Go.WideShapes Go.ChangeAt Go.RowKit Go.Ev
theorem accordNews_law (hp : Heap) (xss : List (List V)) (hf : FitsAll (tyOf Tryz.prog) hp 6 Tryz.f9.params.toList xss) :
    ∃ h', D X (.fn 9 []) (argVs (tyOf Tryz.prog) Tryz.f9.params.toList xss) hp = some (.bool true, h') := by
  rw [<- Go.Ev.fit.ty, Tryz.params9] at hf
  rw [<- Go.Ev.fit.ty, Tryz.params9]
  obtain ⟨x0, x1, x2, rfl, ha, hb, hc⟩ := FitsAll.three hf
  obtain ⟨i, rfl, _⟩ := fits_int ha
  obtain ⟨v, L, rfl, hL⟩ := fits_ints hb
  obtain ⟨w, M, rfl, hM, _⟩ := fits_insts hc
  obtain ⟨a0, n0, c0, z0', e0, hcap⟩ := fits_cap hc
  cases e0
  obtain ⟨⟨v', h'⟩, e, e'⟩ := accordNews_at hL hM ⟨_, _, _, _, rfl, hcap⟩ i
  dsimp only at e'
  subst e'
  refine ⟨h', ?_⟩
  simp only [argVs,argV,ty3,ty43,ty22,TI.kind,List.headD]
  exact e
theorem accordNews_lifted (os : Os) (started : os.Started) (H : Type) (enc : TypeId × Value -> H) :
    ReturnsInHanded {} Tryz.checked os 9 .any (Rows.accordNewsSpec.pre6 enc Tryz.prog Tryz.f9 Rows.accordNewsRow.domain false) (Rows.accordNewsSpec.post enc Tryz.prog Tryz.f9 false true false false) :=
  lifted_of (C := Tryz.checked) (X := X) Go.Ev.fit 6 (tb := 4) (by kernel_rfl) started (by kernel_rfl) Tryz.func9
    (ChangeSpec.witness6 (enc := enc) (C := Tryz.checked) false ⟨#[], #[.int .i64 0, .slice none 0 0, .slice none 0 0], []⟩ 8 (by kernel_rfl) (by kernel_rfl) (by kernel_rfl) (by kernel_rfl))
    (by kernel_rfl) rfl (fun ds h => match ds, h with | [_, _, _], _ => rfl) rfl Tryz.underlying4 (by kernel_rfl) (by kernel_rfl) accordNews_law
theorem accordNews_holds : Rows.AccordNewsSaid :=
  OpenClaim.holds_of_wide 9 Tryz.f9 rfl rfl rfl rfl rfl rfl rfl ⟨rfl, rfl, rfl, rfl, rfl⟩ rfl rfl rfl rfl rfl (by kernel_rfl) Tryz.func9 (by kernel_rfl)
    (of_decide_eq_true (by kernel_rfl)) (by unfold Func.isWrapper; first | (rw [if_pos (by decide +kernel)]; kernel_rfl) | (rw [if_neg (by decide +kernel)]; exact ⟨rfl, rfl⟩))
    (fun os started H enc _ => accordNews_lifted os started H enc)
end Go.Proofs.YtddakleppmoloaaGreat
