/- 'StoreLays' returns true for every command and all bytes, and each argument reads afterwards as it read before. No condition is added. -/
import Derived.Test.YtennoblijpfacaaAd
import Derived.Test.YtennoblijpfacaaRows
set_option linter.unusedSimpArgs false
set_option linter.unusedVariables false
set_option maxRecDepth 100000
namespace Go.Proofs.Ytennoblijpfacaa
open Go.ChangeShapes Go.WideShapes Go.ChangeAt Go.RowKit Go.Ev
theorem storeLays_law (hp : Heap) (xss : List (List V)) (hf : FitsAll (tyOf Try.prog) hp 6 Try.f12.params.toList xss) :
    ∃ h', D X (.fn 12 []) (argVs (tyOf Try.prog) Try.f12.params.toList xss) hp = some (.bool true, h') := by
  rw [<- Go.Ev.fit.ty, Try.params12] at hf
  rw [<- Go.Ev.fit.ty, Try.params12]
  match xss, hf with
  | [x0, x1], hf =>
    obtain ⟨ha, hb, _⟩ := hf
    obtain ⟨o, c, q, f, t, w, l, rfl, i0, i1, i2, i3, i4, hs⟩ := fits_cmd ha
    obtain ⟨v, bs, rfl, hm⟩ := fits_bytes hb
    unfold In64 at i0 i1 i2 i3 i4
    obtain ⟨⟨v', h'⟩, e, e'⟩ := storeLays_at (o := o) (c := c) (q := q) (f := f) (t := t) hs.at (by unfold In64'; omega) (by unfold In64'; omega) (by unfold In64'; omega) (by unfold In64'; omega) hm
    dsimp only at e'
    subst e'
    refine ⟨h', ?_⟩
    simp only [argVs,argV,ty24,ty64,TI.kind,List.headD]
    exact e
theorem storeLays_lifted (os : Os) (started : os.Started) (H : Type) (enc : TypeId × Value -> H) :
    ReturnsInHanded {} Try.checked os 12 .any (Rows.storeLaysSpec.pre6 enc Try.prog Try.f12 Rows.storeLaysRow.domain false) (Rows.storeLaysSpec.post enc Try.prog Try.f12 false true false false) :=
  lifted_of (C := Try.checked) (X := X) Go.Ev.fit 6 (tb := 4) (by kernel_rfl) started (by kernel_rfl) Try.func12
    (ChangeSpec.witness6 (enc := enc) (C := Try.checked) false ⟨#[], #[.agg #[.int .i64 0, .int .i64 0, .int .i64 0, .int .i64 0, .int .i64 0, .slice none 0 0], .slice none 0 0], []⟩ 8 (by kernel_rfl) (by kernel_rfl) (by kernel_rfl) (by kernel_rfl))
    (by kernel_rfl) rfl (fun ds h => match ds, h with | [_, _], _ => rfl) rfl Try.underlying4 (by kernel_rfl) (by kernel_rfl) storeLays_law
theorem storeLays_holds : Rows.StoreLaysSaid :=
  OpenClaim.holds_of_wide 12 Try.f12 rfl rfl rfl rfl rfl rfl rfl ⟨rfl, rfl, rfl, rfl, rfl⟩ rfl rfl rfl rfl rfl (by kernel_rfl) Try.func12 (by kernel_rfl)
    (of_decide_eq_true (by kernel_rfl)) (by unfold Func.isWrapper; first | (rw [if_pos (by decide +kernel)]; kernel_rfl) | (rw [if_neg (by decide +kernel)]; exact ⟨rfl, rfl⟩))
    (fun os started H enc _ => storeLays_lifted os started H enc)
end Go.Proofs.Ytennoblijpfacaa
