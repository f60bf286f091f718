/-
Arguments that are commands in a row, opened.
-/
import Derived.Test.YtennoblijpfacaaPlay
set_option linter.unusedSimpArgs false
set_option linter.unusedVariables false
set_option maxRecDepth 100000
namespace Go.Ev
open Go.Proofs

theorem fits_cmds {h : Heap} {d : Nat} {cs : List V} (hf : Fits X.ty h (d + 4) 48 cs) : ∃ v L, cs = [v] ∧ CmdsAt h v L := by
  unfold Fits at hf
  rw [ty48] at hf
  have hmax : maxLen = 9223372036854775807 := by decide
  rw [hmax] at hf
  rcases hf with rfl | rfl | ⟨b, len, cap, full, rfl, h1, h2, h3, h4, h5, h6⟩
  · exact ⟨_, [], rfl, .nil, 0, 0, rfl, by decide, by simp, .inl rfl⟩
  · exact ⟨_, [], rfl, .any, 0, 1, rfl, by decide, by simp, .inl rfl⟩
  · have hsz : (X.ty 24).size = 6 := by rw [ty24]
    rw [hsz] at h5 h6
    have hx : ∀ i, ∃ x : Cm, i < cap → (full.drop (i * 6)).take 6 = cmdV x.o x.c x.q x.f x.t x.v ∧ StrsAt h x.v x.l := by
      intro i
      by_cases hi : i < cap
      · obtain ⟨o, c, q, f, t, v, l, e, _, _, _, _, _, hs⟩ := fits_cmd (h6 i hi)
        exact ⟨⟨o, c, q, f, t, v, l⟩, fun _ => ⟨e, hs.at⟩⟩
      · exact ⟨⟨0, 0, 0, 0, 0, .nilp, []⟩, fun h' => absurd h' hi⟩
    obtain ⟨g, hg⟩ := Classical.axiomOfChoice hx
    refine ⟨_, (List.range len).map g, rfl, .at b 0 0, cap, 0, by simp, by rw [List.length_map, List.length_range]; omega, ?_, .inr ⟨b, 0, 0, false, full, rfl, ?_, ?_⟩⟩
    · intro x hm
      obtain ⟨i, hi, rfl⟩ := List.mem_map.1 hm
      have := List.mem_range.1 hi
      exact (hg i (by omega)).2
    · unfold hcells; rw [h4]; exact grd_t rfl _
    · intro i x hi
      rw [List.getElem?_map] at hi
      cases hr : (List.range len)[i]? with
      | none => rw [hr] at hi; cases hi
      | some j =>
        rw [hr] at hi
        have hj : i < len := by have := (List.getElem?_eq_some_iff.1 hr).1; simpa using this
        have : j = i := by rw [List.getElem?_range hj] at hr; exact (Option.some.inj hr).symm
        subst this
        simp only [Option.map_some, Option.some.injEq] at hi
        subst hi
        rw [Nat.zero_add]
        refine ⟨(hg j (by omega)).1, ?_⟩
        rw [h5]
        have : (j + 1) * 6 ≤ cap * 6 := Nat.mul_le_mul_right 6 (by omega)
        omega
end Go.Ev
