/-
The closed checks of this seat's program, by the kernel; the interpreter that knows what lives() answers.
-/
import Derived.Test.YtgkmfoljhapmiaaTab
import Derived.Test.YtgkmfoljhapmiaaOp24
import Derived.KernelRfl
set_option linter.unusedSimpArgs false
set_option linter.unusedVariables false
namespace Go.Ev
open Go.Proofs

theorem tysChk : (List.range Try.prog.types.size).all (typeChk Try.prog) = true := by decide +kernel
theorem fnsChk : (List.range Try.prog.funcs.size).all (bodyChk X0 Try.prog) = true := by decide +kernel

theorem fit0 : Fit Try.prog X0 where
  ty := by kernel_rfl
  body := by kernel_rfl
  mixed := by kernel_rfl
  types := fun t ht => List.all_eq_true.1 tysChk t (List.mem_range.2 ht)
  bodies := fun f hf => List.all_eq_true.1 fnsChk f (List.mem_range.2 hf)
  pins := fun f b h => by cases h

theorem livesRun : ((callN X0 60 (.fn 17 []) [] []).map fun r => match r.1 with | .bool b => some b | _ => none) = some (some true) := by decide +kernel
theorem livesBody : (bodyOf Try.prog 17).isSome = true := by decide +kernel

/-- The interpreter that knows lives(). -/
noncomputable def X : Env := X0.pins fun f => if f = 17 then some true else none

theorem fit : Fit Try.prog X := by
  refine fit0.pinsFit fun f b h => ?_
  by_cases hf : f = 17
  · subst hf
    simp only [if_true, Option.some.injEq] at h
    subst h
    exact ⟨livesBody, fun w => fit0.closed livesRun w⟩
  · simp only [hf, if_false] at h
    cases h
#print axioms fit
end Go.Ev
