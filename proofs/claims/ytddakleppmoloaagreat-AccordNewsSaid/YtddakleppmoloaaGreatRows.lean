/-
  No cell of these rows narrows 'for every input' (looked for: loops, veiled, ifaces, maps, wideKeys, modest, calm, conditions, laid).
  DERIVED. THE GIVEN ROWS OF THIS SEAT. 7 by the template 'for every input the law returns true; each argument reads behind the call as it read before'; 0 by the template 'total and deterministic' (their statements: YtddakleppmoloaaGreatTotals.lean).
  GIVEN WITH THE SEED: the statements are not yours to turn. If you find one false, say at which input.
  Laid BY PROGRAM, IN A SANDBOX (cutbox-rows.mjs): the forced cells as the released guide's own fill.sh prints them over the translation 2f09571d40c74764… (all of the seat's roots in one cut). By AI agents, Wed Nov 11 2026. No macro, syntax, notation, axiom, sorry.
-/
import Derived.Test.YtddakleppmoloaaGreatChecked
import GoSem.Claim
import GoSem.ClaimJoined
import GoSem.ClaimMapViews
import Derived.JoinedTies
import Derived.KernelRfl
namespace Go.Proofs.YtddakleppmoloaaGreat
/- THE CELL 'sum', in the pinned program and in every row, IS THE sha256 OF THE DUMP (.gsa) THAT YtddakleppmoloaaGreatProg.lean LOADS. Nothing in Lean hashes anything: it is a label: what it is worth is what the hold of that sum in a sandbox is worth. -/
noncomputable def Tryz.pinned : Pinned := { name := "ytddakleppmoloaagreat", sum := "2f09571d40c747640a933a1d4cfa7f5099cfa5f3ab79b79c89dd9cb7f2cfc34d", checked := Tryz.checked }
namespace Rows
def none {H : Type} : Left H := { results := [], args := [] }

/-- 'lamellalaw08.AccordAnswers': WHATEVER THE INPUT: true; the input reads as it did. -/
def accordAnswersSpec : ChangeSpec := { name := "accordAnswers", fn := fun _ => fun
  | [d1, d2] => { results := [.lit (.bool true)], args := [d1, d2] }
  | _ => none }
def accordAnswersRow : OpenClaim := { program := "ytddakleppmoloaagreat", sum := "2f09571d40c747640a933a1d4cfa7f5099cfa5f3ab79b79c89dd9cb7f2cfc34d", func := "lamella/lamellalaw08.AccordAnswers", spec := "accordAnswers", unfollowed := true, recurses := true, plainKeys := false, apart := false }
def AccordAnswersSaid : Prop := accordAnswersRow.holds Tryz.pinned (OpenSpec.ofChange accordAnswersSpec)

/-- ITS FALSE NEIGHBOUR: 'it returns false'. Refute it at one input. -/
def accordAnswersWrong : ChangeSpec := { name := "accordAnswers", fn := fun _ => fun
  | [d1, d2] => { results := [.lit (.bool false)], args := [d1, d2] }
  | _ => none }
def AccordAnswersWrongFalsely : Prop := accordAnswersRow.holds Tryz.pinned (OpenSpec.ofChange accordAnswersWrong)

/-- 'lamellalaw08.AccordForeign': WHATEVER THE INPUT: true; the input reads as it did. -/
def accordForeignSpec : ChangeSpec := { name := "accordForeign", fn := fun _ => fun
  | [d1, d2] => { results := [.lit (.bool true)], args := [d1, d2] }
  | _ => none }
def accordForeignRow : OpenClaim := { program := "ytddakleppmoloaagreat", sum := "2f09571d40c747640a933a1d4cfa7f5099cfa5f3ab79b79c89dd9cb7f2cfc34d", func := "lamella/lamellalaw08.AccordForeign", spec := "accordForeign", unfollowed := true, recurses := true, plainKeys := false, apart := false }
def AccordForeignSaid : Prop := accordForeignRow.holds Tryz.pinned (OpenSpec.ofChange accordForeignSpec)

/-- ITS FALSE NEIGHBOUR: 'it returns false'. Refute it at one input. -/
def accordForeignWrong : ChangeSpec := { name := "accordForeign", fn := fun _ => fun
  | [d1, d2] => { results := [.lit (.bool false)], args := [d1, d2] }
  | _ => none }
def AccordForeignWrongFalsely : Prop := accordForeignRow.holds Tryz.pinned (OpenSpec.ofChange accordForeignWrong)

/-- 'lamellalaw08.AccordAgrees': WHATEVER THE INPUT: true; the input reads as it did. -/
def accordAgreesSpec : ChangeSpec := { name := "accordAgrees", fn := fun _ => fun
  | [d1, d2] => { results := [.lit (.bool true)], args := [d1, d2] }
  | _ => none }
def accordAgreesRow : OpenClaim := { program := "ytddakleppmoloaagreat", sum := "2f09571d40c747640a933a1d4cfa7f5099cfa5f3ab79b79c89dd9cb7f2cfc34d", func := "lamella/lamellalaw08.AccordAgrees", spec := "accordAgrees", unfollowed := true, recurses := true, plainKeys := false, apart := false }
def AccordAgreesSaid : Prop := accordAgreesRow.holds Tryz.pinned (OpenSpec.ofChange accordAgreesSpec)

/-- ITS FALSE NEIGHBOUR: 'it returns false'. Refute it at one input. -/
def accordAgreesWrong : ChangeSpec := { name := "accordAgrees", fn := fun _ => fun
  | [d1, d2] => { results := [.lit (.bool false)], args := [d1, d2] }
  | _ => none }
def AccordAgreesWrongFalsely : Prop := accordAgreesRow.holds Tryz.pinned (OpenSpec.ofChange accordAgreesWrong)

/-- 'lamellalaw08.AccordWants': WHATEVER THE INPUT: true; the input reads as it did. -/
def accordWantsSpec : ChangeSpec := { name := "accordWants", fn := fun _ => fun
  | [d1, d2, d3] => { results := [.lit (.bool true)], args := [d1, d2, d3] }
  | _ => none }
def accordWantsRow : OpenClaim := { program := "ytddakleppmoloaagreat", sum := "2f09571d40c747640a933a1d4cfa7f5099cfa5f3ab79b79c89dd9cb7f2cfc34d", func := "lamella/lamellalaw08.AccordWants", spec := "accordWants", unfollowed := true, recurses := true, plainKeys := false, apart := false }
def AccordWantsSaid : Prop := accordWantsRow.holds Tryz.pinned (OpenSpec.ofChange accordWantsSpec)

/-- ITS FALSE NEIGHBOUR: 'it returns false'. Refute it at one input. -/
def accordWantsWrong : ChangeSpec := { name := "accordWants", fn := fun _ => fun
  | [d1, d2, d3] => { results := [.lit (.bool false)], args := [d1, d2, d3] }
  | _ => none }
def AccordWantsWrongFalsely : Prop := accordWantsRow.holds Tryz.pinned (OpenSpec.ofChange accordWantsWrong)

/-- 'lamellalaw08.AccordFast': WHATEVER THE INPUT: true; the input reads as it did. -/
def accordFastSpec : ChangeSpec := { name := "accordFast", fn := fun _ => fun
  | [d1, d2] => { results := [.lit (.bool true)], args := [d1, d2] }
  | _ => none }
def accordFastRow : OpenClaim := { program := "ytddakleppmoloaagreat", sum := "2f09571d40c747640a933a1d4cfa7f5099cfa5f3ab79b79c89dd9cb7f2cfc34d", func := "lamella/lamellalaw08.AccordFast", spec := "accordFast", unfollowed := true, recurses := true, plainKeys := false, apart := false }
def AccordFastSaid : Prop := accordFastRow.holds Tryz.pinned (OpenSpec.ofChange accordFastSpec)

/-- ITS FALSE NEIGHBOUR: 'it returns false'. Refute it at one input. -/
def accordFastWrong : ChangeSpec := { name := "accordFast", fn := fun _ => fun
  | [d1, d2] => { results := [.lit (.bool false)], args := [d1, d2] }
  | _ => none }
def AccordFastWrongFalsely : Prop := accordFastRow.holds Tryz.pinned (OpenSpec.ofChange accordFastWrong)

/-- 'lamellalaw08.AccordFew': WHATEVER THE INPUT: true; the input reads as it did. -/
def accordFewSpec : ChangeSpec := { name := "accordFew", fn := fun _ => fun
  | [d1, d2, d3] => { results := [.lit (.bool true)], args := [d1, d2, d3] }
  | _ => none }
def accordFewRow : OpenClaim := { program := "ytddakleppmoloaagreat", sum := "2f09571d40c747640a933a1d4cfa7f5099cfa5f3ab79b79c89dd9cb7f2cfc34d", func := "lamella/lamellalaw08.AccordFew", spec := "accordFew", unfollowed := true, recurses := true, plainKeys := false, apart := false }
def AccordFewSaid : Prop := accordFewRow.holds Tryz.pinned (OpenSpec.ofChange accordFewSpec)

/-- ITS FALSE NEIGHBOUR: 'it returns false'. Refute it at one input. -/
def accordFewWrong : ChangeSpec := { name := "accordFew", fn := fun _ => fun
  | [d1, d2, d3] => { results := [.lit (.bool false)], args := [d1, d2, d3] }
  | _ => none }
def AccordFewWrongFalsely : Prop := accordFewRow.holds Tryz.pinned (OpenSpec.ofChange accordFewWrong)

/-- 'lamellalaw08.AccordNews': WHATEVER THE INPUT: true; the input reads as it did. -/
def accordNewsSpec : ChangeSpec := { name := "accordNews", fn := fun _ => fun
  | [d1, d2, d3] => { results := [.lit (.bool true)], args := [d1, d2, d3] }
  | _ => none }
def accordNewsRow : OpenClaim := { program := "ytddakleppmoloaagreat", sum := "2f09571d40c747640a933a1d4cfa7f5099cfa5f3ab79b79c89dd9cb7f2cfc34d", func := "lamella/lamellalaw08.AccordNews", spec := "accordNews", unfollowed := true, recurses := true, plainKeys := false, apart := false }
def AccordNewsSaid : Prop := accordNewsRow.holds Tryz.pinned (OpenSpec.ofChange accordNewsSpec)

/-- ITS FALSE NEIGHBOUR: 'it returns false'. Refute it at one input. -/
def accordNewsWrong : ChangeSpec := { name := "accordNews", fn := fun _ => fun
  | [d1, d2, d3] => { results := [.lit (.bool false)], args := [d1, d2, d3] }
  | _ => none }
def AccordNewsWrongFalsely : Prop := accordNewsRow.holds Tryz.pinned (OpenSpec.ofChange accordNewsWrong)

/- THE SECOND FORM. 'bulk': how many values and letters a reading holds, each counted each time it is reached (what is shared counts as often as it is met; a slice's spare places count too). A statement '..UptoSaid' is the law's where the arguments, and the package variables that the reading takes, are together of bulk at most 1048576: NARROWER than '..Said'. Prove '..Said' where nothing that the law and all that it calls make is longer than what came in: it says more and counts as full. Else prove '..UptoSaid'. A law counts once. -/
mutual
def uptoBulk {H : Type} : DataW H → Nat
  | .lit (.string bytes) => bytes.length + 1
  | .lit _ => 1
  | .nil => 1
  | .ptr d => uptoBulk d + 1
  | .slice elems spare => uptoBulkAll elems + uptoBulkAll spare + 1
  | .agg parts => uptoBulkAll parts + 1
  | .iface _ d => uptoBulk d + 1
  | .map entries => uptoBulkEntries entries + 1
  | .held _ => 1
def uptoBulkAll {H : Type} : List (DataW H) → Nat
  | [] => 0
  | d :: r => uptoBulk d + uptoBulkAll r
def uptoBulkEntries {H : Type} : List (Lit × DataW H) → Nat
  | [] => 0
  | x :: r => uptoBulkEntry x + uptoBulkEntries r
def uptoBulkEntry {H : Type} : Lit × DataW H → Nat
  | (.string bytes, d) => bytes.length + uptoBulk d + 1
  | (_, d) => uptoBulk d + 1
 end
def uptoSmall : (H : Type) → List (DataW H) → Bool := fun _ ds => decide (uptoBulkAll ds ≤ 1048576)
def OpenSpec.upto (s : _root_.Go.ChangeSpec) : _root_.Go.OpenSpec := { _root_.Go.OpenSpec.ofChange s with cond := some uptoSmall }

/-- 'lamellalaw08.AccordAnswers', WHERE WHAT IT READS IS OF BULK AT MOST 1048576: true; the input reads as it did. -/
def accordAnswersUptoRow : OpenClaim := { program := "ytddakleppmoloaagreat", sum := "2f09571d40c747640a933a1d4cfa7f5099cfa5f3ab79b79c89dd9cb7f2cfc34d", func := "lamella/lamellalaw08.AccordAnswers", spec := "accordAnswers", unfollowed := true, recurses := true, plainKeys := false, apart := false, narrowed := true }
def AccordAnswersUptoSaid : Prop := accordAnswersUptoRow.holds Tryz.pinned (OpenSpec.upto accordAnswersSpec)

/-- 'lamellalaw08.AccordForeign', WHERE WHAT IT READS IS OF BULK AT MOST 1048576: true; the input reads as it did. -/
def accordForeignUptoRow : OpenClaim := { program := "ytddakleppmoloaagreat", sum := "2f09571d40c747640a933a1d4cfa7f5099cfa5f3ab79b79c89dd9cb7f2cfc34d", func := "lamella/lamellalaw08.AccordForeign", spec := "accordForeign", unfollowed := true, recurses := true, plainKeys := false, apart := false, narrowed := true }
def AccordForeignUptoSaid : Prop := accordForeignUptoRow.holds Tryz.pinned (OpenSpec.upto accordForeignSpec)

/-- 'lamellalaw08.AccordAgrees', WHERE WHAT IT READS IS OF BULK AT MOST 1048576: true; the input reads as it did. -/
def accordAgreesUptoRow : OpenClaim := { program := "ytddakleppmoloaagreat", sum := "2f09571d40c747640a933a1d4cfa7f5099cfa5f3ab79b79c89dd9cb7f2cfc34d", func := "lamella/lamellalaw08.AccordAgrees", spec := "accordAgrees", unfollowed := true, recurses := true, plainKeys := false, apart := false, narrowed := true }
def AccordAgreesUptoSaid : Prop := accordAgreesUptoRow.holds Tryz.pinned (OpenSpec.upto accordAgreesSpec)

/-- 'lamellalaw08.AccordWants', WHERE WHAT IT READS IS OF BULK AT MOST 1048576: true; the input reads as it did. -/
def accordWantsUptoRow : OpenClaim := { program := "ytddakleppmoloaagreat", sum := "2f09571d40c747640a933a1d4cfa7f5099cfa5f3ab79b79c89dd9cb7f2cfc34d", func := "lamella/lamellalaw08.AccordWants", spec := "accordWants", unfollowed := true, recurses := true, plainKeys := false, apart := false, narrowed := true }
def AccordWantsUptoSaid : Prop := accordWantsUptoRow.holds Tryz.pinned (OpenSpec.upto accordWantsSpec)

/-- 'lamellalaw08.AccordFast', WHERE WHAT IT READS IS OF BULK AT MOST 1048576: true; the input reads as it did. -/
def accordFastUptoRow : OpenClaim := { program := "ytddakleppmoloaagreat", sum := "2f09571d40c747640a933a1d4cfa7f5099cfa5f3ab79b79c89dd9cb7f2cfc34d", func := "lamella/lamellalaw08.AccordFast", spec := "accordFast", unfollowed := true, recurses := true, plainKeys := false, apart := false, narrowed := true }
def AccordFastUptoSaid : Prop := accordFastUptoRow.holds Tryz.pinned (OpenSpec.upto accordFastSpec)

/-- 'lamellalaw08.AccordFew', WHERE WHAT IT READS IS OF BULK AT MOST 1048576: true; the input reads as it did. -/
def accordFewUptoRow : OpenClaim := { program := "ytddakleppmoloaagreat", sum := "2f09571d40c747640a933a1d4cfa7f5099cfa5f3ab79b79c89dd9cb7f2cfc34d", func := "lamella/lamellalaw08.AccordFew", spec := "accordFew", unfollowed := true, recurses := true, plainKeys := false, apart := false, narrowed := true }
def AccordFewUptoSaid : Prop := accordFewUptoRow.holds Tryz.pinned (OpenSpec.upto accordFewSpec)

/-- 'lamellalaw08.AccordNews', WHERE WHAT IT READS IS OF BULK AT MOST 1048576: true; the input reads as it did. -/
def accordNewsUptoRow : OpenClaim := { program := "ytddakleppmoloaagreat", sum := "2f09571d40c747640a933a1d4cfa7f5099cfa5f3ab79b79c89dd9cb7f2cfc34d", func := "lamella/lamellalaw08.AccordNews", spec := "accordNews", unfollowed := true, recurses := true, plainKeys := false, apart := false, narrowed := true }
def AccordNewsUptoSaid : Prop := accordNewsUptoRow.holds Tryz.pinned (OpenSpec.upto accordNewsSpec)

end Rows
end Go.Proofs.YtddakleppmoloaaGreat
