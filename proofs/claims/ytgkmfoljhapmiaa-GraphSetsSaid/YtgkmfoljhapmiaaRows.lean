/-
  No cell of these rows narrows 'for every input' (looked for: loops, veiled, ifaces, maps, wideKeys, modest, calm, conditions, laid).
  DERIVED. THE GIVEN ROWS OF THIS SEAT. 8 by the template 'for every input the law returns true; each argument reads behind the call as it read before'; 0 by the template 'total and deterministic' (their statements: YtgkmfoljhapmiaaTotals.lean).
  GIVEN WITH THE SEED: the statements are not yours to turn. If you find one false, say at which input.
  Laid BY PROGRAM, IN A SANDBOX (cutbox-rows.mjs): the forced cells as the released guide's own fill.sh prints them over the translation beb95ef64bb91159… (all of the seat's roots in one cut). By AI agents, Wed Nov 11 2026. No macro, syntax, notation, axiom, sorry.
-/
import Derived.Test.YtgkmfoljhapmiaaChecked
import GoSem.Claim
import GoSem.ClaimJoined
import GoSem.ClaimMapViews
import Derived.JoinedTies
import Derived.KernelRfl
namespace Go.Proofs.Ytgkmfoljhapmiaa
/- THE CELL 'sum', in the pinned program and in every row, IS THE sha256 OF THE DUMP (.gsa) THAT YtgkmfoljhapmiaaProg.lean LOADS. Nothing in Lean hashes anything: it is a label: what it is worth is what the hold of that sum in a sandbox is worth. -/
noncomputable def Try.pinned : Pinned := { name := "ytgkmfoljhapmiaa", sum := "beb95ef64bb911599cc82fff3ecf995e3773c1fe5c027ebcd4a900131d59f8d8", checked := Try.checked }
namespace Rows
def none {H : Type} : Left H := { results := [], args := [] }

/-- 'lamellalaw06.GraphRefs': WHATEVER THE INPUT: true; the input reads as it did. -/
def graphRefsSpec : ChangeSpec := { name := "graphRefs", fn := fun _ => fun
  | [d1, d2] => { results := [.lit (.bool true)], args := [d1, d2] }
  | _ => none }
def graphRefsRow : OpenClaim := { program := "ytgkmfoljhapmiaa", sum := "beb95ef64bb911599cc82fff3ecf995e3773c1fe5c027ebcd4a900131d59f8d8", func := "lamella/lamellalaw06.GraphRefs", spec := "graphRefs", unfollowed := true, recurses := true, plainKeys := false, apart := false }
def GraphRefsSaid : Prop := graphRefsRow.holds Try.pinned (OpenSpec.ofChange graphRefsSpec)

/-- ITS FALSE NEIGHBOUR: 'it returns false'. Refute it at one input. -/
def graphRefsWrong : ChangeSpec := { name := "graphRefs", fn := fun _ => fun
  | [d1, d2] => { results := [.lit (.bool false)], args := [d1, d2] }
  | _ => none }
def GraphRefsWrongFalsely : Prop := graphRefsRow.holds Try.pinned (OpenSpec.ofChange graphRefsWrong)

/-- 'lamellalaw06.GraphBehind': WHATEVER THE INPUT: true; the input reads as it did. -/
def graphBehindSpec : ChangeSpec := { name := "graphBehind", fn := fun _ => fun
  | [d1, d2] => { results := [.lit (.bool true)], args := [d1, d2] }
  | _ => none }
def graphBehindRow : OpenClaim := { program := "ytgkmfoljhapmiaa", sum := "beb95ef64bb911599cc82fff3ecf995e3773c1fe5c027ebcd4a900131d59f8d8", func := "lamella/lamellalaw06.GraphBehind", spec := "graphBehind", unfollowed := true, recurses := true, plainKeys := false, apart := false }
def GraphBehindSaid : Prop := graphBehindRow.holds Try.pinned (OpenSpec.ofChange graphBehindSpec)

/-- ITS FALSE NEIGHBOUR: 'it returns false'. Refute it at one input. -/
def graphBehindWrong : ChangeSpec := { name := "graphBehind", fn := fun _ => fun
  | [d1, d2] => { results := [.lit (.bool false)], args := [d1, d2] }
  | _ => none }
def GraphBehindWrongFalsely : Prop := graphBehindRow.holds Try.pinned (OpenSpec.ofChange graphBehindWrong)

/-- 'lamellalaw06.GraphSame': WHATEVER THE INPUT: true; the input reads as it did. -/
def graphSameSpec : ChangeSpec := { name := "graphSame", fn := fun _ => fun
  | [d1, d2] => { results := [.lit (.bool true)], args := [d1, d2] }
  | _ => none }
def graphSameRow : OpenClaim := { program := "ytgkmfoljhapmiaa", sum := "beb95ef64bb911599cc82fff3ecf995e3773c1fe5c027ebcd4a900131d59f8d8", func := "lamella/lamellalaw06.GraphSame", spec := "graphSame", unfollowed := true, recurses := true, plainKeys := false, apart := false }
def GraphSameSaid : Prop := graphSameRow.holds Try.pinned (OpenSpec.ofChange graphSameSpec)

/-- ITS FALSE NEIGHBOUR: 'it returns false'. Refute it at one input. -/
def graphSameWrong : ChangeSpec := { name := "graphSame", fn := fun _ => fun
  | [d1, d2] => { results := [.lit (.bool false)], args := [d1, d2] }
  | _ => none }
def GraphSameWrongFalsely : Prop := graphSameRow.holds Try.pinned (OpenSpec.ofChange graphSameWrong)

/-- 'lamellalaw06.GraphSteps': WHATEVER THE INPUT: true; the input reads as it did. -/
def graphStepsSpec : ChangeSpec := { name := "graphSteps", fn := fun _ => fun
  | [d1, d2] => { results := [.lit (.bool true)], args := [d1, d2] }
  | _ => none }
def graphStepsRow : OpenClaim := { program := "ytgkmfoljhapmiaa", sum := "beb95ef64bb911599cc82fff3ecf995e3773c1fe5c027ebcd4a900131d59f8d8", func := "lamella/lamellalaw06.GraphSteps", spec := "graphSteps", unfollowed := true, recurses := true, plainKeys := false, apart := false }
def GraphStepsSaid : Prop := graphStepsRow.holds Try.pinned (OpenSpec.ofChange graphStepsSpec)

/-- ITS FALSE NEIGHBOUR: 'it returns false'. Refute it at one input. -/
def graphStepsWrong : ChangeSpec := { name := "graphSteps", fn := fun _ => fun
  | [d1, d2] => { results := [.lit (.bool false)], args := [d1, d2] }
  | _ => none }
def GraphStepsWrongFalsely : Prop := graphStepsRow.holds Try.pinned (OpenSpec.ofChange graphStepsWrong)

/-- 'lamellalaw06.GraphLong': WHATEVER THE INPUT: true; the input reads as it did. -/
def graphLongSpec : ChangeSpec := { name := "graphLong", fn := fun _ => fun
  | [d1, d2, d3] => { results := [.lit (.bool true)], args := [d1, d2, d3] }
  | _ => none }
def graphLongRow : OpenClaim := { program := "ytgkmfoljhapmiaa", sum := "beb95ef64bb911599cc82fff3ecf995e3773c1fe5c027ebcd4a900131d59f8d8", func := "lamella/lamellalaw06.GraphLong", spec := "graphLong", unfollowed := true, recurses := true, plainKeys := false, apart := false }
def GraphLongSaid : Prop := graphLongRow.holds Try.pinned (OpenSpec.ofChange graphLongSpec)

/-- ITS FALSE NEIGHBOUR: 'it returns false'. Refute it at one input. -/
def graphLongWrong : ChangeSpec := { name := "graphLong", fn := fun _ => fun
  | [d1, d2, d3] => { results := [.lit (.bool false)], args := [d1, d2, d3] }
  | _ => none }
def GraphLongWrongFalsely : Prop := graphLongRow.holds Try.pinned (OpenSpec.ofChange graphLongWrong)

/-- 'lamellalaw06.GraphWants': WHATEVER THE INPUT: true; the input reads as it did. -/
def graphWantsSpec : ChangeSpec := { name := "graphWants", fn := fun _ => fun
  | [d] => { results := [.lit (.bool true)], args := [d] }
  | _ => none }
def graphWantsRow : OpenClaim := { program := "ytgkmfoljhapmiaa", sum := "beb95ef64bb911599cc82fff3ecf995e3773c1fe5c027ebcd4a900131d59f8d8", func := "lamella/lamellalaw06.GraphWants", spec := "graphWants", unfollowed := true, recurses := true, plainKeys := false, apart := false }
def GraphWantsSaid : Prop := graphWantsRow.holds Try.pinned (OpenSpec.ofChange graphWantsSpec)

/-- ITS FALSE NEIGHBOUR: 'it returns false'. Refute it at one input. -/
def graphWantsWrong : ChangeSpec := { name := "graphWants", fn := fun _ => fun
  | [d] => { results := [.lit (.bool false)], args := [d] }
  | _ => none }
def GraphWantsWrongFalsely : Prop := graphWantsRow.holds Try.pinned (OpenSpec.ofChange graphWantsWrong)

/-- 'lamellalaw06.GraphParts': WHATEVER THE INPUT: true; the input reads as it did. -/
def graphPartsSpec : ChangeSpec := { name := "graphParts", fn := fun _ => fun
  | [d] => { results := [.lit (.bool true)], args := [d] }
  | _ => none }
def graphPartsRow : OpenClaim := { program := "ytgkmfoljhapmiaa", sum := "beb95ef64bb911599cc82fff3ecf995e3773c1fe5c027ebcd4a900131d59f8d8", func := "lamella/lamellalaw06.GraphParts", spec := "graphParts", unfollowed := true, recurses := true, plainKeys := false, apart := false }
def GraphPartsSaid : Prop := graphPartsRow.holds Try.pinned (OpenSpec.ofChange graphPartsSpec)

/-- ITS FALSE NEIGHBOUR: 'it returns false'. Refute it at one input. -/
def graphPartsWrong : ChangeSpec := { name := "graphParts", fn := fun _ => fun
  | [d] => { results := [.lit (.bool false)], args := [d] }
  | _ => none }
def GraphPartsWrongFalsely : Prop := graphPartsRow.holds Try.pinned (OpenSpec.ofChange graphPartsWrong)

/-- 'lamellalaw06.GraphSets': WHATEVER THE INPUT: true; the input reads as it did. -/
def graphSetsSpec : ChangeSpec := { name := "graphSets", fn := fun _ => fun
  | [d1, d2] => { results := [.lit (.bool true)], args := [d1, d2] }
  | _ => none }
def graphSetsRow : OpenClaim := { program := "ytgkmfoljhapmiaa", sum := "beb95ef64bb911599cc82fff3ecf995e3773c1fe5c027ebcd4a900131d59f8d8", func := "lamella/lamellalaw06.GraphSets", spec := "graphSets", unfollowed := true, recurses := true, plainKeys := false, apart := false }
def GraphSetsSaid : Prop := graphSetsRow.holds Try.pinned (OpenSpec.ofChange graphSetsSpec)

/-- ITS FALSE NEIGHBOUR: 'it returns false'. Refute it at one input. -/
def graphSetsWrong : ChangeSpec := { name := "graphSets", fn := fun _ => fun
  | [d1, d2] => { results := [.lit (.bool false)], args := [d1, d2] }
  | _ => none }
def GraphSetsWrongFalsely : Prop := graphSetsRow.holds Try.pinned (OpenSpec.ofChange graphSetsWrong)

/- THE SECOND FORM. 'bulk': how many values and letters a reading holds, each counted each time it is reached (what is shared counts as often as it is met; a slice's spare places count too). A statement '..UptoSaid' is the law's where the arguments, and the package variables that the reading takes, are together of bulk at most 1048576: NARROWER than '..Said'. Prove '..Said' where nothing that the law and all that it calls make is longer than what came in: it says more and counts as full. Else prove '..UptoSaid'. A law counts once. -/
mutual
def uptoBulk {H : Type} : DataW H → Nat
  | .lit (.string bytes) => bytes.length + 1
  | .lit _ => 1
  | .nil => 1
  | .ptr d => uptoBulk d + 1
  | .slice elems spare => uptoBulkAll elems + uptoBulkAll spare + 1
  | .agg parts => uptoBulkAll parts + 1
  | .iface _ d => uptoBulk d + 1
  | .map entries => uptoBulkEntries entries + 1
  | .held _ => 1
def uptoBulkAll {H : Type} : List (DataW H) → Nat
  | [] => 0
  | d :: r => uptoBulk d + uptoBulkAll r
def uptoBulkEntries {H : Type} : List (Lit × DataW H) → Nat
  | [] => 0
  | x :: r => uptoBulkEntry x + uptoBulkEntries r
def uptoBulkEntry {H : Type} : Lit × DataW H → Nat
  | (.string bytes, d) => bytes.length + uptoBulk d + 1
  | (_, d) => uptoBulk d + 1
 end
def uptoSmall : (H : Type) → List (DataW H) → Bool := fun _ ds => decide (uptoBulkAll ds ≤ 1048576)
def OpenSpec.upto (s : _root_.Go.ChangeSpec) : _root_.Go.OpenSpec := { _root_.Go.OpenSpec.ofChange s with cond := some uptoSmall }

/-- 'lamellalaw06.GraphRefs', WHERE WHAT IT READS IS OF BULK AT MOST 1048576: true; the input reads as it did. -/
def graphRefsUptoRow : OpenClaim := { program := "ytgkmfoljhapmiaa", sum := "beb95ef64bb911599cc82fff3ecf995e3773c1fe5c027ebcd4a900131d59f8d8", func := "lamella/lamellalaw06.GraphRefs", spec := "graphRefs", unfollowed := true, recurses := true, plainKeys := false, apart := false, narrowed := true }
def GraphRefsUptoSaid : Prop := graphRefsUptoRow.holds Try.pinned (OpenSpec.upto graphRefsSpec)

/-- 'lamellalaw06.GraphBehind', WHERE WHAT IT READS IS OF BULK AT MOST 1048576: true; the input reads as it did. -/
def graphBehindUptoRow : OpenClaim := { program := "ytgkmfoljhapmiaa", sum := "beb95ef64bb911599cc82fff3ecf995e3773c1fe5c027ebcd4a900131d59f8d8", func := "lamella/lamellalaw06.GraphBehind", spec := "graphBehind", unfollowed := true, recurses := true, plainKeys := false, apart := false, narrowed := true }
def GraphBehindUptoSaid : Prop := graphBehindUptoRow.holds Try.pinned (OpenSpec.upto graphBehindSpec)

/-- 'lamellalaw06.GraphSame', WHERE WHAT IT READS IS OF BULK AT MOST 1048576: true; the input reads as it did. -/
def graphSameUptoRow : OpenClaim := { program := "ytgkmfoljhapmiaa", sum := "beb95ef64bb911599cc82fff3ecf995e3773c1fe5c027ebcd4a900131d59f8d8", func := "lamella/lamellalaw06.GraphSame", spec := "graphSame", unfollowed := true, recurses := true, plainKeys := false, apart := false, narrowed := true }
def GraphSameUptoSaid : Prop := graphSameUptoRow.holds Try.pinned (OpenSpec.upto graphSameSpec)

/-- 'lamellalaw06.GraphSteps', WHERE WHAT IT READS IS OF BULK AT MOST 1048576: true; the input reads as it did. -/
def graphStepsUptoRow : OpenClaim := { program := "ytgkmfoljhapmiaa", sum := "beb95ef64bb911599cc82fff3ecf995e3773c1fe5c027ebcd4a900131d59f8d8", func := "lamella/lamellalaw06.GraphSteps", spec := "graphSteps", unfollowed := true, recurses := true, plainKeys := false, apart := false, narrowed := true }
def GraphStepsUptoSaid : Prop := graphStepsUptoRow.holds Try.pinned (OpenSpec.upto graphStepsSpec)

/-- 'lamellalaw06.GraphLong', WHERE WHAT IT READS IS OF BULK AT MOST 1048576: true; the input reads as it did. -/
def graphLongUptoRow : OpenClaim := { program := "ytgkmfoljhapmiaa", sum := "beb95ef64bb911599cc82fff3ecf995e3773c1fe5c027ebcd4a900131d59f8d8", func := "lamella/lamellalaw06.GraphLong", spec := "graphLong", unfollowed := true, recurses := true, plainKeys := false, apart := false, narrowed := true }
def GraphLongUptoSaid : Prop := graphLongUptoRow.holds Try.pinned (OpenSpec.upto graphLongSpec)

/-- 'lamellalaw06.GraphWants', WHERE WHAT IT READS IS OF BULK AT MOST 1048576: true; the input reads as it did. -/
def graphWantsUptoRow : OpenClaim := { program := "ytgkmfoljhapmiaa", sum := "beb95ef64bb911599cc82fff3ecf995e3773c1fe5c027ebcd4a900131d59f8d8", func := "lamella/lamellalaw06.GraphWants", spec := "graphWants", unfollowed := true, recurses := true, plainKeys := false, apart := false, narrowed := true }
def GraphWantsUptoSaid : Prop := graphWantsUptoRow.holds Try.pinned (OpenSpec.upto graphWantsSpec)

/-- 'lamellalaw06.GraphParts', WHERE WHAT IT READS IS OF BULK AT MOST 1048576: true; the input reads as it did. -/
def graphPartsUptoRow : OpenClaim := { program := "ytgkmfoljhapmiaa", sum := "beb95ef64bb911599cc82fff3ecf995e3773c1fe5c027ebcd4a900131d59f8d8", func := "lamella/lamellalaw06.GraphParts", spec := "graphParts", unfollowed := true, recurses := true, plainKeys := false, apart := false, narrowed := true }
def GraphPartsUptoSaid : Prop := graphPartsUptoRow.holds Try.pinned (OpenSpec.upto graphPartsSpec)

/-- 'lamellalaw06.GraphSets', WHERE WHAT IT READS IS OF BULK AT MOST 1048576: true; the input reads as it did. -/
def graphSetsUptoRow : OpenClaim := { program := "ytgkmfoljhapmiaa", sum := "beb95ef64bb911599cc82fff3ecf995e3773c1fe5c027ebcd4a900131d59f8d8", func := "lamella/lamellalaw06.GraphSets", spec := "graphSets", unfollowed := true, recurses := true, plainKeys := false, apart := false, narrowed := true }
def GraphSetsUptoSaid : Prop := graphSetsUptoRow.holds Try.pinned (OpenSpec.upto graphSetsSpec)

end Rows
end Go.Proofs.Ytgkmfoljhapmiaa
