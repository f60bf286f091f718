/-
  No cell of these rows narrows 'for every input' (looked for: loops, veiled, ifaces, maps, wideKeys, modest, calm, conditions, laid).
  DERIVED. THE GIVEN ROWS OF THIS SEAT. 9 by the template 'for every input the law returns true; each argument reads behind the call as it read before'; 0 by the template 'total and deterministic' (their statements: YtidlajmifppcnaaTotals.lean).
  GIVEN WITH THE SEED: the statements are not yours to turn. If you find one false, say at which input.
  Laid BY PROGRAM, IN A SANDBOX (cutbox-rows.mjs): the forced cells as the released guide's own fill.sh prints them over the translation 6cb5e3d7de14aaf9… (all of the seat's roots in one cut). By AI agents, Wed Nov 11 2026. No macro, syntax, notation, axiom, sorry.
-/
import Derived.Test.YtidlajmifppcnaaChecked
import GoSem.Claim
import GoSem.ClaimJoined
import GoSem.ClaimMapViews
import Derived.JoinedTies
import Derived.KernelRfl
namespace Go.Proofs.Ytidlajmifppcnaa
/- THE CELL 'sum', in the pinned program and in every row, IS THE sha256 OF THE DUMP (.gsa) THAT YtidlajmifppcnaaProg.lean LOADS. Nothing in Lean hashes anything: it is a label: what it is worth is what the hold of that sum in a sandbox is worth. -/
noncomputable def Try.pinned : Pinned := { name := "ytidlajmifppcnaa", sum := "6cb5e3d7de14aaf9af9808659a98b9c1198d2e2c760f0ce653db2f5aacdb800e", checked := Try.checked }
namespace Rows
def none {H : Type} : Left H := { results := [], args := [] }

/-- 'lamellalaw07.InstsMays': WHATEVER THE INPUT: true; the input reads as it did. -/
def instsMaysSpec : ChangeSpec := { name := "instsMays", fn := fun _ => fun
  | [d1, d2] => { results := [.lit (.bool true)], args := [d1, d2] }
  | _ => none }
def instsMaysRow : OpenClaim := { program := "ytidlajmifppcnaa", sum := "6cb5e3d7de14aaf9af9808659a98b9c1198d2e2c760f0ce653db2f5aacdb800e", func := "lamella/lamellalaw07.InstsMays", spec := "instsMays", unfollowed := true, recurses := true, plainKeys := false, apart := false }
def InstsMaysSaid : Prop := instsMaysRow.holds Try.pinned (OpenSpec.ofChange instsMaysSpec)

/-- ITS FALSE NEIGHBOUR: 'it returns false'. Refute it at one input. -/
def instsMaysWrong : ChangeSpec := { name := "instsMays", fn := fun _ => fun
  | [d1, d2] => { results := [.lit (.bool false)], args := [d1, d2] }
  | _ => none }
def InstsMaysWrongFalsely : Prop := instsMaysRow.holds Try.pinned (OpenSpec.ofChange instsMaysWrong)

/-- 'lamellalaw07.InstsSees': WHATEVER THE INPUT: true; the input reads as it did. -/
def instsSeesSpec : ChangeSpec := { name := "instsSees", fn := fun _ => fun
  | [d] => { results := [.lit (.bool true)], args := [d] }
  | _ => none }
def instsSeesRow : OpenClaim := { program := "ytidlajmifppcnaa", sum := "6cb5e3d7de14aaf9af9808659a98b9c1198d2e2c760f0ce653db2f5aacdb800e", func := "lamella/lamellalaw07.InstsSees", spec := "instsSees", unfollowed := true, recurses := true, plainKeys := false, apart := false }
def InstsSeesSaid : Prop := instsSeesRow.holds Try.pinned (OpenSpec.ofChange instsSeesSpec)

/-- ITS FALSE NEIGHBOUR: 'it returns false'. Refute it at one input. -/
def instsSeesWrong : ChangeSpec := { name := "instsSees", fn := fun _ => fun
  | [d] => { results := [.lit (.bool false)], args := [d] }
  | _ => none }
def InstsSeesWrongFalsely : Prop := instsSeesRow.holds Try.pinned (OpenSpec.ofChange instsSeesWrong)

/-- 'lamellalaw07.InstsOrders': WHATEVER THE INPUT: true; the input reads as it did. -/
def instsOrdersSpec : ChangeSpec := { name := "instsOrders", fn := fun _ => fun
  | [d1, d2, d3] => { results := [.lit (.bool true)], args := [d1, d2, d3] }
  | _ => none }
def instsOrdersRow : OpenClaim := { program := "ytidlajmifppcnaa", sum := "6cb5e3d7de14aaf9af9808659a98b9c1198d2e2c760f0ce653db2f5aacdb800e", func := "lamella/lamellalaw07.InstsOrders", spec := "instsOrders", unfollowed := true, recurses := true, plainKeys := false, apart := false }
def InstsOrdersSaid : Prop := instsOrdersRow.holds Try.pinned (OpenSpec.ofChange instsOrdersSpec)

/-- ITS FALSE NEIGHBOUR: 'it returns false'. Refute it at one input. -/
def instsOrdersWrong : ChangeSpec := { name := "instsOrders", fn := fun _ => fun
  | [d1, d2, d3] => { results := [.lit (.bool false)], args := [d1, d2, d3] }
  | _ => none }
def InstsOrdersWrongFalsely : Prop := instsOrdersRow.holds Try.pinned (OpenSpec.ofChange instsOrdersWrong)

/-- 'lamellalaw07.InstsNext': WHATEVER THE INPUT: true; the input reads as it did. -/
def instsNextSpec : ChangeSpec := { name := "instsNext", fn := fun _ => fun
  | [d1, d2] => { results := [.lit (.bool true)], args := [d1, d2] }
  | _ => none }
def instsNextRow : OpenClaim := { program := "ytidlajmifppcnaa", sum := "6cb5e3d7de14aaf9af9808659a98b9c1198d2e2c760f0ce653db2f5aacdb800e", func := "lamella/lamellalaw07.InstsNext", spec := "instsNext", unfollowed := true, recurses := true, plainKeys := false, apart := false }
def InstsNextSaid : Prop := instsNextRow.holds Try.pinned (OpenSpec.ofChange instsNextSpec)

/-- ITS FALSE NEIGHBOUR: 'it returns false'. Refute it at one input. -/
def instsNextWrong : ChangeSpec := { name := "instsNext", fn := fun _ => fun
  | [d1, d2] => { results := [.lit (.bool false)], args := [d1, d2] }
  | _ => none }
def InstsNextWrongFalsely : Prop := instsNextRow.holds Try.pinned (OpenSpec.ofChange instsNextWrong)

/-- 'lamellalaw07.InstsFull': WHATEVER THE INPUT: true; the input reads as it did. -/
def instsFullSpec : ChangeSpec := { name := "instsFull", fn := fun _ => fun
  | [d] => { results := [.lit (.bool true)], args := [d] }
  | _ => none }
def instsFullRow : OpenClaim := { program := "ytidlajmifppcnaa", sum := "6cb5e3d7de14aaf9af9808659a98b9c1198d2e2c760f0ce653db2f5aacdb800e", func := "lamella/lamellalaw07.InstsFull", spec := "instsFull", unfollowed := true, recurses := true, plainKeys := false, apart := false }
def InstsFullSaid : Prop := instsFullRow.holds Try.pinned (OpenSpec.ofChange instsFullSpec)

/-- ITS FALSE NEIGHBOUR: 'it returns false'. Refute it at one input. -/
def instsFullWrong : ChangeSpec := { name := "instsFull", fn := fun _ => fun
  | [d] => { results := [.lit (.bool false)], args := [d] }
  | _ => none }
def InstsFullWrongFalsely : Prop := instsFullRow.holds Try.pinned (OpenSpec.ofChange instsFullWrong)

/-- 'lamellalaw07.InstsPuts': WHATEVER THE INPUT: true; the input reads as it did. -/
def instsPutsSpec : ChangeSpec := { name := "instsPuts", fn := fun _ => fun
  | [d1, d2] => { results := [.lit (.bool true)], args := [d1, d2] }
  | _ => none }
def instsPutsRow : OpenClaim := { program := "ytidlajmifppcnaa", sum := "6cb5e3d7de14aaf9af9808659a98b9c1198d2e2c760f0ce653db2f5aacdb800e", func := "lamella/lamellalaw07.InstsPuts", spec := "instsPuts", unfollowed := true, recurses := true, plainKeys := false, apart := false }
def InstsPutsSaid : Prop := instsPutsRow.holds Try.pinned (OpenSpec.ofChange instsPutsSpec)

/-- ITS FALSE NEIGHBOUR: 'it returns false'. Refute it at one input. -/
def instsPutsWrong : ChangeSpec := { name := "instsPuts", fn := fun _ => fun
  | [d1, d2] => { results := [.lit (.bool false)], args := [d1, d2] }
  | _ => none }
def InstsPutsWrongFalsely : Prop := instsPutsRow.holds Try.pinned (OpenSpec.ofChange instsPutsWrong)

/-- 'lamellalaw07.InstsApart': WHATEVER THE INPUT: true; the input reads as it did. -/
def instsApartSpec : ChangeSpec := { name := "instsApart", fn := fun _ => fun
  | [d1, d2] => { results := [.lit (.bool true)], args := [d1, d2] }
  | _ => none }
def instsApartRow : OpenClaim := { program := "ytidlajmifppcnaa", sum := "6cb5e3d7de14aaf9af9808659a98b9c1198d2e2c760f0ce653db2f5aacdb800e", func := "lamella/lamellalaw07.InstsApart", spec := "instsApart", unfollowed := true, recurses := true, plainKeys := false, apart := false }
def InstsApartSaid : Prop := instsApartRow.holds Try.pinned (OpenSpec.ofChange instsApartSpec)

/-- ITS FALSE NEIGHBOUR: 'it returns false'. Refute it at one input. -/
def instsApartWrong : ChangeSpec := { name := "instsApart", fn := fun _ => fun
  | [d1, d2] => { results := [.lit (.bool false)], args := [d1, d2] }
  | _ => none }
def InstsApartWrongFalsely : Prop := instsApartRow.holds Try.pinned (OpenSpec.ofChange instsApartWrong)

/-- 'lamellalaw07.InstsNobody': WHATEVER THE INPUT: true; the input reads as it did. -/
def instsNobodySpec : ChangeSpec := { name := "instsNobody", fn := fun _ => fun
  | [d1, d2] => { results := [.lit (.bool true)], args := [d1, d2] }
  | _ => none }
def instsNobodyRow : OpenClaim := { program := "ytidlajmifppcnaa", sum := "6cb5e3d7de14aaf9af9808659a98b9c1198d2e2c760f0ce653db2f5aacdb800e", func := "lamella/lamellalaw07.InstsNobody", spec := "instsNobody", unfollowed := true, recurses := true, plainKeys := false, apart := false }
def InstsNobodySaid : Prop := instsNobodyRow.holds Try.pinned (OpenSpec.ofChange instsNobodySpec)

/-- ITS FALSE NEIGHBOUR: 'it returns false'. Refute it at one input. -/
def instsNobodyWrong : ChangeSpec := { name := "instsNobody", fn := fun _ => fun
  | [d1, d2] => { results := [.lit (.bool false)], args := [d1, d2] }
  | _ => none }
def InstsNobodyWrongFalsely : Prop := instsNobodyRow.holds Try.pinned (OpenSpec.ofChange instsNobodyWrong)

/-- 'lamellalaw07.InstsLays': WHATEVER THE INPUT: true; the input reads as it did. -/
def instsLaysSpec : ChangeSpec := { name := "instsLays", fn := fun _ => fun
  | [d1, d2] => { results := [.lit (.bool true)], args := [d1, d2] }
  | _ => none }
def instsLaysRow : OpenClaim := { program := "ytidlajmifppcnaa", sum := "6cb5e3d7de14aaf9af9808659a98b9c1198d2e2c760f0ce653db2f5aacdb800e", func := "lamella/lamellalaw07.InstsLays", spec := "instsLays", unfollowed := true, recurses := true, plainKeys := false, apart := false }
def InstsLaysSaid : Prop := instsLaysRow.holds Try.pinned (OpenSpec.ofChange instsLaysSpec)

/-- ITS FALSE NEIGHBOUR: 'it returns false'. Refute it at one input. -/
def instsLaysWrong : ChangeSpec := { name := "instsLays", fn := fun _ => fun
  | [d1, d2] => { results := [.lit (.bool false)], args := [d1, d2] }
  | _ => none }
def InstsLaysWrongFalsely : Prop := instsLaysRow.holds Try.pinned (OpenSpec.ofChange instsLaysWrong)

/- THE SECOND FORM. 'bulk': how many values and letters a reading holds, each counted each time it is reached (what is shared counts as often as it is met; a slice's spare places count too). A statement '..UptoSaid' is the law's where the arguments, and the package variables that the reading takes, are together of bulk at most 1048576: NARROWER than '..Said'. Prove '..Said' where nothing that the law and all that it calls make is longer than what came in: it says more and counts as full. Else prove '..UptoSaid'. A law counts once. -/
mutual
def uptoBulk {H : Type} : DataW H → Nat
  | .lit (.string bytes) => bytes.length + 1
  | .lit _ => 1
  | .nil => 1
  | .ptr d => uptoBulk d + 1
  | .slice elems spare => uptoBulkAll elems + uptoBulkAll spare + 1
  | .agg parts => uptoBulkAll parts + 1
  | .iface _ d => uptoBulk d + 1
  | .map entries => uptoBulkEntries entries + 1
  | .held _ => 1
def uptoBulkAll {H : Type} : List (DataW H) → Nat
  | [] => 0
  | d :: r => uptoBulk d + uptoBulkAll r
def uptoBulkEntries {H : Type} : List (Lit × DataW H) → Nat
  | [] => 0
  | x :: r => uptoBulkEntry x + uptoBulkEntries r
def uptoBulkEntry {H : Type} : Lit × DataW H → Nat
  | (.string bytes, d) => bytes.length + uptoBulk d + 1
  | (_, d) => uptoBulk d + 1
 end
def uptoSmall : (H : Type) → List (DataW H) → Bool := fun _ ds => decide (uptoBulkAll ds ≤ 1048576)
def OpenSpec.upto (s : _root_.Go.ChangeSpec) : _root_.Go.OpenSpec := { _root_.Go.OpenSpec.ofChange s with cond := some uptoSmall }

/-- 'lamellalaw07.InstsMays', WHERE WHAT IT READS IS OF BULK AT MOST 1048576: true; the input reads as it did. -/
def instsMaysUptoRow : OpenClaim := { program := "ytidlajmifppcnaa", sum := "6cb5e3d7de14aaf9af9808659a98b9c1198d2e2c760f0ce653db2f5aacdb800e", func := "lamella/lamellalaw07.InstsMays", spec := "instsMays", unfollowed := true, recurses := true, plainKeys := false, apart := false, narrowed := true }
def InstsMaysUptoSaid : Prop := instsMaysUptoRow.holds Try.pinned (OpenSpec.upto instsMaysSpec)

/-- 'lamellalaw07.InstsSees', WHERE WHAT IT READS IS OF BULK AT MOST 1048576: true; the input reads as it did. -/
def instsSeesUptoRow : OpenClaim := { program := "ytidlajmifppcnaa", sum := "6cb5e3d7de14aaf9af9808659a98b9c1198d2e2c760f0ce653db2f5aacdb800e", func := "lamella/lamellalaw07.InstsSees", spec := "instsSees", unfollowed := true, recurses := true, plainKeys := false, apart := false, narrowed := true }
def InstsSeesUptoSaid : Prop := instsSeesUptoRow.holds Try.pinned (OpenSpec.upto instsSeesSpec)

/-- 'lamellalaw07.InstsOrders', WHERE WHAT IT READS IS OF BULK AT MOST 1048576: true; the input reads as it did. -/
def instsOrdersUptoRow : OpenClaim := { program := "ytidlajmifppcnaa", sum := "6cb5e3d7de14aaf9af9808659a98b9c1198d2e2c760f0ce653db2f5aacdb800e", func := "lamella/lamellalaw07.InstsOrders", spec := "instsOrders", unfollowed := true, recurses := true, plainKeys := false, apart := false, narrowed := true }
def InstsOrdersUptoSaid : Prop := instsOrdersUptoRow.holds Try.pinned (OpenSpec.upto instsOrdersSpec)

/-- 'lamellalaw07.InstsNext', WHERE WHAT IT READS IS OF BULK AT MOST 1048576: true; the input reads as it did. -/
def instsNextUptoRow : OpenClaim := { program := "ytidlajmifppcnaa", sum := "6cb5e3d7de14aaf9af9808659a98b9c1198d2e2c760f0ce653db2f5aacdb800e", func := "lamella/lamellalaw07.InstsNext", spec := "instsNext", unfollowed := true, recurses := true, plainKeys := false, apart := false, narrowed := true }
def InstsNextUptoSaid : Prop := instsNextUptoRow.holds Try.pinned (OpenSpec.upto instsNextSpec)

/-- 'lamellalaw07.InstsFull', WHERE WHAT IT READS IS OF BULK AT MOST 1048576: true; the input reads as it did. -/
def instsFullUptoRow : OpenClaim := { program := "ytidlajmifppcnaa", sum := "6cb5e3d7de14aaf9af9808659a98b9c1198d2e2c760f0ce653db2f5aacdb800e", func := "lamella/lamellalaw07.InstsFull", spec := "instsFull", unfollowed := true, recurses := true, plainKeys := false, apart := false, narrowed := true }
def InstsFullUptoSaid : Prop := instsFullUptoRow.holds Try.pinned (OpenSpec.upto instsFullSpec)

/-- 'lamellalaw07.InstsPuts', WHERE WHAT IT READS IS OF BULK AT MOST 1048576: true; the input reads as it did. -/
def instsPutsUptoRow : OpenClaim := { program := "ytidlajmifppcnaa", sum := "6cb5e3d7de14aaf9af9808659a98b9c1198d2e2c760f0ce653db2f5aacdb800e", func := "lamella/lamellalaw07.InstsPuts", spec := "instsPuts", unfollowed := true, recurses := true, plainKeys := false, apart := false, narrowed := true }
def InstsPutsUptoSaid : Prop := instsPutsUptoRow.holds Try.pinned (OpenSpec.upto instsPutsSpec)

/-- 'lamellalaw07.InstsApart', WHERE WHAT IT READS IS OF BULK AT MOST 1048576: true; the input reads as it did. -/
def instsApartUptoRow : OpenClaim := { program := "ytidlajmifppcnaa", sum := "6cb5e3d7de14aaf9af9808659a98b9c1198d2e2c760f0ce653db2f5aacdb800e", func := "lamella/lamellalaw07.InstsApart", spec := "instsApart", unfollowed := true, recurses := true, plainKeys := false, apart := false, narrowed := true }
def InstsApartUptoSaid : Prop := instsApartUptoRow.holds Try.pinned (OpenSpec.upto instsApartSpec)

/-- 'lamellalaw07.InstsNobody', WHERE WHAT IT READS IS OF BULK AT MOST 1048576: true; the input reads as it did. -/
def instsNobodyUptoRow : OpenClaim := { program := "ytidlajmifppcnaa", sum := "6cb5e3d7de14aaf9af9808659a98b9c1198d2e2c760f0ce653db2f5aacdb800e", func := "lamella/lamellalaw07.InstsNobody", spec := "instsNobody", unfollowed := true, recurses := true, plainKeys := false, apart := false, narrowed := true }
def InstsNobodyUptoSaid : Prop := instsNobodyUptoRow.holds Try.pinned (OpenSpec.upto instsNobodySpec)

/-- 'lamellalaw07.InstsLays', WHERE WHAT IT READS IS OF BULK AT MOST 1048576: true; the input reads as it did. -/
def instsLaysUptoRow : OpenClaim := { program := "ytidlajmifppcnaa", sum := "6cb5e3d7de14aaf9af9808659a98b9c1198d2e2c760f0ce653db2f5aacdb800e", func := "lamella/lamellalaw07.InstsLays", spec := "instsLays", unfollowed := true, recurses := true, plainKeys := false, apart := false, narrowed := true }
def InstsLaysUptoSaid : Prop := instsLaysUptoRow.holds Try.pinned (OpenSpec.upto instsLaysSpec)

end Rows
end Go.Proofs.Ytidlajmifppcnaa
