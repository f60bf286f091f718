/-
  No cell of these rows narrows 'for every input' (looked for: loops, veiled, ifaces, maps, wideKeys, modest, calm, conditions, laid).
  DERIVED. THE GIVEN ROWS OF THIS SEAT. 12 by the template 'for every input the law returns true; each argument reads behind the call as it read before'; 0 by the template 'total and deterministic' (their statements: YtennoblijpfacaaTotals.lean).
  GIVEN WITH THE SEED: the statements are not yours to turn. If you find one false, say at which input.
  Laid BY PROGRAM, IN A SANDBOX (cutbox-rows.mjs): the forced cells as the released guide's own fill.sh prints them over the translation f183294add0655c9… (all of the seat's roots in one cut). By AI agents, Wed Nov 11 2026. No macro, syntax, notation, axiom, sorry.
-/
import Derived.Test.YtennoblijpfacaaChecked
import GoSem.Claim
import GoSem.ClaimJoined
import GoSem.ClaimMapViews
import Derived.JoinedTies
import Derived.KernelRfl
namespace Go.Proofs.Ytennoblijpfacaa
/- THE CELL 'sum', in the pinned program and in every row, IS THE sha256 OF THE DUMP (.gsa) THAT YtennoblijpfacaaProg.lean LOADS. Nothing in Lean hashes anything: it is a label: what it is worth is what the hold of that sum in a sandbox is worth. -/
noncomputable def Try.pinned : Pinned := { name := "ytennoblijpfacaa", sum := "f183294add0655c96087cd241ce27d571f34d01e1e29a121bfe7311ff87a9083", checked := Try.checked }
namespace Rows
def none {H : Type} : Left H := { results := [], args := [] }

/-- 'lamellalaw05.StoreMays': WHATEVER THE INPUT: true; the input reads as it did. -/
def storeMaysSpec : ChangeSpec := { name := "storeMays", fn := fun _ => fun
  | [d1, d2] => { results := [.lit (.bool true)], args := [d1, d2] }
  | _ => none }
def storeMaysRow : OpenClaim := { program := "ytennoblijpfacaa", sum := "f183294add0655c96087cd241ce27d571f34d01e1e29a121bfe7311ff87a9083", func := "lamella/lamellalaw05.StoreMays", spec := "storeMays", unfollowed := true, recurses := true, apart := false }
def StoreMaysSaid : Prop := storeMaysRow.holds Try.pinned (OpenSpec.ofChange storeMaysSpec)

/-- ITS FALSE NEIGHBOUR: 'it returns false'. Refute it at one input. -/
def storeMaysWrong : ChangeSpec := { name := "storeMays", fn := fun _ => fun
  | [d1, d2] => { results := [.lit (.bool false)], args := [d1, d2] }
  | _ => none }
def StoreMaysWrongFalsely : Prop := storeMaysRow.holds Try.pinned (OpenSpec.ofChange storeMaysWrong)

/-- 'lamellalaw05.StoreLate': WHATEVER THE INPUT: true; the input reads as it did. -/
def storeLateSpec : ChangeSpec := { name := "storeLate", fn := fun _ => fun
  | [d1, d2, d3] => { results := [.lit (.bool true)], args := [d1, d2, d3] }
  | _ => none }
def storeLateRow : OpenClaim := { program := "ytennoblijpfacaa", sum := "f183294add0655c96087cd241ce27d571f34d01e1e29a121bfe7311ff87a9083", func := "lamella/lamellalaw05.StoreLate", spec := "storeLate", unfollowed := true, recurses := true, apart := false }
def StoreLateSaid : Prop := storeLateRow.holds Try.pinned (OpenSpec.ofChange storeLateSpec)

/-- ITS FALSE NEIGHBOUR: 'it returns false'. Refute it at one input. -/
def storeLateWrong : ChangeSpec := { name := "storeLate", fn := fun _ => fun
  | [d1, d2, d3] => { results := [.lit (.bool false)], args := [d1, d2, d3] }
  | _ => none }
def StoreLateWrongFalsely : Prop := storeLateRow.holds Try.pinned (OpenSpec.ofChange storeLateWrong)

/-- 'lamellalaw05.StoreMeddles': WHATEVER THE INPUT: true; the input reads as it did. -/
def storeMeddlesSpec : ChangeSpec := { name := "storeMeddles", fn := fun _ => fun
  | [d1, d2] => { results := [.lit (.bool true)], args := [d1, d2] }
  | _ => none }
def storeMeddlesRow : OpenClaim := { program := "ytennoblijpfacaa", sum := "f183294add0655c96087cd241ce27d571f34d01e1e29a121bfe7311ff87a9083", func := "lamella/lamellalaw05.StoreMeddles", spec := "storeMeddles", unfollowed := true, recurses := true, apart := false }
def StoreMeddlesSaid : Prop := storeMeddlesRow.holds Try.pinned (OpenSpec.ofChange storeMeddlesSpec)

/-- ITS FALSE NEIGHBOUR: 'it returns false'. Refute it at one input. -/
def storeMeddlesWrong : ChangeSpec := { name := "storeMeddles", fn := fun _ => fun
  | [d1, d2] => { results := [.lit (.bool false)], args := [d1, d2] }
  | _ => none }
def StoreMeddlesWrongFalsely : Prop := storeMeddlesRow.holds Try.pinned (OpenSpec.ofChange storeMeddlesWrong)

/-- 'lamellalaw05.StoreApplies': WHATEVER THE INPUT: true; the input reads as it did. -/
def storeAppliesSpec : ChangeSpec := { name := "storeApplies", fn := fun _ => fun
  | [d1, d2] => { results := [.lit (.bool true)], args := [d1, d2] }
  | _ => none }
def storeAppliesRow : OpenClaim := { program := "ytennoblijpfacaa", sum := "f183294add0655c96087cd241ce27d571f34d01e1e29a121bfe7311ff87a9083", func := "lamella/lamellalaw05.StoreApplies", spec := "storeApplies", unfollowed := true, recurses := true, apart := false }
def StoreAppliesSaid : Prop := storeAppliesRow.holds Try.pinned (OpenSpec.ofChange storeAppliesSpec)

/-- ITS FALSE NEIGHBOUR: 'it returns false'. Refute it at one input. -/
def storeAppliesWrong : ChangeSpec := { name := "storeApplies", fn := fun _ => fun
  | [d1, d2] => { results := [.lit (.bool false)], args := [d1, d2] }
  | _ => none }
def StoreAppliesWrongFalsely : Prop := storeAppliesRow.holds Try.pinned (OpenSpec.ofChange storeAppliesWrong)

/-- 'lamellalaw05.StoreOnce': WHATEVER THE INPUT: true; the input reads as it did. -/
def storeOnceSpec : ChangeSpec := { name := "storeOnce", fn := fun _ => fun
  | [d1, d2, d3] => { results := [.lit (.bool true)], args := [d1, d2, d3] }
  | _ => none }
def storeOnceRow : OpenClaim := { program := "ytennoblijpfacaa", sum := "f183294add0655c96087cd241ce27d571f34d01e1e29a121bfe7311ff87a9083", func := "lamella/lamellalaw05.StoreOnce", spec := "storeOnce", unfollowed := true, recurses := true, apart := false }
def StoreOnceSaid : Prop := storeOnceRow.holds Try.pinned (OpenSpec.ofChange storeOnceSpec)

/-- ITS FALSE NEIGHBOUR: 'it returns false'. Refute it at one input. -/
def storeOnceWrong : ChangeSpec := { name := "storeOnce", fn := fun _ => fun
  | [d1, d2, d3] => { results := [.lit (.bool false)], args := [d1, d2, d3] }
  | _ => none }
def StoreOnceWrongFalsely : Prop := storeOnceRow.holds Try.pinned (OpenSpec.ofChange storeOnceWrong)

/-- 'lamellalaw05.StoreFrozen': WHATEVER THE INPUT: true; the input reads as it did. -/
def storeFrozenSpec : ChangeSpec := { name := "storeFrozen", fn := fun _ => fun
  | [d1, d2, d3] => { results := [.lit (.bool true)], args := [d1, d2, d3] }
  | _ => none }
def storeFrozenRow : OpenClaim := { program := "ytennoblijpfacaa", sum := "f183294add0655c96087cd241ce27d571f34d01e1e29a121bfe7311ff87a9083", func := "lamella/lamellalaw05.StoreFrozen", spec := "storeFrozen", unfollowed := true, recurses := true, apart := false }
def StoreFrozenSaid : Prop := storeFrozenRow.holds Try.pinned (OpenSpec.ofChange storeFrozenSpec)

/-- ITS FALSE NEIGHBOUR: 'it returns false'. Refute it at one input. -/
def storeFrozenWrong : ChangeSpec := { name := "storeFrozen", fn := fun _ => fun
  | [d1, d2, d3] => { results := [.lit (.bool false)], args := [d1, d2, d3] }
  | _ => none }
def StoreFrozenWrongFalsely : Prop := storeFrozenRow.holds Try.pinned (OpenSpec.ofChange storeFrozenWrong)

/-- 'lamellalaw05.StoreBounds': WHATEVER THE INPUT: true; the input reads as it did. -/
def storeBoundsSpec : ChangeSpec := { name := "storeBounds", fn := fun _ => fun
  | [d1, d2, d3] => { results := [.lit (.bool true)], args := [d1, d2, d3] }
  | _ => none }
def storeBoundsRow : OpenClaim := { program := "ytennoblijpfacaa", sum := "f183294add0655c96087cd241ce27d571f34d01e1e29a121bfe7311ff87a9083", func := "lamella/lamellalaw05.StoreBounds", spec := "storeBounds", unfollowed := true, recurses := true, apart := false }
def StoreBoundsSaid : Prop := storeBoundsRow.holds Try.pinned (OpenSpec.ofChange storeBoundsSpec)

/-- ITS FALSE NEIGHBOUR: 'it returns false'. Refute it at one input. -/
def storeBoundsWrong : ChangeSpec := { name := "storeBounds", fn := fun _ => fun
  | [d1, d2, d3] => { results := [.lit (.bool false)], args := [d1, d2, d3] }
  | _ => none }
def StoreBoundsWrongFalsely : Prop := storeBoundsRow.holds Try.pinned (OpenSpec.ofChange storeBoundsWrong)

/-- 'lamellalaw05.StoreParts': WHATEVER THE INPUT: true; the input reads as it did. -/
def storePartsSpec : ChangeSpec := { name := "storeParts", fn := fun _ => fun
  | [d1, d2, d3] => { results := [.lit (.bool true)], args := [d1, d2, d3] }
  | _ => none }
def storePartsRow : OpenClaim := { program := "ytennoblijpfacaa", sum := "f183294add0655c96087cd241ce27d571f34d01e1e29a121bfe7311ff87a9083", func := "lamella/lamellalaw05.StoreParts", spec := "storeParts", unfollowed := true, recurses := true, apart := false }
def StorePartsSaid : Prop := storePartsRow.holds Try.pinned (OpenSpec.ofChange storePartsSpec)

/-- ITS FALSE NEIGHBOUR: 'it returns false'. Refute it at one input. -/
def storePartsWrong : ChangeSpec := { name := "storeParts", fn := fun _ => fun
  | [d1, d2, d3] => { results := [.lit (.bool false)], args := [d1, d2, d3] }
  | _ => none }
def StorePartsWrongFalsely : Prop := storePartsRow.holds Try.pinned (OpenSpec.ofChange storePartsWrong)

/-- 'lamellalaw05.StoreNobody': WHATEVER THE INPUT: true; the input reads as it did. -/
def storeNobodySpec : ChangeSpec := { name := "storeNobody", fn := fun _ => fun
  | [d1, d2] => { results := [.lit (.bool true)], args := [d1, d2] }
  | _ => none }
def storeNobodyRow : OpenClaim := { program := "ytennoblijpfacaa", sum := "f183294add0655c96087cd241ce27d571f34d01e1e29a121bfe7311ff87a9083", func := "lamella/lamellalaw05.StoreNobody", spec := "storeNobody", unfollowed := true, recurses := true, apart := false }
def StoreNobodySaid : Prop := storeNobodyRow.holds Try.pinned (OpenSpec.ofChange storeNobodySpec)

/-- ITS FALSE NEIGHBOUR: 'it returns false'. Refute it at one input. -/
def storeNobodyWrong : ChangeSpec := { name := "storeNobody", fn := fun _ => fun
  | [d1, d2] => { results := [.lit (.bool false)], args := [d1, d2] }
  | _ => none }
def StoreNobodyWrongFalsely : Prop := storeNobodyRow.holds Try.pinned (OpenSpec.ofChange storeNobodyWrong)

/-- 'lamellalaw05.StoreLays': WHATEVER THE INPUT: true; the input reads as it did. -/
def storeLaysSpec : ChangeSpec := { name := "storeLays", fn := fun _ => fun
  | [d1, d2] => { results := [.lit (.bool true)], args := [d1, d2] }
  | _ => none }
def storeLaysRow : OpenClaim := { program := "ytennoblijpfacaa", sum := "f183294add0655c96087cd241ce27d571f34d01e1e29a121bfe7311ff87a9083", func := "lamella/lamellalaw05.StoreLays", spec := "storeLays", unfollowed := true, recurses := true, apart := false }
def StoreLaysSaid : Prop := storeLaysRow.holds Try.pinned (OpenSpec.ofChange storeLaysSpec)

/-- ITS FALSE NEIGHBOUR: 'it returns false'. Refute it at one input. -/
def storeLaysWrong : ChangeSpec := { name := "storeLays", fn := fun _ => fun
  | [d1, d2] => { results := [.lit (.bool false)], args := [d1, d2] }
  | _ => none }
def StoreLaysWrongFalsely : Prop := storeLaysRow.holds Try.pinned (OpenSpec.ofChange storeLaysWrong)

/-- 'lamellalaw05.StoreDecodes': WHATEVER THE INPUT: true; the input reads as it did. -/
def storeDecodesSpec : ChangeSpec := { name := "storeDecodes", fn := fun _ => fun
  | [d] => { results := [.lit (.bool true)], args := [d] }
  | _ => none }
def storeDecodesRow : OpenClaim := { program := "ytennoblijpfacaa", sum := "f183294add0655c96087cd241ce27d571f34d01e1e29a121bfe7311ff87a9083", func := "lamella/lamellalaw05.StoreDecodes", spec := "storeDecodes", unfollowed := true, recurses := true, apart := false }
def StoreDecodesSaid : Prop := storeDecodesRow.holds Try.pinned (OpenSpec.ofChange storeDecodesSpec)

/-- ITS FALSE NEIGHBOUR: 'it returns false'. Refute it at one input. -/
def storeDecodesWrong : ChangeSpec := { name := "storeDecodes", fn := fun _ => fun
  | [d] => { results := [.lit (.bool false)], args := [d] }
  | _ => none }
def StoreDecodesWrongFalsely : Prop := storeDecodesRow.holds Try.pinned (OpenSpec.ofChange storeDecodesWrong)

/-- 'lamellalaw05.StoreCodes': WHATEVER THE INPUT: true; the input reads as it did. -/
def storeCodesSpec : ChangeSpec := { name := "storeCodes", fn := fun _ => fun
  | [d1, d2] => { results := [.lit (.bool true)], args := [d1, d2] }
  | _ => none }
def storeCodesRow : OpenClaim := { program := "ytennoblijpfacaa", sum := "f183294add0655c96087cd241ce27d571f34d01e1e29a121bfe7311ff87a9083", func := "lamella/lamellalaw05.StoreCodes", spec := "storeCodes", unfollowed := true, recurses := true, apart := false }
def StoreCodesSaid : Prop := storeCodesRow.holds Try.pinned (OpenSpec.ofChange storeCodesSpec)

/-- ITS FALSE NEIGHBOUR: 'it returns false'. Refute it at one input. -/
def storeCodesWrong : ChangeSpec := { name := "storeCodes", fn := fun _ => fun
  | [d1, d2] => { results := [.lit (.bool false)], args := [d1, d2] }
  | _ => none }
def StoreCodesWrongFalsely : Prop := storeCodesRow.holds Try.pinned (OpenSpec.ofChange storeCodesWrong)

/- THE SECOND FORM. 'bulk': how many values and letters a reading holds, each counted each time it is reached (what is shared counts as often as it is met; a slice's spare places count too). A statement '..UptoSaid' is the law's where the arguments, and the package variables that the reading takes, are together of bulk at most 1048576: NARROWER than '..Said'. Prove '..Said' where nothing that the law and all that it calls make is longer than what came in: it says more and counts as full. Else prove '..UptoSaid'. A law counts once. -/
mutual
def uptoBulk {H : Type} : DataW H → Nat
  | .lit (.string bytes) => bytes.length + 1
  | .lit _ => 1
  | .nil => 1
  | .ptr d => uptoBulk d + 1
  | .slice elems spare => uptoBulkAll elems + uptoBulkAll spare + 1
  | .agg parts => uptoBulkAll parts + 1
  | .iface _ d => uptoBulk d + 1
  | .map entries => uptoBulkEntries entries + 1
  | .held _ => 1
def uptoBulkAll {H : Type} : List (DataW H) → Nat
  | [] => 0
  | d :: r => uptoBulk d + uptoBulkAll r
def uptoBulkEntries {H : Type} : List (Lit × DataW H) → Nat
  | [] => 0
  | x :: r => uptoBulkEntry x + uptoBulkEntries r
def uptoBulkEntry {H : Type} : Lit × DataW H → Nat
  | (.string bytes, d) => bytes.length + uptoBulk d + 1
  | (_, d) => uptoBulk d + 1
 end
def uptoSmall : (H : Type) → List (DataW H) → Bool := fun _ ds => decide (uptoBulkAll ds ≤ 1048576)
def OpenSpec.upto (s : _root_.Go.ChangeSpec) : _root_.Go.OpenSpec := { _root_.Go.OpenSpec.ofChange s with cond := some uptoSmall }

/-- 'lamellalaw05.StoreMays', WHERE WHAT IT READS IS OF BULK AT MOST 1048576: true; the input reads as it did. -/
def storeMaysUptoRow : OpenClaim := { program := "ytennoblijpfacaa", sum := "f183294add0655c96087cd241ce27d571f34d01e1e29a121bfe7311ff87a9083", func := "lamella/lamellalaw05.StoreMays", spec := "storeMays", unfollowed := true, recurses := true, apart := false, narrowed := true }
def StoreMaysUptoSaid : Prop := storeMaysUptoRow.holds Try.pinned (OpenSpec.upto storeMaysSpec)

/-- 'lamellalaw05.StoreLate', WHERE WHAT IT READS IS OF BULK AT MOST 1048576: true; the input reads as it did. -/
def storeLateUptoRow : OpenClaim := { program := "ytennoblijpfacaa", sum := "f183294add0655c96087cd241ce27d571f34d01e1e29a121bfe7311ff87a9083", func := "lamella/lamellalaw05.StoreLate", spec := "storeLate", unfollowed := true, recurses := true, apart := false, narrowed := true }
def StoreLateUptoSaid : Prop := storeLateUptoRow.holds Try.pinned (OpenSpec.upto storeLateSpec)

/-- 'lamellalaw05.StoreMeddles', WHERE WHAT IT READS IS OF BULK AT MOST 1048576: true; the input reads as it did. -/
def storeMeddlesUptoRow : OpenClaim := { program := "ytennoblijpfacaa", sum := "f183294add0655c96087cd241ce27d571f34d01e1e29a121bfe7311ff87a9083", func := "lamella/lamellalaw05.StoreMeddles", spec := "storeMeddles", unfollowed := true, recurses := true, apart := false, narrowed := true }
def StoreMeddlesUptoSaid : Prop := storeMeddlesUptoRow.holds Try.pinned (OpenSpec.upto storeMeddlesSpec)

/-- 'lamellalaw05.StoreApplies', WHERE WHAT IT READS IS OF BULK AT MOST 1048576: true; the input reads as it did. -/
def storeAppliesUptoRow : OpenClaim := { program := "ytennoblijpfacaa", sum := "f183294add0655c96087cd241ce27d571f34d01e1e29a121bfe7311ff87a9083", func := "lamella/lamellalaw05.StoreApplies", spec := "storeApplies", unfollowed := true, recurses := true, apart := false, narrowed := true }
def StoreAppliesUptoSaid : Prop := storeAppliesUptoRow.holds Try.pinned (OpenSpec.upto storeAppliesSpec)

/-- 'lamellalaw05.StoreOnce', WHERE WHAT IT READS IS OF BULK AT MOST 1048576: true; the input reads as it did. -/
def storeOnceUptoRow : OpenClaim := { program := "ytennoblijpfacaa", sum := "f183294add0655c96087cd241ce27d571f34d01e1e29a121bfe7311ff87a9083", func := "lamella/lamellalaw05.StoreOnce", spec := "storeOnce", unfollowed := true, recurses := true, apart := false, narrowed := true }
def StoreOnceUptoSaid : Prop := storeOnceUptoRow.holds Try.pinned (OpenSpec.upto storeOnceSpec)

/-- 'lamellalaw05.StoreFrozen', WHERE WHAT IT READS IS OF BULK AT MOST 1048576: true; the input reads as it did. -/
def storeFrozenUptoRow : OpenClaim := { program := "ytennoblijpfacaa", sum := "f183294add0655c96087cd241ce27d571f34d01e1e29a121bfe7311ff87a9083", func := "lamella/lamellalaw05.StoreFrozen", spec := "storeFrozen", unfollowed := true, recurses := true, apart := false, narrowed := true }
def StoreFrozenUptoSaid : Prop := storeFrozenUptoRow.holds Try.pinned (OpenSpec.upto storeFrozenSpec)

/-- 'lamellalaw05.StoreBounds', WHERE WHAT IT READS IS OF BULK AT MOST 1048576: true; the input reads as it did. -/
def storeBoundsUptoRow : OpenClaim := { program := "ytennoblijpfacaa", sum := "f183294add0655c96087cd241ce27d571f34d01e1e29a121bfe7311ff87a9083", func := "lamella/lamellalaw05.StoreBounds", spec := "storeBounds", unfollowed := true, recurses := true, apart := false, narrowed := true }
def StoreBoundsUptoSaid : Prop := storeBoundsUptoRow.holds Try.pinned (OpenSpec.upto storeBoundsSpec)

/-- 'lamellalaw05.StoreParts', WHERE WHAT IT READS IS OF BULK AT MOST 1048576: true; the input reads as it did. -/
def storePartsUptoRow : OpenClaim := { program := "ytennoblijpfacaa", sum := "f183294add0655c96087cd241ce27d571f34d01e1e29a121bfe7311ff87a9083", func := "lamella/lamellalaw05.StoreParts", spec := "storeParts", unfollowed := true, recurses := true, apart := false, narrowed := true }
def StorePartsUptoSaid : Prop := storePartsUptoRow.holds Try.pinned (OpenSpec.upto storePartsSpec)

/-- 'lamellalaw05.StoreNobody', WHERE WHAT IT READS IS OF BULK AT MOST 1048576: true; the input reads as it did. -/
def storeNobodyUptoRow : OpenClaim := { program := "ytennoblijpfacaa", sum := "f183294add0655c96087cd241ce27d571f34d01e1e29a121bfe7311ff87a9083", func := "lamella/lamellalaw05.StoreNobody", spec := "storeNobody", unfollowed := true, recurses := true, apart := false, narrowed := true }
def StoreNobodyUptoSaid : Prop := storeNobodyUptoRow.holds Try.pinned (OpenSpec.upto storeNobodySpec)

/-- 'lamellalaw05.StoreLays', WHERE WHAT IT READS IS OF BULK AT MOST 1048576: true; the input reads as it did. -/
def storeLaysUptoRow : OpenClaim := { program := "ytennoblijpfacaa", sum := "f183294add0655c96087cd241ce27d571f34d01e1e29a121bfe7311ff87a9083", func := "lamella/lamellalaw05.StoreLays", spec := "storeLays", unfollowed := true, recurses := true, apart := false, narrowed := true }
def StoreLaysUptoSaid : Prop := storeLaysUptoRow.holds Try.pinned (OpenSpec.upto storeLaysSpec)

/-- 'lamellalaw05.StoreDecodes', WHERE WHAT IT READS IS OF BULK AT MOST 1048576: true; the input reads as it did. -/
def storeDecodesUptoRow : OpenClaim := { program := "ytennoblijpfacaa", sum := "f183294add0655c96087cd241ce27d571f34d01e1e29a121bfe7311ff87a9083", func := "lamella/lamellalaw05.StoreDecodes", spec := "storeDecodes", unfollowed := true, recurses := true, apart := false, narrowed := true }
def StoreDecodesUptoSaid : Prop := storeDecodesUptoRow.holds Try.pinned (OpenSpec.upto storeDecodesSpec)

/-- 'lamellalaw05.StoreCodes', WHERE WHAT IT READS IS OF BULK AT MOST 1048576: true; the input reads as it did. -/
def storeCodesUptoRow : OpenClaim := { program := "ytennoblijpfacaa", sum := "f183294add0655c96087cd241ce27d571f34d01e1e29a121bfe7311ff87a9083", func := "lamella/lamellalaw05.StoreCodes", spec := "storeCodes", unfollowed := true, recurses := true, apart := false, narrowed := true }
def StoreCodesUptoSaid : Prop := storeCodesUptoRow.holds Try.pinned (OpenSpec.upto storeCodesSpec)

end Rows
end Go.Proofs.Ytennoblijpfacaa
