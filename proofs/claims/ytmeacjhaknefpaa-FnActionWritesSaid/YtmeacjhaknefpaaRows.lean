/-
  No cell of these rows narrows 'for every input' (looked for: loops, veiled, ifaces, maps, wideKeys, modest, calm, conditions, laid).
  DERIVED. THE GIVEN ROWS OF THIS SEAT. 12 by the template 'for every input the law returns true; each argument reads behind the call as it read before'; 0 by the template 'total and deterministic' (their statements: YtmeacjhaknefpaaTotals.lean).
  GIVEN WITH THE SEED: the statements are not yours to turn. If you find one false, say at which input.
  Laid BY PROGRAM, IN A SANDBOX (cutbox-rows.mjs): the forced cells as the released guide's own fill.sh prints them over the translation 98dbf495af7c5923… (all of the seat's roots in one cut). By AI agents, Wed Nov 11 2026. No macro, syntax, notation, axiom, sorry.
-/
import Derived.Test.YtmeacjhaknefpaaChecked
import GoSem.Claim
import GoSem.ClaimJoined
import GoSem.ClaimMapViews
import Derived.JoinedTies
import Derived.KernelRfl
namespace Go.Proofs.Ytmeacjhaknefpaa
/- THE CELL 'sum', in the pinned program and in every row, IS THE sha256 OF THE DUMP (.gsa) THAT YtmeacjhaknefpaaProg.lean LOADS. Nothing in Lean hashes anything: it is a label: what it is worth is what the hold of that sum in a sandbox is worth. -/
noncomputable def Try.pinned : Pinned := { name := "ytmeacjhaknefpaa", sum := "98dbf495af7c59231d10f107be32ef00eecf04a25714f7dbd350c17cdbb5dab0", checked := Try.checked }
namespace Rows
def none {H : Type} : Left H := { results := [], args := [] }

/-- 'laws.FnSumMore': WHATEVER THE INPUT: true; the input reads as it did. -/
def fnSumMoreSpec : ChangeSpec := { name := "fnSumMore", fn := fun _ => fun
  | [d1, d2] => { results := [.lit (.bool true)], args := [d1, d2] }
  | _ => none }
def fnSumMoreRow : OpenClaim := { program := "ytmeacjhaknefpaa", sum := "98dbf495af7c59231d10f107be32ef00eecf04a25714f7dbd350c17cdbb5dab0", func := "loop.example/blockexecutor/laws.FnSumMore", spec := "fnSumMore", unfollowed := true, recurses := true, apart := false }
def FnSumMoreSaid : Prop := fnSumMoreRow.holds Try.pinned (OpenSpec.ofChange fnSumMoreSpec)

/-- ITS FALSE NEIGHBOUR: 'it returns false'. Refute it at one input. -/
def fnSumMoreWrong : ChangeSpec := { name := "fnSumMore", fn := fun _ => fun
  | [d1, d2] => { results := [.lit (.bool false)], args := [d1, d2] }
  | _ => none }
def FnSumMoreWrongFalsely : Prop := fnSumMoreRow.holds Try.pinned (OpenSpec.ofChange fnSumMoreWrong)

/-- 'laws.FnSumOf': WHATEVER THE INPUT: true; the input reads as it did. -/
def fnSumOfSpec : ChangeSpec := { name := "fnSumOf", fn := fun _ => fun
  | [d] => { results := [.lit (.bool true)], args := [d] }
  | _ => none }
def fnSumOfRow : OpenClaim := { program := "ytmeacjhaknefpaa", sum := "98dbf495af7c59231d10f107be32ef00eecf04a25714f7dbd350c17cdbb5dab0", func := "loop.example/blockexecutor/laws.FnSumOf", spec := "fnSumOf", unfollowed := true, recurses := true, apart := false }
def FnSumOfSaid : Prop := fnSumOfRow.holds Try.pinned (OpenSpec.ofChange fnSumOfSpec)

/-- ITS FALSE NEIGHBOUR: 'it returns false'. Refute it at one input. -/
def fnSumOfWrong : ChangeSpec := { name := "fnSumOf", fn := fun _ => fun
  | [d] => { results := [.lit (.bool false)], args := [d] }
  | _ => none }
def FnSumOfWrongFalsely : Prop := fnSumOfRow.holds Try.pinned (OpenSpec.ofChange fnSumOfWrong)

/-- 'laws.FnActionValid': WHATEVER THE INPUT: true; the input reads as it did. -/
def fnActionValidSpec : ChangeSpec := { name := "fnActionValid", fn := fun _ => fun
  | [d] => { results := [.lit (.bool true)], args := [d] }
  | _ => none }
def fnActionValidRow : OpenClaim := { program := "ytmeacjhaknefpaa", sum := "98dbf495af7c59231d10f107be32ef00eecf04a25714f7dbd350c17cdbb5dab0", func := "loop.example/blockexecutor/laws.FnActionValid", spec := "fnActionValid", unfollowed := true, recurses := true, apart := false }
def FnActionValidSaid : Prop := fnActionValidRow.holds Try.pinned (OpenSpec.ofChange fnActionValidSpec)

/-- ITS FALSE NEIGHBOUR: 'it returns false'. Refute it at one input. -/
def fnActionValidWrong : ChangeSpec := { name := "fnActionValid", fn := fun _ => fun
  | [d] => { results := [.lit (.bool false)], args := [d] }
  | _ => none }
def FnActionValidWrongFalsely : Prop := fnActionValidRow.holds Try.pinned (OpenSpec.ofChange fnActionValidWrong)

/-- 'laws.FnStoreValid': WHATEVER THE INPUT: true; the input reads as it did. -/
def fnStoreValidSpec : ChangeSpec := { name := "fnStoreValid", fn := fun _ => fun
  | [d] => { results := [.lit (.bool true)], args := [d] }
  | _ => none }
def fnStoreValidRow : OpenClaim := { program := "ytmeacjhaknefpaa", sum := "98dbf495af7c59231d10f107be32ef00eecf04a25714f7dbd350c17cdbb5dab0", func := "loop.example/blockexecutor/laws.FnStoreValid", spec := "fnStoreValid", unfollowed := true, recurses := true, apart := false }
def FnStoreValidSaid : Prop := fnStoreValidRow.holds Try.pinned (OpenSpec.ofChange fnStoreValidSpec)

/-- ITS FALSE NEIGHBOUR: 'it returns false'. Refute it at one input. -/
def fnStoreValidWrong : ChangeSpec := { name := "fnStoreValid", fn := fun _ => fun
  | [d] => { results := [.lit (.bool false)], args := [d] }
  | _ => none }
def FnStoreValidWrongFalsely : Prop := fnStoreValidRow.holds Try.pinned (OpenSpec.ofChange fnStoreValidWrong)

/-- 'laws.FnActionsValid': WHATEVER THE INPUT: true; the input reads as it did. -/
def fnActionsValidSpec : ChangeSpec := { name := "fnActionsValid", fn := fun _ => fun
  | [d] => { results := [.lit (.bool true)], args := [d] }
  | _ => none }
def fnActionsValidRow : OpenClaim := { program := "ytmeacjhaknefpaa", sum := "98dbf495af7c59231d10f107be32ef00eecf04a25714f7dbd350c17cdbb5dab0", func := "loop.example/blockexecutor/laws.FnActionsValid", spec := "fnActionsValid", unfollowed := true, recurses := true, apart := false }
def FnActionsValidSaid : Prop := fnActionsValidRow.holds Try.pinned (OpenSpec.ofChange fnActionsValidSpec)

/-- ITS FALSE NEIGHBOUR: 'it returns false'. Refute it at one input. -/
def fnActionsValidWrong : ChangeSpec := { name := "fnActionsValid", fn := fun _ => fun
  | [d] => { results := [.lit (.bool false)], args := [d] }
  | _ => none }
def FnActionsValidWrongFalsely : Prop := fnActionsValidRow.holds Try.pinned (OpenSpec.ofChange fnActionsValidWrong)

/-- 'laws.FnLeafSum': WHATEVER THE INPUT: true; the input reads as it did. -/
def fnLeafSumSpec : ChangeSpec := { name := "fnLeafSum", fn := fun _ => fun
  | [d] => { results := [.lit (.bool true)], args := [d] }
  | _ => none }
def fnLeafSumRow : OpenClaim := { program := "ytmeacjhaknefpaa", sum := "98dbf495af7c59231d10f107be32ef00eecf04a25714f7dbd350c17cdbb5dab0", func := "loop.example/blockexecutor/laws.FnLeafSum", spec := "fnLeafSum", unfollowed := true, recurses := true, apart := false }
def FnLeafSumSaid : Prop := fnLeafSumRow.holds Try.pinned (OpenSpec.ofChange fnLeafSumSpec)

/-- ITS FALSE NEIGHBOUR: 'it returns false'. Refute it at one input. -/
def fnLeafSumWrong : ChangeSpec := { name := "fnLeafSum", fn := fun _ => fun
  | [d] => { results := [.lit (.bool false)], args := [d] }
  | _ => none }
def FnLeafSumWrongFalsely : Prop := fnLeafSumRow.holds Try.pinned (OpenSpec.ofChange fnLeafSumWrong)

/-- 'laws.FnValueAt': WHATEVER THE INPUT: true; the input reads as it did. -/
def fnValueAtSpec : ChangeSpec := { name := "fnValueAt", fn := fun _ => fun
  | [d] => { results := [.lit (.bool true)], args := [d] }
  | _ => none }
def fnValueAtRow : OpenClaim := { program := "ytmeacjhaknefpaa", sum := "98dbf495af7c59231d10f107be32ef00eecf04a25714f7dbd350c17cdbb5dab0", func := "loop.example/blockexecutor/laws.FnValueAt", spec := "fnValueAt", unfollowed := true, recurses := true, apart := false }
def FnValueAtSaid : Prop := fnValueAtRow.holds Try.pinned (OpenSpec.ofChange fnValueAtSpec)

/-- ITS FALSE NEIGHBOUR: 'it returns false'. Refute it at one input. -/
def fnValueAtWrong : ChangeSpec := { name := "fnValueAt", fn := fun _ => fun
  | [d] => { results := [.lit (.bool false)], args := [d] }
  | _ => none }
def FnValueAtWrongFalsely : Prop := fnValueAtRow.holds Try.pinned (OpenSpec.ofChange fnValueAtWrong)

/-- 'laws.FnPutOrder': WHATEVER THE INPUT: true; the input reads as it did. -/
def fnPutOrderSpec : ChangeSpec := { name := "fnPutOrder", fn := fun _ => fun
  | [d1, d2] => { results := [.lit (.bool true)], args := [d1, d2] }
  | _ => none }
def fnPutOrderRow : OpenClaim := { program := "ytmeacjhaknefpaa", sum := "98dbf495af7c59231d10f107be32ef00eecf04a25714f7dbd350c17cdbb5dab0", func := "loop.example/blockexecutor/laws.FnPutOrder", spec := "fnPutOrder", unfollowed := true, recurses := true, apart := false }
def FnPutOrderSaid : Prop := fnPutOrderRow.holds Try.pinned (OpenSpec.ofChange fnPutOrderSpec)

/-- ITS FALSE NEIGHBOUR: 'it returns false'. Refute it at one input. -/
def fnPutOrderWrong : ChangeSpec := { name := "fnPutOrder", fn := fun _ => fun
  | [d1, d2] => { results := [.lit (.bool false)], args := [d1, d2] }
  | _ => none }
def FnPutOrderWrongFalsely : Prop := fnPutOrderRow.holds Try.pinned (OpenSpec.ofChange fnPutOrderWrong)

/-- 'laws.FnPutValue': WHATEVER THE INPUT: true; the input reads as it did. -/
def fnPutValueSpec : ChangeSpec := { name := "fnPutValue", fn := fun _ => fun
  | [d] => { results := [.lit (.bool true)], args := [d] }
  | _ => none }
def fnPutValueRow : OpenClaim := { program := "ytmeacjhaknefpaa", sum := "98dbf495af7c59231d10f107be32ef00eecf04a25714f7dbd350c17cdbb5dab0", func := "loop.example/blockexecutor/laws.FnPutValue", spec := "fnPutValue", unfollowed := true, recurses := true, apart := false }
def FnPutValueSaid : Prop := fnPutValueRow.holds Try.pinned (OpenSpec.ofChange fnPutValueSpec)

/-- ITS FALSE NEIGHBOUR: 'it returns false'. Refute it at one input. -/
def fnPutValueWrong : ChangeSpec := { name := "fnPutValue", fn := fun _ => fun
  | [d] => { results := [.lit (.bool false)], args := [d] }
  | _ => none }
def FnPutValueWrongFalsely : Prop := fnPutValueRow.holds Try.pinned (OpenSpec.ofChange fnPutValueWrong)

/-- 'laws.FnStoreTotal': WHATEVER THE INPUT: true; the input reads as it did. -/
def fnStoreTotalSpec : ChangeSpec := { name := "fnStoreTotal", fn := fun _ => fun
  | [d] => { results := [.lit (.bool true)], args := [d] }
  | _ => none }
def fnStoreTotalRow : OpenClaim := { program := "ytmeacjhaknefpaa", sum := "98dbf495af7c59231d10f107be32ef00eecf04a25714f7dbd350c17cdbb5dab0", func := "loop.example/blockexecutor/laws.FnStoreTotal", spec := "fnStoreTotal", unfollowed := true, recurses := true, apart := false }
def FnStoreTotalSaid : Prop := fnStoreTotalRow.holds Try.pinned (OpenSpec.ofChange fnStoreTotalSpec)

/-- ITS FALSE NEIGHBOUR: 'it returns false'. Refute it at one input. -/
def fnStoreTotalWrong : ChangeSpec := { name := "fnStoreTotal", fn := fun _ => fun
  | [d] => { results := [.lit (.bool false)], args := [d] }
  | _ => none }
def FnStoreTotalWrongFalsely : Prop := fnStoreTotalRow.holds Try.pinned (OpenSpec.ofChange fnStoreTotalWrong)

/-- 'laws.FnChangedKeys': WHATEVER THE INPUT: true; the input reads as it did. -/
def fnChangedKeysSpec : ChangeSpec := { name := "fnChangedKeys", fn := fun _ => fun
  | [d] => { results := [.lit (.bool true)], args := [d] }
  | _ => none }
def fnChangedKeysRow : OpenClaim := { program := "ytmeacjhaknefpaa", sum := "98dbf495af7c59231d10f107be32ef00eecf04a25714f7dbd350c17cdbb5dab0", func := "loop.example/blockexecutor/laws.FnChangedKeys", spec := "fnChangedKeys", unfollowed := true, recurses := true, apart := false }
def FnChangedKeysSaid : Prop := fnChangedKeysRow.holds Try.pinned (OpenSpec.ofChange fnChangedKeysSpec)

/-- ITS FALSE NEIGHBOUR: 'it returns false'. Refute it at one input. -/
def fnChangedKeysWrong : ChangeSpec := { name := "fnChangedKeys", fn := fun _ => fun
  | [d] => { results := [.lit (.bool false)], args := [d] }
  | _ => none }
def FnChangedKeysWrongFalsely : Prop := fnChangedKeysRow.holds Try.pinned (OpenSpec.ofChange fnChangedKeysWrong)

/-- 'laws.FnActionWrites': WHATEVER THE INPUT: true; the input reads as it did. -/
def fnActionWritesSpec : ChangeSpec := { name := "fnActionWrites", fn := fun _ => fun
  | [d] => { results := [.lit (.bool true)], args := [d] }
  | _ => none }
def fnActionWritesRow : OpenClaim := { program := "ytmeacjhaknefpaa", sum := "98dbf495af7c59231d10f107be32ef00eecf04a25714f7dbd350c17cdbb5dab0", func := "loop.example/blockexecutor/laws.FnActionWrites", spec := "fnActionWrites", unfollowed := true, recurses := true, apart := false }
def FnActionWritesSaid : Prop := fnActionWritesRow.holds Try.pinned (OpenSpec.ofChange fnActionWritesSpec)

/-- ITS FALSE NEIGHBOUR: 'it returns false'. Refute it at one input. -/
def fnActionWritesWrong : ChangeSpec := { name := "fnActionWrites", fn := fun _ => fun
  | [d] => { results := [.lit (.bool false)], args := [d] }
  | _ => none }
def FnActionWritesWrongFalsely : Prop := fnActionWritesRow.holds Try.pinned (OpenSpec.ofChange fnActionWritesWrong)

/- THE SECOND FORM. 'bulk': how many values and letters a reading holds, each counted each time it is reached (what is shared counts as often as it is met; a slice's spare places count too). A statement '..UptoSaid' is the law's where the arguments, and the package variables that the reading takes, are together of bulk at most 1048576: NARROWER than '..Said'. Prove '..Said' where nothing that the law and all that it calls make is longer than what came in: it says more and counts as full. Else prove '..UptoSaid'. A law counts once. -/
mutual
def uptoBulk {H : Type} : DataW H → Nat
  | .lit (.string bytes) => bytes.length + 1
  | .lit _ => 1
  | .nil => 1
  | .ptr d => uptoBulk d + 1
  | .slice elems spare => uptoBulkAll elems + uptoBulkAll spare + 1
  | .agg parts => uptoBulkAll parts + 1
  | .iface _ d => uptoBulk d + 1
  | .map entries => uptoBulkEntries entries + 1
  | .held _ => 1
def uptoBulkAll {H : Type} : List (DataW H) → Nat
  | [] => 0
  | d :: r => uptoBulk d + uptoBulkAll r
def uptoBulkEntries {H : Type} : List (Lit × DataW H) → Nat
  | [] => 0
  | x :: r => uptoBulkEntry x + uptoBulkEntries r
def uptoBulkEntry {H : Type} : Lit × DataW H → Nat
  | (.string bytes, d) => bytes.length + uptoBulk d + 1
  | (_, d) => uptoBulk d + 1
 end
def uptoSmall : (H : Type) → List (DataW H) → Bool := fun _ ds => decide (uptoBulkAll ds ≤ 1048576)
def OpenSpec.upto (s : _root_.Go.ChangeSpec) : _root_.Go.OpenSpec := { _root_.Go.OpenSpec.ofChange s with cond := some uptoSmall }

/-- 'laws.FnSumMore', WHERE WHAT IT READS IS OF BULK AT MOST 1048576: true; the input reads as it did. -/
def fnSumMoreUptoRow : OpenClaim := { program := "ytmeacjhaknefpaa", sum := "98dbf495af7c59231d10f107be32ef00eecf04a25714f7dbd350c17cdbb5dab0", func := "loop.example/blockexecutor/laws.FnSumMore", spec := "fnSumMore", unfollowed := true, recurses := true, apart := false, narrowed := true }
def FnSumMoreUptoSaid : Prop := fnSumMoreUptoRow.holds Try.pinned (OpenSpec.upto fnSumMoreSpec)

/-- 'laws.FnSumOf', WHERE WHAT IT READS IS OF BULK AT MOST 1048576: true; the input reads as it did. -/
def fnSumOfUptoRow : OpenClaim := { program := "ytmeacjhaknefpaa", sum := "98dbf495af7c59231d10f107be32ef00eecf04a25714f7dbd350c17cdbb5dab0", func := "loop.example/blockexecutor/laws.FnSumOf", spec := "fnSumOf", unfollowed := true, recurses := true, apart := false, narrowed := true }
def FnSumOfUptoSaid : Prop := fnSumOfUptoRow.holds Try.pinned (OpenSpec.upto fnSumOfSpec)

/-- 'laws.FnActionValid', WHERE WHAT IT READS IS OF BULK AT MOST 1048576: true; the input reads as it did. -/
def fnActionValidUptoRow : OpenClaim := { program := "ytmeacjhaknefpaa", sum := "98dbf495af7c59231d10f107be32ef00eecf04a25714f7dbd350c17cdbb5dab0", func := "loop.example/blockexecutor/laws.FnActionValid", spec := "fnActionValid", unfollowed := true, recurses := true, apart := false, narrowed := true }
def FnActionValidUptoSaid : Prop := fnActionValidUptoRow.holds Try.pinned (OpenSpec.upto fnActionValidSpec)

/-- 'laws.FnStoreValid', WHERE WHAT IT READS IS OF BULK AT MOST 1048576: true; the input reads as it did. -/
def fnStoreValidUptoRow : OpenClaim := { program := "ytmeacjhaknefpaa", sum := "98dbf495af7c59231d10f107be32ef00eecf04a25714f7dbd350c17cdbb5dab0", func := "loop.example/blockexecutor/laws.FnStoreValid", spec := "fnStoreValid", unfollowed := true, recurses := true, apart := false, narrowed := true }
def FnStoreValidUptoSaid : Prop := fnStoreValidUptoRow.holds Try.pinned (OpenSpec.upto fnStoreValidSpec)

/-- 'laws.FnActionsValid', WHERE WHAT IT READS IS OF BULK AT MOST 1048576: true; the input reads as it did. -/
def fnActionsValidUptoRow : OpenClaim := { program := "ytmeacjhaknefpaa", sum := "98dbf495af7c59231d10f107be32ef00eecf04a25714f7dbd350c17cdbb5dab0", func := "loop.example/blockexecutor/laws.FnActionsValid", spec := "fnActionsValid", unfollowed := true, recurses := true, apart := false, narrowed := true }
def FnActionsValidUptoSaid : Prop := fnActionsValidUptoRow.holds Try.pinned (OpenSpec.upto fnActionsValidSpec)

/-- 'laws.FnLeafSum', WHERE WHAT IT READS IS OF BULK AT MOST 1048576: true; the input reads as it did. -/
def fnLeafSumUptoRow : OpenClaim := { program := "ytmeacjhaknefpaa", sum := "98dbf495af7c59231d10f107be32ef00eecf04a25714f7dbd350c17cdbb5dab0", func := "loop.example/blockexecutor/laws.FnLeafSum", spec := "fnLeafSum", unfollowed := true, recurses := true, apart := false, narrowed := true }
def FnLeafSumUptoSaid : Prop := fnLeafSumUptoRow.holds Try.pinned (OpenSpec.upto fnLeafSumSpec)

/-- 'laws.FnValueAt', WHERE WHAT IT READS IS OF BULK AT MOST 1048576: true; the input reads as it did. -/
def fnValueAtUptoRow : OpenClaim := { program := "ytmeacjhaknefpaa", sum := "98dbf495af7c59231d10f107be32ef00eecf04a25714f7dbd350c17cdbb5dab0", func := "loop.example/blockexecutor/laws.FnValueAt", spec := "fnValueAt", unfollowed := true, recurses := true, apart := false, narrowed := true }
def FnValueAtUptoSaid : Prop := fnValueAtUptoRow.holds Try.pinned (OpenSpec.upto fnValueAtSpec)

/-- 'laws.FnPutOrder', WHERE WHAT IT READS IS OF BULK AT MOST 1048576: true; the input reads as it did. -/
def fnPutOrderUptoRow : OpenClaim := { program := "ytmeacjhaknefpaa", sum := "98dbf495af7c59231d10f107be32ef00eecf04a25714f7dbd350c17cdbb5dab0", func := "loop.example/blockexecutor/laws.FnPutOrder", spec := "fnPutOrder", unfollowed := true, recurses := true, apart := false, narrowed := true }
def FnPutOrderUptoSaid : Prop := fnPutOrderUptoRow.holds Try.pinned (OpenSpec.upto fnPutOrderSpec)

/-- 'laws.FnPutValue', WHERE WHAT IT READS IS OF BULK AT MOST 1048576: true; the input reads as it did. -/
def fnPutValueUptoRow : OpenClaim := { program := "ytmeacjhaknefpaa", sum := "98dbf495af7c59231d10f107be32ef00eecf04a25714f7dbd350c17cdbb5dab0", func := "loop.example/blockexecutor/laws.FnPutValue", spec := "fnPutValue", unfollowed := true, recurses := true, apart := false, narrowed := true }
def FnPutValueUptoSaid : Prop := fnPutValueUptoRow.holds Try.pinned (OpenSpec.upto fnPutValueSpec)

/-- 'laws.FnStoreTotal', WHERE WHAT IT READS IS OF BULK AT MOST 1048576: true; the input reads as it did. -/
def fnStoreTotalUptoRow : OpenClaim := { program := "ytmeacjhaknefpaa", sum := "98dbf495af7c59231d10f107be32ef00eecf04a25714f7dbd350c17cdbb5dab0", func := "loop.example/blockexecutor/laws.FnStoreTotal", spec := "fnStoreTotal", unfollowed := true, recurses := true, apart := false, narrowed := true }
def FnStoreTotalUptoSaid : Prop := fnStoreTotalUptoRow.holds Try.pinned (OpenSpec.upto fnStoreTotalSpec)

/-- 'laws.FnChangedKeys', WHERE WHAT IT READS IS OF BULK AT MOST 1048576: true; the input reads as it did. -/
def fnChangedKeysUptoRow : OpenClaim := { program := "ytmeacjhaknefpaa", sum := "98dbf495af7c59231d10f107be32ef00eecf04a25714f7dbd350c17cdbb5dab0", func := "loop.example/blockexecutor/laws.FnChangedKeys", spec := "fnChangedKeys", unfollowed := true, recurses := true, apart := false, narrowed := true }
def FnChangedKeysUptoSaid : Prop := fnChangedKeysUptoRow.holds Try.pinned (OpenSpec.upto fnChangedKeysSpec)

/-- 'laws.FnActionWrites', WHERE WHAT IT READS IS OF BULK AT MOST 1048576: true; the input reads as it did. -/
def fnActionWritesUptoRow : OpenClaim := { program := "ytmeacjhaknefpaa", sum := "98dbf495af7c59231d10f107be32ef00eecf04a25714f7dbd350c17cdbb5dab0", func := "loop.example/blockexecutor/laws.FnActionWrites", spec := "fnActionWrites", unfollowed := true, recurses := true, apart := false, narrowed := true }
def FnActionWritesUptoSaid : Prop := fnActionWritesUptoRow.holds Try.pinned (OpenSpec.upto fnActionWritesSpec)

end Rows
end Go.Proofs.Ytmeacjhaknefpaa
