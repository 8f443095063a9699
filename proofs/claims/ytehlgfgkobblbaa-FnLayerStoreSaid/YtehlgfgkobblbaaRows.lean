/-
  No cell of these rows narrows 'for every input' (looked for: loops, veiled, ifaces, maps, wideKeys, modest, calm, conditions, laid).
  DERIVED. THE GIVEN ROWS OF THIS SEAT. 5 by the template 'for every input the law returns true; each argument reads behind the call as it read before'; 0 by the template 'total and deterministic' (their statements: YtehlgfgkobblbaaTotals.lean).
  GIVEN WITH THE SEED: the statements are not yours to turn. If you find one false, say at which input.
  Laid BY PROGRAM, IN A SANDBOX (cutbox-rows.mjs): the forced cells as the released guide's own fill.sh prints them over the translation 57774101a687db36… (all of the seat's roots in one cut). By AI agents, Wed Nov 11 2026. No macro, syntax, notation, axiom, sorry.
-/
import Derived.Test.YtehlgfgkobblbaaChecked
import GoSem.Claim
import GoSem.ClaimJoined
import GoSem.ClaimMapViews
import Derived.JoinedTies
import Derived.KernelRfl
namespace Go.Proofs.Ytehlgfgkobblbaa
/- THE CELL 'sum', in the pinned program and in every row, IS THE sha256 OF THE DUMP (.gsa) THAT YtehlgfgkobblbaaProg.lean LOADS. Nothing in Lean hashes anything: it is a label: what it is worth is what the hold of that sum in a sandbox is worth. -/
noncomputable def Try.pinned : Pinned := { name := "ytehlgfgkobblbaa", sum := "57774101a687db365b63b83633c05a7b78447cbfd7f086131f025d40b74b4552", checked := Try.checked }
namespace Rows
def none {H : Type} : Left H := { results := [], args := [] }

/-- 'laws.FnLayersValid': WHATEVER THE INPUT: true; the input reads as it did. -/
def fnLayersValidSpec : ChangeSpec := { name := "fnLayersValid", fn := fun _ => fun
  | [d] => { results := [.lit (.bool true)], args := [d] }
  | _ => none }
def fnLayersValidRow : OpenClaim := { program := "ytehlgfgkobblbaa", sum := "57774101a687db365b63b83633c05a7b78447cbfd7f086131f025d40b74b4552", func := "loop.example/blockexecutor/laws.FnLayersValid", spec := "fnLayersValid", unfollowed := true, recurses := true, apart := false }
def FnLayersValidSaid : Prop := fnLayersValidRow.holds Try.pinned (OpenSpec.ofChange fnLayersValidSpec)

/-- ITS FALSE NEIGHBOUR: 'it returns false'. Refute it at one input. -/
def fnLayersValidWrong : ChangeSpec := { name := "fnLayersValid", fn := fun _ => fun
  | [d] => { results := [.lit (.bool false)], args := [d] }
  | _ => none }
def FnLayersValidWrongFalsely : Prop := fnLayersValidRow.holds Try.pinned (OpenSpec.ofChange fnLayersValidWrong)

/-- 'laws.FnForkLayer': WHATEVER THE INPUT: true; the input reads as it did. -/
def fnForkLayerSpec : ChangeSpec := { name := "fnForkLayer", fn := fun _ => fun
  | [d] => { results := [.lit (.bool true)], args := [d] }
  | _ => none }
def fnForkLayerRow : OpenClaim := { program := "ytehlgfgkobblbaa", sum := "57774101a687db365b63b83633c05a7b78447cbfd7f086131f025d40b74b4552", func := "loop.example/blockexecutor/laws.FnForkLayer", spec := "fnForkLayer", unfollowed := true, recurses := true, apart := false }
def FnForkLayerSaid : Prop := fnForkLayerRow.holds Try.pinned (OpenSpec.ofChange fnForkLayerSpec)

/-- ITS FALSE NEIGHBOUR: 'it returns false'. Refute it at one input. -/
def fnForkLayerWrong : ChangeSpec := { name := "fnForkLayer", fn := fun _ => fun
  | [d] => { results := [.lit (.bool false)], args := [d] }
  | _ => none }
def FnForkLayerWrongFalsely : Prop := fnForkLayerRow.holds Try.pinned (OpenSpec.ofChange fnForkLayerWrong)

/-- 'laws.FnLayerRead': WHATEVER THE INPUT: true; the input reads as it did. -/
def fnLayerReadSpec : ChangeSpec := { name := "fnLayerRead", fn := fun _ => fun
  | [d] => { results := [.lit (.bool true)], args := [d] }
  | _ => none }
def fnLayerReadRow : OpenClaim := { program := "ytehlgfgkobblbaa", sum := "57774101a687db365b63b83633c05a7b78447cbfd7f086131f025d40b74b4552", func := "loop.example/blockexecutor/laws.FnLayerRead", spec := "fnLayerRead", unfollowed := true, recurses := true, apart := false }
def FnLayerReadSaid : Prop := fnLayerReadRow.holds Try.pinned (OpenSpec.ofChange fnLayerReadSpec)

/-- ITS FALSE NEIGHBOUR: 'it returns false'. Refute it at one input. -/
def fnLayerReadWrong : ChangeSpec := { name := "fnLayerRead", fn := fun _ => fun
  | [d] => { results := [.lit (.bool false)], args := [d] }
  | _ => none }
def FnLayerReadWrongFalsely : Prop := fnLayerReadRow.holds Try.pinned (OpenSpec.ofChange fnLayerReadWrong)

/-- 'laws.FnLayerStore': WHATEVER THE INPUT: true; the input reads as it did. -/
def fnLayerStoreSpec : ChangeSpec := { name := "fnLayerStore", fn := fun _ => fun
  | [d] => { results := [.lit (.bool true)], args := [d] }
  | _ => none }
def fnLayerStoreRow : OpenClaim := { program := "ytehlgfgkobblbaa", sum := "57774101a687db365b63b83633c05a7b78447cbfd7f086131f025d40b74b4552", func := "loop.example/blockexecutor/laws.FnLayerStore", spec := "fnLayerStore", unfollowed := true, recurses := true, apart := false }
def FnLayerStoreSaid : Prop := fnLayerStoreRow.holds Try.pinned (OpenSpec.ofChange fnLayerStoreSpec)

/-- ITS FALSE NEIGHBOUR: 'it returns false'. Refute it at one input. -/
def fnLayerStoreWrong : ChangeSpec := { name := "fnLayerStore", fn := fun _ => fun
  | [d] => { results := [.lit (.bool false)], args := [d] }
  | _ => none }
def FnLayerStoreWrongFalsely : Prop := fnLayerStoreRow.holds Try.pinned (OpenSpec.ofChange fnLayerStoreWrong)

/-- 'laws.FnLayerWrite': WHATEVER THE INPUT: true; the input reads as it did. -/
def fnLayerWriteSpec : ChangeSpec := { name := "fnLayerWrite", fn := fun _ => fun
  | [d] => { results := [.lit (.bool true)], args := [d] }
  | _ => none }
def fnLayerWriteRow : OpenClaim := { program := "ytehlgfgkobblbaa", sum := "57774101a687db365b63b83633c05a7b78447cbfd7f086131f025d40b74b4552", func := "loop.example/blockexecutor/laws.FnLayerWrite", spec := "fnLayerWrite", inPlace := ["slices.overlaps[loop.example/blockexecutor/impl.Entry]"], unfollowed := true, recurses := true, apart := false }
def FnLayerWriteSaid : Prop := fnLayerWriteRow.holds Try.pinned (OpenSpec.ofChange fnLayerWriteSpec)

/-- ITS FALSE NEIGHBOUR: 'it returns false'. Refute it at one input. -/
def fnLayerWriteWrong : ChangeSpec := { name := "fnLayerWrite", fn := fun _ => fun
  | [d] => { results := [.lit (.bool false)], args := [d] }
  | _ => none }
def FnLayerWriteWrongFalsely : Prop := fnLayerWriteRow.holds Try.pinned (OpenSpec.ofChange fnLayerWriteWrong)

/- THE SECOND FORM. 'bulk': how many values and letters a reading holds, each counted each time it is reached (what is shared counts as often as it is met; a slice's spare places count too). A statement '..UptoSaid' is the law's where the arguments, and the package variables that the reading takes, are together of bulk at most 1048576: NARROWER than '..Said'. Prove '..Said' where nothing that the law and all that it calls make is longer than what came in: it says more and counts as full. Else prove '..UptoSaid'. A law counts once. -/
mutual
def uptoBulk {H : Type} : DataW H → Nat
  | .lit (.string bytes) => bytes.length + 1
  | .lit _ => 1
  | .nil => 1
  | .ptr d => uptoBulk d + 1
  | .slice elems spare => uptoBulkAll elems + uptoBulkAll spare + 1
  | .agg parts => uptoBulkAll parts + 1
  | .iface _ d => uptoBulk d + 1
  | .map entries => uptoBulkEntries entries + 1
  | .held _ => 1
def uptoBulkAll {H : Type} : List (DataW H) → Nat
  | [] => 0
  | d :: r => uptoBulk d + uptoBulkAll r
def uptoBulkEntries {H : Type} : List (Lit × DataW H) → Nat
  | [] => 0
  | x :: r => uptoBulkEntry x + uptoBulkEntries r
def uptoBulkEntry {H : Type} : Lit × DataW H → Nat
  | (.string bytes, d) => bytes.length + uptoBulk d + 1
  | (_, d) => uptoBulk d + 1
 end
def uptoSmall : (H : Type) → List (DataW H) → Bool := fun _ ds => decide (uptoBulkAll ds ≤ 1048576)
def OpenSpec.upto (s : _root_.Go.ChangeSpec) : _root_.Go.OpenSpec := { _root_.Go.OpenSpec.ofChange s with cond := some uptoSmall }

/-- 'laws.FnLayersValid', WHERE WHAT IT READS IS OF BULK AT MOST 1048576: true; the input reads as it did. -/
def fnLayersValidUptoRow : OpenClaim := { program := "ytehlgfgkobblbaa", sum := "57774101a687db365b63b83633c05a7b78447cbfd7f086131f025d40b74b4552", func := "loop.example/blockexecutor/laws.FnLayersValid", spec := "fnLayersValid", unfollowed := true, recurses := true, apart := false, narrowed := true }
def FnLayersValidUptoSaid : Prop := fnLayersValidUptoRow.holds Try.pinned (OpenSpec.upto fnLayersValidSpec)

/-- 'laws.FnForkLayer', WHERE WHAT IT READS IS OF BULK AT MOST 1048576: true; the input reads as it did. -/
def fnForkLayerUptoRow : OpenClaim := { program := "ytehlgfgkobblbaa", sum := "57774101a687db365b63b83633c05a7b78447cbfd7f086131f025d40b74b4552", func := "loop.example/blockexecutor/laws.FnForkLayer", spec := "fnForkLayer", unfollowed := true, recurses := true, apart := false, narrowed := true }
def FnForkLayerUptoSaid : Prop := fnForkLayerUptoRow.holds Try.pinned (OpenSpec.upto fnForkLayerSpec)

/-- 'laws.FnLayerRead', WHERE WHAT IT READS IS OF BULK AT MOST 1048576: true; the input reads as it did. -/
def fnLayerReadUptoRow : OpenClaim := { program := "ytehlgfgkobblbaa", sum := "57774101a687db365b63b83633c05a7b78447cbfd7f086131f025d40b74b4552", func := "loop.example/blockexecutor/laws.FnLayerRead", spec := "fnLayerRead", unfollowed := true, recurses := true, apart := false, narrowed := true }
def FnLayerReadUptoSaid : Prop := fnLayerReadUptoRow.holds Try.pinned (OpenSpec.upto fnLayerReadSpec)

/-- 'laws.FnLayerStore', WHERE WHAT IT READS IS OF BULK AT MOST 1048576: true; the input reads as it did. -/
def fnLayerStoreUptoRow : OpenClaim := { program := "ytehlgfgkobblbaa", sum := "57774101a687db365b63b83633c05a7b78447cbfd7f086131f025d40b74b4552", func := "loop.example/blockexecutor/laws.FnLayerStore", spec := "fnLayerStore", unfollowed := true, recurses := true, apart := false, narrowed := true }
def FnLayerStoreUptoSaid : Prop := fnLayerStoreUptoRow.holds Try.pinned (OpenSpec.upto fnLayerStoreSpec)

/-- 'laws.FnLayerWrite', WHERE WHAT IT READS IS OF BULK AT MOST 1048576: true; the input reads as it did. -/
def fnLayerWriteUptoRow : OpenClaim := { program := "ytehlgfgkobblbaa", sum := "57774101a687db365b63b83633c05a7b78447cbfd7f086131f025d40b74b4552", func := "loop.example/blockexecutor/laws.FnLayerWrite", spec := "fnLayerWrite", inPlace := ["slices.overlaps[loop.example/blockexecutor/impl.Entry]"], unfollowed := true, recurses := true, apart := false, narrowed := true }
def FnLayerWriteUptoSaid : Prop := fnLayerWriteUptoRow.holds Try.pinned (OpenSpec.upto fnLayerWriteSpec)

end Rows
end Go.Proofs.Ytehlgfgkobblbaa
