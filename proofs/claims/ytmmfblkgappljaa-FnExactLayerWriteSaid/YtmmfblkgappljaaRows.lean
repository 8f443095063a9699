/-
  No cell of these rows narrows 'for every input' (looked for: loops, veiled, ifaces, maps, wideKeys, modest, calm, conditions, laid).
  DERIVED. THE GIVEN ROWS OF THIS SEAT. 10 by the template 'for every input the law returns true; each argument reads behind the call as it read before'; 0 by the template 'total and deterministic' (their statements: YtmmfblkgappljaaTotals.lean).
  GIVEN WITH THE SEED: the statements are not yours to turn. If you find one false, say at which input.
  Laid BY PROGRAM, IN A SANDBOX (cutbox-rows.mjs): the forced cells as the released guide's own fill.sh prints them over the translation 3df8226183c8fcbc… (all of the seat's roots in one cut). By AI agents, Wed Nov 11 2026. No macro, syntax, notation, axiom, sorry.
-/
import Derived.Test.YtmmfblkgappljaaChecked
import GoSem.Claim
import GoSem.ClaimJoined
import GoSem.ClaimMapViews
import Derived.JoinedTies
import Derived.KernelRfl
namespace Go.Proofs.Ytmmfblkgappljaa
/- THE CELL 'sum', in the pinned program and in every row, IS THE sha256 OF THE DUMP (.gsa) THAT YtmmfblkgappljaaProg.lean LOADS. Nothing in Lean hashes anything: it is a label: what it is worth is what the hold of that sum in a sandbox is worth. -/
noncomputable def Try.pinned : Pinned := { name := "ytmmfblkgappljaa", sum := "3df8226183c8fcbc0a941020275b6d4540036e5fe2108e5df9abe693911e29dc", checked := Try.checked }
namespace Rows
def none {H : Type} : Left H := { results := [], args := [] }

/-- 'laws.FnExactDoneCount': WHATEVER THE INPUT: true; the input reads as it did. -/
def fnExactDoneCountSpec : ChangeSpec := { name := "fnExactDoneCount", fn := fun _ => fun
  | [d] => { results := [.lit (.bool true)], args := [d] }
  | _ => none }
def fnExactDoneCountRow : OpenClaim := { program := "ytmmfblkgappljaa", sum := "3df8226183c8fcbc0a941020275b6d4540036e5fe2108e5df9abe693911e29dc", func := "loop.example/blockexecutor/laws.FnExactDoneCount", spec := "fnExactDoneCount", apart := false }
def FnExactDoneCountSaid : Prop := fnExactDoneCountRow.holds Try.pinned (OpenSpec.ofChange fnExactDoneCountSpec)

/-- ITS FALSE NEIGHBOUR: 'it returns false'. Refute it at one input. -/
def fnExactDoneCountWrong : ChangeSpec := { name := "fnExactDoneCount", fn := fun _ => fun
  | [d] => { results := [.lit (.bool false)], args := [d] }
  | _ => none }
def FnExactDoneCountWrongFalsely : Prop := fnExactDoneCountRow.holds Try.pinned (OpenSpec.ofChange fnExactDoneCountWrong)

/-- 'laws.FnExactLayersValid': WHATEVER THE INPUT: true; the input reads as it did. -/
def fnExactLayersValidSpec : ChangeSpec := { name := "fnExactLayersValid", fn := fun _ => fun
  | [d] => { results := [.lit (.bool true)], args := [d] }
  | _ => none }
def fnExactLayersValidRow : OpenClaim := { program := "ytmmfblkgappljaa", sum := "3df8226183c8fcbc0a941020275b6d4540036e5fe2108e5df9abe693911e29dc", func := "loop.example/blockexecutor/laws.FnExactLayersValid", spec := "fnExactLayersValid", apart := false }
def FnExactLayersValidSaid : Prop := fnExactLayersValidRow.holds Try.pinned (OpenSpec.ofChange fnExactLayersValidSpec)

/-- ITS FALSE NEIGHBOUR: 'it returns false'. Refute it at one input. -/
def fnExactLayersValidWrong : ChangeSpec := { name := "fnExactLayersValid", fn := fun _ => fun
  | [d] => { results := [.lit (.bool false)], args := [d] }
  | _ => none }
def FnExactLayersValidWrongFalsely : Prop := fnExactLayersValidRow.holds Try.pinned (OpenSpec.ofChange fnExactLayersValidWrong)

/-- 'laws.FnExactEffectSum': WHATEVER THE INPUT: true; the input reads as it did. -/
def fnExactEffectSumSpec : ChangeSpec := { name := "fnExactEffectSum", fn := fun _ => fun
  | [d] => { results := [.lit (.bool true)], args := [d] }
  | _ => none }
def fnExactEffectSumRow : OpenClaim := { program := "ytmmfblkgappljaa", sum := "3df8226183c8fcbc0a941020275b6d4540036e5fe2108e5df9abe693911e29dc", func := "loop.example/blockexecutor/laws.FnExactEffectSum", spec := "fnExactEffectSum", unfollowed := true, recurses := true, apart := false }
def FnExactEffectSumSaid : Prop := fnExactEffectSumRow.holds Try.pinned (OpenSpec.ofChange fnExactEffectSumSpec)

/-- ITS FALSE NEIGHBOUR: 'it returns false'. Refute it at one input. -/
def fnExactEffectSumWrong : ChangeSpec := { name := "fnExactEffectSum", fn := fun _ => fun
  | [d] => { results := [.lit (.bool false)], args := [d] }
  | _ => none }
def FnExactEffectSumWrongFalsely : Prop := fnExactEffectSumRow.holds Try.pinned (OpenSpec.ofChange fnExactEffectSumWrong)

/-- 'laws.FnExactApplyEffect': WHATEVER THE INPUT: true; the input reads as it did. -/
def fnExactApplyEffectSpec : ChangeSpec := { name := "fnExactApplyEffect", fn := fun _ => fun
  | [d1, d2] => { results := [.lit (.bool true)], args := [d1, d2] }
  | _ => none }
def fnExactApplyEffectRow : OpenClaim := { program := "ytmmfblkgappljaa", sum := "3df8226183c8fcbc0a941020275b6d4540036e5fe2108e5df9abe693911e29dc", func := "loop.example/blockexecutor/laws.FnExactApplyEffect", spec := "fnExactApplyEffect", apart := false }
def FnExactApplyEffectSaid : Prop := fnExactApplyEffectRow.holds Try.pinned (OpenSpec.ofChange fnExactApplyEffectSpec)

/-- ITS FALSE NEIGHBOUR: 'it returns false'. Refute it at one input. -/
def fnExactApplyEffectWrong : ChangeSpec := { name := "fnExactApplyEffect", fn := fun _ => fun
  | [d1, d2] => { results := [.lit (.bool false)], args := [d1, d2] }
  | _ => none }
def FnExactApplyEffectWrongFalsely : Prop := fnExactApplyEffectRow.holds Try.pinned (OpenSpec.ofChange fnExactApplyEffectWrong)

/-- 'laws.FnExactLayerRead': WHATEVER THE INPUT: true; the input reads as it did. -/
def fnExactLayerReadSpec : ChangeSpec := { name := "fnExactLayerRead", fn := fun _ => fun
  | [d1, d2, d3, d4] => { results := [.lit (.bool true)], args := [d1, d2, d3, d4] }
  | _ => none }
def fnExactLayerReadRow : OpenClaim := { program := "ytmmfblkgappljaa", sum := "3df8226183c8fcbc0a941020275b6d4540036e5fe2108e5df9abe693911e29dc", func := "loop.example/blockexecutor/laws.FnExactLayerRead", spec := "fnExactLayerRead", recurses := true, apart := false }
def FnExactLayerReadSaid : Prop := fnExactLayerReadRow.holds Try.pinned (OpenSpec.ofChange fnExactLayerReadSpec)

/-- ITS FALSE NEIGHBOUR: 'it returns false'. Refute it at one input. -/
def fnExactLayerReadWrong : ChangeSpec := { name := "fnExactLayerRead", fn := fun _ => fun
  | [d1, d2, d3, d4] => { results := [.lit (.bool false)], args := [d1, d2, d3, d4] }
  | _ => none }
def FnExactLayerReadWrongFalsely : Prop := fnExactLayerReadRow.holds Try.pinned (OpenSpec.ofChange fnExactLayerReadWrong)

/-- 'laws.FnExactForkLayer': WHATEVER THE INPUT: true; the input reads as it did. -/
def fnExactForkLayerSpec : ChangeSpec := { name := "fnExactForkLayer", fn := fun _ => fun
  | [d1, d2] => { results := [.lit (.bool true)], args := [d1, d2] }
  | _ => none }
def fnExactForkLayerRow : OpenClaim := { program := "ytmmfblkgappljaa", sum := "3df8226183c8fcbc0a941020275b6d4540036e5fe2108e5df9abe693911e29dc", func := "loop.example/blockexecutor/laws.FnExactForkLayer", spec := "fnExactForkLayer", apart := false }
def FnExactForkLayerSaid : Prop := fnExactForkLayerRow.holds Try.pinned (OpenSpec.ofChange fnExactForkLayerSpec)

/-- ITS FALSE NEIGHBOUR: 'it returns false'. Refute it at one input. -/
def fnExactForkLayerWrong : ChangeSpec := { name := "fnExactForkLayer", fn := fun _ => fun
  | [d1, d2] => { results := [.lit (.bool false)], args := [d1, d2] }
  | _ => none }
def FnExactForkLayerWrongFalsely : Prop := fnExactForkLayerRow.holds Try.pinned (OpenSpec.ofChange fnExactForkLayerWrong)

/-- 'laws.FnExactEffectsSum': WHATEVER THE INPUT: true; the input reads as it did. -/
def fnExactEffectsSumSpec : ChangeSpec := { name := "fnExactEffectsSum", fn := fun _ => fun
  | [d] => { results := [.lit (.bool true)], args := [d] }
  | _ => none }
def fnExactEffectsSumRow : OpenClaim := { program := "ytmmfblkgappljaa", sum := "3df8226183c8fcbc0a941020275b6d4540036e5fe2108e5df9abe693911e29dc", func := "loop.example/blockexecutor/laws.FnExactEffectsSum", spec := "fnExactEffectsSum", unfollowed := true, recurses := true, apart := false }
def FnExactEffectsSumSaid : Prop := fnExactEffectsSumRow.holds Try.pinned (OpenSpec.ofChange fnExactEffectsSumSpec)

/-- ITS FALSE NEIGHBOUR: 'it returns false'. Refute it at one input. -/
def fnExactEffectsSumWrong : ChangeSpec := { name := "fnExactEffectsSum", fn := fun _ => fun
  | [d] => { results := [.lit (.bool false)], args := [d] }
  | _ => none }
def FnExactEffectsSumWrongFalsely : Prop := fnExactEffectsSumRow.holds Try.pinned (OpenSpec.ofChange fnExactEffectsSumWrong)

/-- 'laws.FnExactLayerStore': WHATEVER THE INPUT: true; the input reads as it did. -/
def fnExactLayerStoreSpec : ChangeSpec := { name := "fnExactLayerStore", fn := fun _ => fun
  | [d1, d2, d3] => { results := [.lit (.bool true)], args := [d1, d2, d3] }
  | _ => none }
def fnExactLayerStoreRow : OpenClaim := { program := "ytmmfblkgappljaa", sum := "3df8226183c8fcbc0a941020275b6d4540036e5fe2108e5df9abe693911e29dc", func := "loop.example/blockexecutor/laws.FnExactLayerStore", spec := "fnExactLayerStore", recurses := true, apart := false }
def FnExactLayerStoreSaid : Prop := fnExactLayerStoreRow.holds Try.pinned (OpenSpec.ofChange fnExactLayerStoreSpec)

/-- ITS FALSE NEIGHBOUR: 'it returns false'. Refute it at one input. -/
def fnExactLayerStoreWrong : ChangeSpec := { name := "fnExactLayerStore", fn := fun _ => fun
  | [d1, d2, d3] => { results := [.lit (.bool false)], args := [d1, d2, d3] }
  | _ => none }
def FnExactLayerStoreWrongFalsely : Prop := fnExactLayerStoreRow.holds Try.pinned (OpenSpec.ofChange fnExactLayerStoreWrong)

/-- 'laws.FnExactLayerWrite': WHATEVER THE INPUT: true; the input reads as it did. -/
def fnExactLayerWriteSpec : ChangeSpec := { name := "fnExactLayerWrite", fn := fun _ => fun
  | [d1, d2, d3, d4] => { results := [.lit (.bool true)], args := [d1, d2, d3, d4] }
  | _ => none }
def fnExactLayerWriteRow : OpenClaim := { program := "ytmmfblkgappljaa", sum := "3df8226183c8fcbc0a941020275b6d4540036e5fe2108e5df9abe693911e29dc", func := "loop.example/blockexecutor/laws.FnExactLayerWrite", spec := "fnExactLayerWrite", inPlace := ["slices.overlaps[loop.example/blockexecutor/impl.Entry]"], unfollowed := true, recurses := true, apart := false }
def FnExactLayerWriteSaid : Prop := fnExactLayerWriteRow.holds Try.pinned (OpenSpec.ofChange fnExactLayerWriteSpec)

/-- ITS FALSE NEIGHBOUR: 'it returns false'. Refute it at one input. -/
def fnExactLayerWriteWrong : ChangeSpec := { name := "fnExactLayerWrite", fn := fun _ => fun
  | [d1, d2, d3, d4] => { results := [.lit (.bool false)], args := [d1, d2, d3, d4] }
  | _ => none }
def FnExactLayerWriteWrongFalsely : Prop := fnExactLayerWriteRow.holds Try.pinned (OpenSpec.ofChange fnExactLayerWriteWrong)

/-- 'laws.FnExactRunSerial': WHATEVER THE INPUT: true; the input reads as it did. -/
def fnExactRunSerialSpec : ChangeSpec := { name := "fnExactRunSerial", fn := fun _ => fun
  | [d1, d2] => { results := [.lit (.bool true)], args := [d1, d2] }
  | _ => none }
def fnExactRunSerialRow : OpenClaim := { program := "ytmmfblkgappljaa", sum := "3df8226183c8fcbc0a941020275b6d4540036e5fe2108e5df9abe693911e29dc", func := "loop.example/blockexecutor/laws.FnExactRunSerial", spec := "fnExactRunSerial", unfollowed := true, recurses := true, apart := false }
def FnExactRunSerialSaid : Prop := fnExactRunSerialRow.holds Try.pinned (OpenSpec.ofChange fnExactRunSerialSpec)

/-- ITS FALSE NEIGHBOUR: 'it returns false'. Refute it at one input. -/
def fnExactRunSerialWrong : ChangeSpec := { name := "fnExactRunSerial", fn := fun _ => fun
  | [d1, d2] => { results := [.lit (.bool false)], args := [d1, d2] }
  | _ => none }
def FnExactRunSerialWrongFalsely : Prop := fnExactRunSerialRow.holds Try.pinned (OpenSpec.ofChange fnExactRunSerialWrong)

/- THE SECOND FORM. 'bulk': how many values and letters a reading holds, each counted each time it is reached (what is shared counts as often as it is met; a slice's spare places count too). A statement '..UptoSaid' is the law's where the arguments, and the package variables that the reading takes, are together of bulk at most 1048576: NARROWER than '..Said'. Prove '..Said' where nothing that the law and all that it calls make is longer than what came in: it says more and counts as full. Else prove '..UptoSaid'. A law counts once. -/
mutual
def uptoBulk {H : Type} : DataW H → Nat
  | .lit (.string bytes) => bytes.length + 1
  | .lit _ => 1
  | .nil => 1
  | .ptr d => uptoBulk d + 1
  | .slice elems spare => uptoBulkAll elems + uptoBulkAll spare + 1
  | .agg parts => uptoBulkAll parts + 1
  | .iface _ d => uptoBulk d + 1
  | .map entries => uptoBulkEntries entries + 1
  | .held _ => 1
def uptoBulkAll {H : Type} : List (DataW H) → Nat
  | [] => 0
  | d :: r => uptoBulk d + uptoBulkAll r
def uptoBulkEntries {H : Type} : List (Lit × DataW H) → Nat
  | [] => 0
  | x :: r => uptoBulkEntry x + uptoBulkEntries r
def uptoBulkEntry {H : Type} : Lit × DataW H → Nat
  | (.string bytes, d) => bytes.length + uptoBulk d + 1
  | (_, d) => uptoBulk d + 1
 end
def uptoSmall : (H : Type) → List (DataW H) → Bool := fun _ ds => decide (uptoBulkAll ds ≤ 1048576)
def OpenSpec.upto (s : _root_.Go.ChangeSpec) : _root_.Go.OpenSpec := { _root_.Go.OpenSpec.ofChange s with cond := some uptoSmall }

/-- 'laws.FnExactDoneCount', WHERE WHAT IT READS IS OF BULK AT MOST 1048576: true; the input reads as it did. -/
def fnExactDoneCountUptoRow : OpenClaim := { program := "ytmmfblkgappljaa", sum := "3df8226183c8fcbc0a941020275b6d4540036e5fe2108e5df9abe693911e29dc", func := "loop.example/blockexecutor/laws.FnExactDoneCount", spec := "fnExactDoneCount", apart := false, narrowed := true }
def FnExactDoneCountUptoSaid : Prop := fnExactDoneCountUptoRow.holds Try.pinned (OpenSpec.upto fnExactDoneCountSpec)

/-- 'laws.FnExactLayersValid', WHERE WHAT IT READS IS OF BULK AT MOST 1048576: true; the input reads as it did. -/
def fnExactLayersValidUptoRow : OpenClaim := { program := "ytmmfblkgappljaa", sum := "3df8226183c8fcbc0a941020275b6d4540036e5fe2108e5df9abe693911e29dc", func := "loop.example/blockexecutor/laws.FnExactLayersValid", spec := "fnExactLayersValid", apart := false, narrowed := true }
def FnExactLayersValidUptoSaid : Prop := fnExactLayersValidUptoRow.holds Try.pinned (OpenSpec.upto fnExactLayersValidSpec)

/-- 'laws.FnExactEffectSum', WHERE WHAT IT READS IS OF BULK AT MOST 1048576: true; the input reads as it did. -/
def fnExactEffectSumUptoRow : OpenClaim := { program := "ytmmfblkgappljaa", sum := "3df8226183c8fcbc0a941020275b6d4540036e5fe2108e5df9abe693911e29dc", func := "loop.example/blockexecutor/laws.FnExactEffectSum", spec := "fnExactEffectSum", unfollowed := true, recurses := true, apart := false, narrowed := true }
def FnExactEffectSumUptoSaid : Prop := fnExactEffectSumUptoRow.holds Try.pinned (OpenSpec.upto fnExactEffectSumSpec)

/-- 'laws.FnExactApplyEffect', WHERE WHAT IT READS IS OF BULK AT MOST 1048576: true; the input reads as it did. -/
def fnExactApplyEffectUptoRow : OpenClaim := { program := "ytmmfblkgappljaa", sum := "3df8226183c8fcbc0a941020275b6d4540036e5fe2108e5df9abe693911e29dc", func := "loop.example/blockexecutor/laws.FnExactApplyEffect", spec := "fnExactApplyEffect", apart := false, narrowed := true }
def FnExactApplyEffectUptoSaid : Prop := fnExactApplyEffectUptoRow.holds Try.pinned (OpenSpec.upto fnExactApplyEffectSpec)

/-- 'laws.FnExactLayerRead', WHERE WHAT IT READS IS OF BULK AT MOST 1048576: true; the input reads as it did. -/
def fnExactLayerReadUptoRow : OpenClaim := { program := "ytmmfblkgappljaa", sum := "3df8226183c8fcbc0a941020275b6d4540036e5fe2108e5df9abe693911e29dc", func := "loop.example/blockexecutor/laws.FnExactLayerRead", spec := "fnExactLayerRead", recurses := true, apart := false, narrowed := true }
def FnExactLayerReadUptoSaid : Prop := fnExactLayerReadUptoRow.holds Try.pinned (OpenSpec.upto fnExactLayerReadSpec)

/-- 'laws.FnExactForkLayer', WHERE WHAT IT READS IS OF BULK AT MOST 1048576: true; the input reads as it did. -/
def fnExactForkLayerUptoRow : OpenClaim := { program := "ytmmfblkgappljaa", sum := "3df8226183c8fcbc0a941020275b6d4540036e5fe2108e5df9abe693911e29dc", func := "loop.example/blockexecutor/laws.FnExactForkLayer", spec := "fnExactForkLayer", apart := false, narrowed := true }
def FnExactForkLayerUptoSaid : Prop := fnExactForkLayerUptoRow.holds Try.pinned (OpenSpec.upto fnExactForkLayerSpec)

/-- 'laws.FnExactEffectsSum', WHERE WHAT IT READS IS OF BULK AT MOST 1048576: true; the input reads as it did. -/
def fnExactEffectsSumUptoRow : OpenClaim := { program := "ytmmfblkgappljaa", sum := "3df8226183c8fcbc0a941020275b6d4540036e5fe2108e5df9abe693911e29dc", func := "loop.example/blockexecutor/laws.FnExactEffectsSum", spec := "fnExactEffectsSum", unfollowed := true, recurses := true, apart := false, narrowed := true }
def FnExactEffectsSumUptoSaid : Prop := fnExactEffectsSumUptoRow.holds Try.pinned (OpenSpec.upto fnExactEffectsSumSpec)

/-- 'laws.FnExactLayerStore', WHERE WHAT IT READS IS OF BULK AT MOST 1048576: true; the input reads as it did. -/
def fnExactLayerStoreUptoRow : OpenClaim := { program := "ytmmfblkgappljaa", sum := "3df8226183c8fcbc0a941020275b6d4540036e5fe2108e5df9abe693911e29dc", func := "loop.example/blockexecutor/laws.FnExactLayerStore", spec := "fnExactLayerStore", recurses := true, apart := false, narrowed := true }
def FnExactLayerStoreUptoSaid : Prop := fnExactLayerStoreUptoRow.holds Try.pinned (OpenSpec.upto fnExactLayerStoreSpec)

/-- 'laws.FnExactLayerWrite', WHERE WHAT IT READS IS OF BULK AT MOST 1048576: true; the input reads as it did. -/
def fnExactLayerWriteUptoRow : OpenClaim := { program := "ytmmfblkgappljaa", sum := "3df8226183c8fcbc0a941020275b6d4540036e5fe2108e5df9abe693911e29dc", func := "loop.example/blockexecutor/laws.FnExactLayerWrite", spec := "fnExactLayerWrite", inPlace := ["slices.overlaps[loop.example/blockexecutor/impl.Entry]"], unfollowed := true, recurses := true, apart := false, narrowed := true }
def FnExactLayerWriteUptoSaid : Prop := fnExactLayerWriteUptoRow.holds Try.pinned (OpenSpec.upto fnExactLayerWriteSpec)

/-- 'laws.FnExactRunSerial', WHERE WHAT IT READS IS OF BULK AT MOST 1048576: true; the input reads as it did. -/
def fnExactRunSerialUptoRow : OpenClaim := { program := "ytmmfblkgappljaa", sum := "3df8226183c8fcbc0a941020275b6d4540036e5fe2108e5df9abe693911e29dc", func := "loop.example/blockexecutor/laws.FnExactRunSerial", spec := "fnExactRunSerial", unfollowed := true, recurses := true, apart := false, narrowed := true }
def FnExactRunSerialUptoSaid : Prop := fnExactRunSerialUptoRow.holds Try.pinned (OpenSpec.upto fnExactRunSerialSpec)

end Rows
end Go.Proofs.Ytmmfblkgappljaa
