/-
  No cell of these rows narrows 'for every input' (looked for: loops, veiled, ifaces, maps, wideKeys, modest, calm, conditions, laid).
  DERIVED. THE GIVEN ROWS OF THIS SEAT. 12 by the template 'for every input the law returns true; each argument reads behind the call as it read before'; 0 by the template 'total and deterministic' (their statements: YtpomiglcplbdbaaTotals.lean).
  GIVEN WITH THE SEED: the statements are not yours to turn. If you find one false, say at which input.
  Laid BY PROGRAM, IN A SANDBOX (cutbox-rows.mjs): the forced cells as the released guide's own fill.sh prints them over the translation 4af00fcbb0fd0659… (all of the seat's roots in one cut). By AI agents, Wed Nov 11 2026. No macro, syntax, notation, axiom, sorry.
-/
import Derived.Test.YtpomiglcplbdbaaChecked
import GoSem.Claim
import GoSem.ClaimJoined
import GoSem.ClaimMapViews
import Derived.JoinedTies
import Derived.KernelRfl
namespace Go.Proofs.Ytpomiglcplbdbaa
/- THE CELL 'sum', in the pinned program and in every row, IS THE sha256 OF THE DUMP (.gsa) THAT YtpomiglcplbdbaaProg.lean LOADS. Nothing in Lean hashes anything: it is a label: what it is worth is what the hold of that sum in a sandbox is worth. -/
noncomputable def Try.pinned : Pinned := { name := "ytpomiglcplbdbaa", sum := "4af00fcbb0fd0659cbeb9239c7ffe3464cc93c5046c8b0ef0fa4bd3570ef82e9", checked := Try.checked }
namespace Rows
def none {H : Type} : Left H := { results := [], args := [] }

/-- 'laws.FnProofRoot': WHATEVER THE INPUT: true; the input reads as it did. -/
def fnProofRootSpec : ChangeSpec := { name := "fnProofRoot", fn := fun _ => fun
  | [d] => { results := [.lit (.bool true)], args := [d] }
  | _ => none }
def fnProofRootRow : OpenClaim := { program := "ytpomiglcplbdbaa", sum := "4af00fcbb0fd0659cbeb9239c7ffe3464cc93c5046c8b0ef0fa4bd3570ef82e9", func := "loop.example/blockexecutor/laws.FnProofRoot", spec := "fnProofRoot", unfollowed := true, recurses := true, apart := false }
def FnProofRootSaid : Prop := fnProofRootRow.holds Try.pinned (OpenSpec.ofChange fnProofRootSpec)

/-- ITS FALSE NEIGHBOUR: 'it returns false'. Refute it at one input. -/
def fnProofRootWrong : ChangeSpec := { name := "fnProofRoot", fn := fun _ => fun
  | [d] => { results := [.lit (.bool false)], args := [d] }
  | _ => none }
def FnProofRootWrongFalsely : Prop := fnProofRootRow.holds Try.pinned (OpenSpec.ofChange fnProofRootWrong)

/-- 'laws.FnRootChange': WHATEVER THE INPUT: true; the input reads as it did. -/
def fnRootChangeSpec : ChangeSpec := { name := "fnRootChange", fn := fun _ => fun
  | [d] => { results := [.lit (.bool true)], args := [d] }
  | _ => none }
def fnRootChangeRow : OpenClaim := { program := "ytpomiglcplbdbaa", sum := "4af00fcbb0fd0659cbeb9239c7ffe3464cc93c5046c8b0ef0fa4bd3570ef82e9", func := "loop.example/blockexecutor/laws.FnRootChange", spec := "fnRootChange", unfollowed := true, recurses := true, apart := false }
def FnRootChangeSaid : Prop := fnRootChangeRow.holds Try.pinned (OpenSpec.ofChange fnRootChangeSpec)

/-- ITS FALSE NEIGHBOUR: 'it returns false'. Refute it at one input. -/
def fnRootChangeWrong : ChangeSpec := { name := "fnRootChange", fn := fun _ => fun
  | [d] => { results := [.lit (.bool false)], args := [d] }
  | _ => none }
def FnRootChangeWrongFalsely : Prop := fnRootChangeRow.holds Try.pinned (OpenSpec.ofChange fnRootChangeWrong)

/-- 'laws.FnProofRight': WHATEVER THE INPUT: true; the input reads as it did. -/
def fnProofRightSpec : ChangeSpec := { name := "fnProofRight", fn := fun _ => fun
  | [d] => { results := [.lit (.bool true)], args := [d] }
  | _ => none }
def fnProofRightRow : OpenClaim := { program := "ytpomiglcplbdbaa", sum := "4af00fcbb0fd0659cbeb9239c7ffe3464cc93c5046c8b0ef0fa4bd3570ef82e9", func := "loop.example/blockexecutor/laws.FnProofRight", spec := "fnProofRight", unfollowed := true, recurses := true, apart := false }
def FnProofRightSaid : Prop := fnProofRightRow.holds Try.pinned (OpenSpec.ofChange fnProofRightSpec)

/-- ITS FALSE NEIGHBOUR: 'it returns false'. Refute it at one input. -/
def fnProofRightWrong : ChangeSpec := { name := "fnProofRight", fn := fun _ => fun
  | [d] => { results := [.lit (.bool false)], args := [d] }
  | _ => none }
def FnProofRightWrongFalsely : Prop := fnProofRightRow.holds Try.pinned (OpenSpec.ofChange fnProofRightWrong)

/-- 'laws.FnRootOf': WHATEVER THE INPUT: true; the input reads as it did. -/
def fnRootOfSpec : ChangeSpec := { name := "fnRootOf", fn := fun _ => fun
  | [d] => { results := [.lit (.bool true)], args := [d] }
  | _ => none }
def fnRootOfRow : OpenClaim := { program := "ytpomiglcplbdbaa", sum := "4af00fcbb0fd0659cbeb9239c7ffe3464cc93c5046c8b0ef0fa4bd3570ef82e9", func := "loop.example/blockexecutor/laws.FnRootOf", spec := "fnRootOf", unfollowed := true, recurses := true, apart := false }
def FnRootOfSaid : Prop := fnRootOfRow.holds Try.pinned (OpenSpec.ofChange fnRootOfSpec)

/-- ITS FALSE NEIGHBOUR: 'it returns false'. Refute it at one input. -/
def fnRootOfWrong : ChangeSpec := { name := "fnRootOf", fn := fun _ => fun
  | [d] => { results := [.lit (.bool false)], args := [d] }
  | _ => none }
def FnRootOfWrongFalsely : Prop := fnRootOfRow.holds Try.pinned (OpenSpec.ofChange fnRootOfWrong)

/-- 'laws.FnProofOf': WHATEVER THE INPUT: true; the input reads as it did. -/
def fnProofOfSpec : ChangeSpec := { name := "fnProofOf", fn := fun _ => fun
  | [d] => { results := [.lit (.bool true)], args := [d] }
  | _ => none }
def fnProofOfRow : OpenClaim := { program := "ytpomiglcplbdbaa", sum := "4af00fcbb0fd0659cbeb9239c7ffe3464cc93c5046c8b0ef0fa4bd3570ef82e9", func := "loop.example/blockexecutor/laws.FnProofOf", spec := "fnProofOf", unfollowed := true, recurses := true, apart := false }
def FnProofOfSaid : Prop := fnProofOfRow.holds Try.pinned (OpenSpec.ofChange fnProofOfSpec)

/-- ITS FALSE NEIGHBOUR: 'it returns false'. Refute it at one input. -/
def fnProofOfWrong : ChangeSpec := { name := "fnProofOf", fn := fun _ => fun
  | [d] => { results := [.lit (.bool false)], args := [d] }
  | _ => none }
def FnProofOfWrongFalsely : Prop := fnProofOfRow.holds Try.pinned (OpenSpec.ofChange fnProofOfWrong)

/-- 'laws.FnActionReads': WHATEVER THE INPUT: true; the input reads as it did. -/
def fnActionReadsSpec : ChangeSpec := { name := "fnActionReads", fn := fun _ => fun
  | [d] => { results := [.lit (.bool true)], args := [d] }
  | _ => none }
def fnActionReadsRow : OpenClaim := { program := "ytpomiglcplbdbaa", sum := "4af00fcbb0fd0659cbeb9239c7ffe3464cc93c5046c8b0ef0fa4bd3570ef82e9", func := "loop.example/blockexecutor/laws.FnActionReads", spec := "fnActionReads", unfollowed := true, recurses := true, apart := false }
def FnActionReadsSaid : Prop := fnActionReadsRow.holds Try.pinned (OpenSpec.ofChange fnActionReadsSpec)

/-- ITS FALSE NEIGHBOUR: 'it returns false'. Refute it at one input. -/
def fnActionReadsWrong : ChangeSpec := { name := "fnActionReads", fn := fun _ => fun
  | [d] => { results := [.lit (.bool false)], args := [d] }
  | _ => none }
def FnActionReadsWrongFalsely : Prop := fnActionReadsRow.holds Try.pinned (OpenSpec.ofChange fnActionReadsWrong)

/-- 'laws.FnRunAction': WHATEVER THE INPUT: true; the input reads as it did. -/
def fnRunActionSpec : ChangeSpec := { name := "fnRunAction", fn := fun _ => fun
  | [d] => { results := [.lit (.bool true)], args := [d] }
  | _ => none }
def fnRunActionRow : OpenClaim := { program := "ytpomiglcplbdbaa", sum := "4af00fcbb0fd0659cbeb9239c7ffe3464cc93c5046c8b0ef0fa4bd3570ef82e9", func := "loop.example/blockexecutor/laws.FnRunAction", spec := "fnRunAction", unfollowed := true, recurses := true, apart := false }
def FnRunActionSaid : Prop := fnRunActionRow.holds Try.pinned (OpenSpec.ofChange fnRunActionSpec)

/-- ITS FALSE NEIGHBOUR: 'it returns false'. Refute it at one input. -/
def fnRunActionWrong : ChangeSpec := { name := "fnRunAction", fn := fun _ => fun
  | [d] => { results := [.lit (.bool false)], args := [d] }
  | _ => none }
def FnRunActionWrongFalsely : Prop := fnRunActionRow.holds Try.pinned (OpenSpec.ofChange fnRunActionWrong)

/-- 'laws.FnMoveBack': WHATEVER THE INPUT: true; the input reads as it did. -/
def fnMoveBackSpec : ChangeSpec := { name := "fnMoveBack", fn := fun _ => fun
  | [d] => { results := [.lit (.bool true)], args := [d] }
  | _ => none }
def fnMoveBackRow : OpenClaim := { program := "ytpomiglcplbdbaa", sum := "4af00fcbb0fd0659cbeb9239c7ffe3464cc93c5046c8b0ef0fa4bd3570ef82e9", func := "loop.example/blockexecutor/laws.FnMoveBack", spec := "fnMoveBack", unfollowed := true, recurses := true, apart := false }
def FnMoveBackSaid : Prop := fnMoveBackRow.holds Try.pinned (OpenSpec.ofChange fnMoveBackSpec)

/-- ITS FALSE NEIGHBOUR: 'it returns false'. Refute it at one input. -/
def fnMoveBackWrong : ChangeSpec := { name := "fnMoveBack", fn := fun _ => fun
  | [d] => { results := [.lit (.bool false)], args := [d] }
  | _ => none }
def FnMoveBackWrongFalsely : Prop := fnMoveBackRow.holds Try.pinned (OpenSpec.ofChange fnMoveBackWrong)

/-- 'laws.FnSwapTwice': WHATEVER THE INPUT: true; the input reads as it did. -/
def fnSwapTwiceSpec : ChangeSpec := { name := "fnSwapTwice", fn := fun _ => fun
  | [d] => { results := [.lit (.bool true)], args := [d] }
  | _ => none }
def fnSwapTwiceRow : OpenClaim := { program := "ytpomiglcplbdbaa", sum := "4af00fcbb0fd0659cbeb9239c7ffe3464cc93c5046c8b0ef0fa4bd3570ef82e9", func := "loop.example/blockexecutor/laws.FnSwapTwice", spec := "fnSwapTwice", unfollowed := true, recurses := true, apart := false }
def FnSwapTwiceSaid : Prop := fnSwapTwiceRow.holds Try.pinned (OpenSpec.ofChange fnSwapTwiceSpec)

/-- ITS FALSE NEIGHBOUR: 'it returns false'. Refute it at one input. -/
def fnSwapTwiceWrong : ChangeSpec := { name := "fnSwapTwice", fn := fun _ => fun
  | [d] => { results := [.lit (.bool false)], args := [d] }
  | _ => none }
def FnSwapTwiceWrongFalsely : Prop := fnSwapTwiceRow.holds Try.pinned (OpenSpec.ofChange fnSwapTwiceWrong)

/-- 'laws.FnApplyEffect': WHATEVER THE INPUT: true; the input reads as it did. -/
def fnApplyEffectSpec : ChangeSpec := { name := "fnApplyEffect", fn := fun _ => fun
  | [d] => { results := [.lit (.bool true)], args := [d] }
  | _ => none }
def fnApplyEffectRow : OpenClaim := { program := "ytpomiglcplbdbaa", sum := "4af00fcbb0fd0659cbeb9239c7ffe3464cc93c5046c8b0ef0fa4bd3570ef82e9", func := "loop.example/blockexecutor/laws.FnApplyEffect", spec := "fnApplyEffect", unfollowed := true, recurses := true, apart := false }
def FnApplyEffectSaid : Prop := fnApplyEffectRow.holds Try.pinned (OpenSpec.ofChange fnApplyEffectSpec)

/-- ITS FALSE NEIGHBOUR: 'it returns false'. Refute it at one input. -/
def fnApplyEffectWrong : ChangeSpec := { name := "fnApplyEffect", fn := fun _ => fun
  | [d] => { results := [.lit (.bool false)], args := [d] }
  | _ => none }
def FnApplyEffectWrongFalsely : Prop := fnApplyEffectRow.holds Try.pinned (OpenSpec.ofChange fnApplyEffectWrong)

/-- 'laws.FnEffectSum': WHATEVER THE INPUT: true; the input reads as it did. -/
def fnEffectSumSpec : ChangeSpec := { name := "fnEffectSum", fn := fun _ => fun
  | [d] => { results := [.lit (.bool true)], args := [d] }
  | _ => none }
def fnEffectSumRow : OpenClaim := { program := "ytpomiglcplbdbaa", sum := "4af00fcbb0fd0659cbeb9239c7ffe3464cc93c5046c8b0ef0fa4bd3570ef82e9", func := "loop.example/blockexecutor/laws.FnEffectSum", spec := "fnEffectSum", unfollowed := true, recurses := true, apart := false }
def FnEffectSumSaid : Prop := fnEffectSumRow.holds Try.pinned (OpenSpec.ofChange fnEffectSumSpec)

/-- ITS FALSE NEIGHBOUR: 'it returns false'. Refute it at one input. -/
def fnEffectSumWrong : ChangeSpec := { name := "fnEffectSum", fn := fun _ => fun
  | [d] => { results := [.lit (.bool false)], args := [d] }
  | _ => none }
def FnEffectSumWrongFalsely : Prop := fnEffectSumRow.holds Try.pinned (OpenSpec.ofChange fnEffectSumWrong)

/-- 'laws.FnDoneCount': WHATEVER THE INPUT: true; the input reads as it did. -/
def fnDoneCountSpec : ChangeSpec := { name := "fnDoneCount", fn := fun _ => fun
  | [d] => { results := [.lit (.bool true)], args := [d] }
  | _ => none }
def fnDoneCountRow : OpenClaim := { program := "ytpomiglcplbdbaa", sum := "4af00fcbb0fd0659cbeb9239c7ffe3464cc93c5046c8b0ef0fa4bd3570ef82e9", func := "loop.example/blockexecutor/laws.FnDoneCount", spec := "fnDoneCount", unfollowed := true, recurses := true, apart := false }
def FnDoneCountSaid : Prop := fnDoneCountRow.holds Try.pinned (OpenSpec.ofChange fnDoneCountSpec)

/-- ITS FALSE NEIGHBOUR: 'it returns false'. Refute it at one input. -/
def fnDoneCountWrong : ChangeSpec := { name := "fnDoneCount", fn := fun _ => fun
  | [d] => { results := [.lit (.bool false)], args := [d] }
  | _ => none }
def FnDoneCountWrongFalsely : Prop := fnDoneCountRow.holds Try.pinned (OpenSpec.ofChange fnDoneCountWrong)

/- THE SECOND FORM. 'bulk': how many values and letters a reading holds, each counted each time it is reached (what is shared counts as often as it is met; a slice's spare places count too). A statement '..UptoSaid' is the law's where the arguments, and the package variables that the reading takes, are together of bulk at most 1048576: NARROWER than '..Said'. Prove '..Said' where nothing that the law and all that it calls make is longer than what came in: it says more and counts as full. Else prove '..UptoSaid'. A law counts once. -/
mutual
def uptoBulk {H : Type} : DataW H → Nat
  | .lit (.string bytes) => bytes.length + 1
  | .lit _ => 1
  | .nil => 1
  | .ptr d => uptoBulk d + 1
  | .slice elems spare => uptoBulkAll elems + uptoBulkAll spare + 1
  | .agg parts => uptoBulkAll parts + 1
  | .iface _ d => uptoBulk d + 1
  | .map entries => uptoBulkEntries entries + 1
  | .held _ => 1
def uptoBulkAll {H : Type} : List (DataW H) → Nat
  | [] => 0
  | d :: r => uptoBulk d + uptoBulkAll r
def uptoBulkEntries {H : Type} : List (Lit × DataW H) → Nat
  | [] => 0
  | x :: r => uptoBulkEntry x + uptoBulkEntries r
def uptoBulkEntry {H : Type} : Lit × DataW H → Nat
  | (.string bytes, d) => bytes.length + uptoBulk d + 1
  | (_, d) => uptoBulk d + 1
 end
def uptoSmall : (H : Type) → List (DataW H) → Bool := fun _ ds => decide (uptoBulkAll ds ≤ 1048576)
def OpenSpec.upto (s : _root_.Go.ChangeSpec) : _root_.Go.OpenSpec := { _root_.Go.OpenSpec.ofChange s with cond := some uptoSmall }

/-- 'laws.FnProofRoot', WHERE WHAT IT READS IS OF BULK AT MOST 1048576: true; the input reads as it did. -/
def fnProofRootUptoRow : OpenClaim := { program := "ytpomiglcplbdbaa", sum := "4af00fcbb0fd0659cbeb9239c7ffe3464cc93c5046c8b0ef0fa4bd3570ef82e9", func := "loop.example/blockexecutor/laws.FnProofRoot", spec := "fnProofRoot", unfollowed := true, recurses := true, apart := false, narrowed := true }
def FnProofRootUptoSaid : Prop := fnProofRootUptoRow.holds Try.pinned (OpenSpec.upto fnProofRootSpec)

/-- 'laws.FnRootChange', WHERE WHAT IT READS IS OF BULK AT MOST 1048576: true; the input reads as it did. -/
def fnRootChangeUptoRow : OpenClaim := { program := "ytpomiglcplbdbaa", sum := "4af00fcbb0fd0659cbeb9239c7ffe3464cc93c5046c8b0ef0fa4bd3570ef82e9", func := "loop.example/blockexecutor/laws.FnRootChange", spec := "fnRootChange", unfollowed := true, recurses := true, apart := false, narrowed := true }
def FnRootChangeUptoSaid : Prop := fnRootChangeUptoRow.holds Try.pinned (OpenSpec.upto fnRootChangeSpec)

/-- 'laws.FnProofRight', WHERE WHAT IT READS IS OF BULK AT MOST 1048576: true; the input reads as it did. -/
def fnProofRightUptoRow : OpenClaim := { program := "ytpomiglcplbdbaa", sum := "4af00fcbb0fd0659cbeb9239c7ffe3464cc93c5046c8b0ef0fa4bd3570ef82e9", func := "loop.example/blockexecutor/laws.FnProofRight", spec := "fnProofRight", unfollowed := true, recurses := true, apart := false, narrowed := true }
def FnProofRightUptoSaid : Prop := fnProofRightUptoRow.holds Try.pinned (OpenSpec.upto fnProofRightSpec)

/-- 'laws.FnRootOf', WHERE WHAT IT READS IS OF BULK AT MOST 1048576: true; the input reads as it did. -/
def fnRootOfUptoRow : OpenClaim := { program := "ytpomiglcplbdbaa", sum := "4af00fcbb0fd0659cbeb9239c7ffe3464cc93c5046c8b0ef0fa4bd3570ef82e9", func := "loop.example/blockexecutor/laws.FnRootOf", spec := "fnRootOf", unfollowed := true, recurses := true, apart := false, narrowed := true }
def FnRootOfUptoSaid : Prop := fnRootOfUptoRow.holds Try.pinned (OpenSpec.upto fnRootOfSpec)

/-- 'laws.FnProofOf', WHERE WHAT IT READS IS OF BULK AT MOST 1048576: true; the input reads as it did. -/
def fnProofOfUptoRow : OpenClaim := { program := "ytpomiglcplbdbaa", sum := "4af00fcbb0fd0659cbeb9239c7ffe3464cc93c5046c8b0ef0fa4bd3570ef82e9", func := "loop.example/blockexecutor/laws.FnProofOf", spec := "fnProofOf", unfollowed := true, recurses := true, apart := false, narrowed := true }
def FnProofOfUptoSaid : Prop := fnProofOfUptoRow.holds Try.pinned (OpenSpec.upto fnProofOfSpec)

/-- 'laws.FnActionReads', WHERE WHAT IT READS IS OF BULK AT MOST 1048576: true; the input reads as it did. -/
def fnActionReadsUptoRow : OpenClaim := { program := "ytpomiglcplbdbaa", sum := "4af00fcbb0fd0659cbeb9239c7ffe3464cc93c5046c8b0ef0fa4bd3570ef82e9", func := "loop.example/blockexecutor/laws.FnActionReads", spec := "fnActionReads", unfollowed := true, recurses := true, apart := false, narrowed := true }
def FnActionReadsUptoSaid : Prop := fnActionReadsUptoRow.holds Try.pinned (OpenSpec.upto fnActionReadsSpec)

/-- 'laws.FnRunAction', WHERE WHAT IT READS IS OF BULK AT MOST 1048576: true; the input reads as it did. -/
def fnRunActionUptoRow : OpenClaim := { program := "ytpomiglcplbdbaa", sum := "4af00fcbb0fd0659cbeb9239c7ffe3464cc93c5046c8b0ef0fa4bd3570ef82e9", func := "loop.example/blockexecutor/laws.FnRunAction", spec := "fnRunAction", unfollowed := true, recurses := true, apart := false, narrowed := true }
def FnRunActionUptoSaid : Prop := fnRunActionUptoRow.holds Try.pinned (OpenSpec.upto fnRunActionSpec)

/-- 'laws.FnMoveBack', WHERE WHAT IT READS IS OF BULK AT MOST 1048576: true; the input reads as it did. -/
def fnMoveBackUptoRow : OpenClaim := { program := "ytpomiglcplbdbaa", sum := "4af00fcbb0fd0659cbeb9239c7ffe3464cc93c5046c8b0ef0fa4bd3570ef82e9", func := "loop.example/blockexecutor/laws.FnMoveBack", spec := "fnMoveBack", unfollowed := true, recurses := true, apart := false, narrowed := true }
def FnMoveBackUptoSaid : Prop := fnMoveBackUptoRow.holds Try.pinned (OpenSpec.upto fnMoveBackSpec)

/-- 'laws.FnSwapTwice', WHERE WHAT IT READS IS OF BULK AT MOST 1048576: true; the input reads as it did. -/
def fnSwapTwiceUptoRow : OpenClaim := { program := "ytpomiglcplbdbaa", sum := "4af00fcbb0fd0659cbeb9239c7ffe3464cc93c5046c8b0ef0fa4bd3570ef82e9", func := "loop.example/blockexecutor/laws.FnSwapTwice", spec := "fnSwapTwice", unfollowed := true, recurses := true, apart := false, narrowed := true }
def FnSwapTwiceUptoSaid : Prop := fnSwapTwiceUptoRow.holds Try.pinned (OpenSpec.upto fnSwapTwiceSpec)

/-- 'laws.FnApplyEffect', WHERE WHAT IT READS IS OF BULK AT MOST 1048576: true; the input reads as it did. -/
def fnApplyEffectUptoRow : OpenClaim := { program := "ytpomiglcplbdbaa", sum := "4af00fcbb0fd0659cbeb9239c7ffe3464cc93c5046c8b0ef0fa4bd3570ef82e9", func := "loop.example/blockexecutor/laws.FnApplyEffect", spec := "fnApplyEffect", unfollowed := true, recurses := true, apart := false, narrowed := true }
def FnApplyEffectUptoSaid : Prop := fnApplyEffectUptoRow.holds Try.pinned (OpenSpec.upto fnApplyEffectSpec)

/-- 'laws.FnEffectSum', WHERE WHAT IT READS IS OF BULK AT MOST 1048576: true; the input reads as it did. -/
def fnEffectSumUptoRow : OpenClaim := { program := "ytpomiglcplbdbaa", sum := "4af00fcbb0fd0659cbeb9239c7ffe3464cc93c5046c8b0ef0fa4bd3570ef82e9", func := "loop.example/blockexecutor/laws.FnEffectSum", spec := "fnEffectSum", unfollowed := true, recurses := true, apart := false, narrowed := true }
def FnEffectSumUptoSaid : Prop := fnEffectSumUptoRow.holds Try.pinned (OpenSpec.upto fnEffectSumSpec)

/-- 'laws.FnDoneCount', WHERE WHAT IT READS IS OF BULK AT MOST 1048576: true; the input reads as it did. -/
def fnDoneCountUptoRow : OpenClaim := { program := "ytpomiglcplbdbaa", sum := "4af00fcbb0fd0659cbeb9239c7ffe3464cc93c5046c8b0ef0fa4bd3570ef82e9", func := "loop.example/blockexecutor/laws.FnDoneCount", spec := "fnDoneCount", unfollowed := true, recurses := true, apart := false, narrowed := true }
def FnDoneCountUptoSaid : Prop := fnDoneCountUptoRow.holds Try.pinned (OpenSpec.upto fnDoneCountSpec)

end Rows
end Go.Proofs.Ytpomiglcplbdbaa
