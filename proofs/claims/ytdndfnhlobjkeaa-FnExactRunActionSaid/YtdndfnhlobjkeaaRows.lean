/-
  No cell of these rows narrows 'for every input' (looked for: loops, veiled, ifaces, maps, wideKeys, modest, calm, conditions, laid).
  DERIVED. THE GIVEN ROWS OF THIS SEAT. 12 by the template 'for every input the law returns true; each argument reads behind the call as it read before'; 0 by the template 'total and deterministic' (their statements: YtdndfnhlobjkeaaTotals.lean).
  GIVEN WITH THE SEED: the statements are not yours to turn. If you find one false, say at which input.
  Laid BY PROGRAM, IN A SANDBOX (cutbox-rows.mjs): the forced cells as the released guide's own fill.sh prints them over the translation 19e666097a1ccbe7… (all of the seat's roots in one cut). By AI agents, Wed Nov 11 2026. No macro, syntax, notation, axiom, sorry.
-/
import Derived.Test.YtdndfnhlobjkeaaChecked
import GoSem.Claim
import GoSem.ClaimJoined
import GoSem.ClaimMapViews
import Derived.JoinedTies
import Derived.KernelRfl
namespace Go.Proofs.Ytdndfnhlobjkeaa
/- THE CELL 'sum', in the pinned program and in every row, IS THE sha256 OF THE DUMP (.gsa) THAT YtdndfnhlobjkeaaProg.lean LOADS. Nothing in Lean hashes anything: it is a label: what it is worth is what the hold of that sum in a sandbox is worth. -/
noncomputable def Try.pinned : Pinned := { name := "ytdndfnhlobjkeaa", sum := "19e666097a1ccbe70840e6c4a748270af2fae724c9a1e879a34798e3676a9482", checked := Try.checked }
namespace Rows
def none {H : Type} : Left H := { results := [], args := [] }

/-- 'laws.FnExactStoreTotal': WHATEVER THE INPUT: true; the input reads as it did. -/
def fnExactStoreTotalSpec : ChangeSpec := { name := "fnExactStoreTotal", fn := fun _ => fun
  | [d] => { results := [.lit (.bool true)], args := [d] }
  | _ => none }
def fnExactStoreTotalRow : OpenClaim := { program := "ytdndfnhlobjkeaa", sum := "19e666097a1ccbe70840e6c4a748270af2fae724c9a1e879a34798e3676a9482", func := "loop.example/blockexecutor/laws.FnExactStoreTotal", spec := "fnExactStoreTotal", apart := false }
def FnExactStoreTotalSaid : Prop := fnExactStoreTotalRow.holds Try.pinned (OpenSpec.ofChange fnExactStoreTotalSpec)

/-- ITS FALSE NEIGHBOUR: 'it returns false'. Refute it at one input. -/
def fnExactStoreTotalWrong : ChangeSpec := { name := "fnExactStoreTotal", fn := fun _ => fun
  | [d] => { results := [.lit (.bool false)], args := [d] }
  | _ => none }
def FnExactStoreTotalWrongFalsely : Prop := fnExactStoreTotalRow.holds Try.pinned (OpenSpec.ofChange fnExactStoreTotalWrong)

/-- 'laws.FnExactActionReads': WHATEVER THE INPUT: true; the input reads as it did. -/
def fnExactActionReadsSpec : ChangeSpec := { name := "fnExactActionReads", fn := fun _ => fun
  | [d] => { results := [.lit (.bool true)], args := [d] }
  | _ => none }
def fnExactActionReadsRow : OpenClaim := { program := "ytdndfnhlobjkeaa", sum := "19e666097a1ccbe70840e6c4a748270af2fae724c9a1e879a34798e3676a9482", func := "loop.example/blockexecutor/laws.FnExactActionReads", spec := "fnExactActionReads", apart := false }
def FnExactActionReadsSaid : Prop := fnExactActionReadsRow.holds Try.pinned (OpenSpec.ofChange fnExactActionReadsSpec)

/-- ITS FALSE NEIGHBOUR: 'it returns false'. Refute it at one input. -/
def fnExactActionReadsWrong : ChangeSpec := { name := "fnExactActionReads", fn := fun _ => fun
  | [d] => { results := [.lit (.bool false)], args := [d] }
  | _ => none }
def FnExactActionReadsWrongFalsely : Prop := fnExactActionReadsRow.holds Try.pinned (OpenSpec.ofChange fnExactActionReadsWrong)

/-- 'laws.FnExactValueAt': WHATEVER THE INPUT: true; the input reads as it did. -/
def fnExactValueAtSpec : ChangeSpec := { name := "fnExactValueAt", fn := fun _ => fun
  | [d1, d2] => { results := [.lit (.bool true)], args := [d1, d2] }
  | _ => none }
def fnExactValueAtRow : OpenClaim := { program := "ytdndfnhlobjkeaa", sum := "19e666097a1ccbe70840e6c4a748270af2fae724c9a1e879a34798e3676a9482", func := "loop.example/blockexecutor/laws.FnExactValueAt", spec := "fnExactValueAt", apart := false }
def FnExactValueAtSaid : Prop := fnExactValueAtRow.holds Try.pinned (OpenSpec.ofChange fnExactValueAtSpec)

/-- ITS FALSE NEIGHBOUR: 'it returns false'. Refute it at one input. -/
def fnExactValueAtWrong : ChangeSpec := { name := "fnExactValueAt", fn := fun _ => fun
  | [d1, d2] => { results := [.lit (.bool false)], args := [d1, d2] }
  | _ => none }
def FnExactValueAtWrongFalsely : Prop := fnExactValueAtRow.holds Try.pinned (OpenSpec.ofChange fnExactValueAtWrong)

/-- 'laws.FnExactActionWrites': WHATEVER THE INPUT: true; the input reads as it did. -/
def fnExactActionWritesSpec : ChangeSpec := { name := "fnExactActionWrites", fn := fun _ => fun
  | [d] => { results := [.lit (.bool true)], args := [d] }
  | _ => none }
def fnExactActionWritesRow : OpenClaim := { program := "ytdndfnhlobjkeaa", sum := "19e666097a1ccbe70840e6c4a748270af2fae724c9a1e879a34798e3676a9482", func := "loop.example/blockexecutor/laws.FnExactActionWrites", spec := "fnExactActionWrites", apart := false }
def FnExactActionWritesSaid : Prop := fnExactActionWritesRow.holds Try.pinned (OpenSpec.ofChange fnExactActionWritesSpec)

/-- ITS FALSE NEIGHBOUR: 'it returns false'. Refute it at one input. -/
def fnExactActionWritesWrong : ChangeSpec := { name := "fnExactActionWrites", fn := fun _ => fun
  | [d] => { results := [.lit (.bool false)], args := [d] }
  | _ => none }
def FnExactActionWritesWrongFalsely : Prop := fnExactActionWritesRow.holds Try.pinned (OpenSpec.ofChange fnExactActionWritesWrong)

/-- 'laws.FnExactProofRoot': WHATEVER THE INPUT: true; the input reads as it did. -/
def fnExactProofRootSpec : ChangeSpec := { name := "fnExactProofRoot", fn := fun _ => fun
  | [d1, d2, d3] => { results := [.lit (.bool true)], args := [d1, d2, d3] }
  | _ => none }
def fnExactProofRootRow : OpenClaim := { program := "ytdndfnhlobjkeaa", sum := "19e666097a1ccbe70840e6c4a748270af2fae724c9a1e879a34798e3676a9482", func := "loop.example/blockexecutor/laws.FnExactProofRoot", spec := "fnExactProofRoot", unfollowed := true, recurses := true, apart := false }
def FnExactProofRootSaid : Prop := fnExactProofRootRow.holds Try.pinned (OpenSpec.ofChange fnExactProofRootSpec)

/-- ITS FALSE NEIGHBOUR: 'it returns false'. Refute it at one input. -/
def fnExactProofRootWrong : ChangeSpec := { name := "fnExactProofRoot", fn := fun _ => fun
  | [d1, d2, d3] => { results := [.lit (.bool false)], args := [d1, d2, d3] }
  | _ => none }
def FnExactProofRootWrongFalsely : Prop := fnExactProofRootRow.holds Try.pinned (OpenSpec.ofChange fnExactProofRootWrong)

/-- 'laws.FnExactActionsValid': WHATEVER THE INPUT: true; the input reads as it did. -/
def fnExactActionsValidSpec : ChangeSpec := { name := "fnExactActionsValid", fn := fun _ => fun
  | [d] => { results := [.lit (.bool true)], args := [d] }
  | _ => none }
def fnExactActionsValidRow : OpenClaim := { program := "ytdndfnhlobjkeaa", sum := "19e666097a1ccbe70840e6c4a748270af2fae724c9a1e879a34798e3676a9482", func := "loop.example/blockexecutor/laws.FnExactActionsValid", spec := "fnExactActionsValid", unfollowed := true, recurses := true, apart := false }
def FnExactActionsValidSaid : Prop := fnExactActionsValidRow.holds Try.pinned (OpenSpec.ofChange fnExactActionsValidSpec)

/-- ITS FALSE NEIGHBOUR: 'it returns false'. Refute it at one input. -/
def fnExactActionsValidWrong : ChangeSpec := { name := "fnExactActionsValid", fn := fun _ => fun
  | [d] => { results := [.lit (.bool false)], args := [d] }
  | _ => none }
def FnExactActionsValidWrongFalsely : Prop := fnExactActionsValidRow.holds Try.pinned (OpenSpec.ofChange fnExactActionsValidWrong)

/-- 'laws.FnExactProofRight': WHATEVER THE INPUT: true; the input reads as it did. -/
def fnExactProofRightSpec : ChangeSpec := { name := "fnExactProofRight", fn := fun _ => fun
  | [d1, d2, d3, d4] => { results := [.lit (.bool true)], args := [d1, d2, d3, d4] }
  | _ => none }
def fnExactProofRightRow : OpenClaim := { program := "ytdndfnhlobjkeaa", sum := "19e666097a1ccbe70840e6c4a748270af2fae724c9a1e879a34798e3676a9482", func := "loop.example/blockexecutor/laws.FnExactProofRight", spec := "fnExactProofRight", unfollowed := true, recurses := true, apart := false }
def FnExactProofRightSaid : Prop := fnExactProofRightRow.holds Try.pinned (OpenSpec.ofChange fnExactProofRightSpec)

/-- ITS FALSE NEIGHBOUR: 'it returns false'. Refute it at one input. -/
def fnExactProofRightWrong : ChangeSpec := { name := "fnExactProofRight", fn := fun _ => fun
  | [d1, d2, d3, d4] => { results := [.lit (.bool false)], args := [d1, d2, d3, d4] }
  | _ => none }
def FnExactProofRightWrongFalsely : Prop := fnExactProofRightRow.holds Try.pinned (OpenSpec.ofChange fnExactProofRightWrong)

/-- 'laws.FnExactChangedKeys': WHATEVER THE INPUT: true; the input reads as it did. -/
def fnExactChangedKeysSpec : ChangeSpec := { name := "fnExactChangedKeys", fn := fun _ => fun
  | [d1, d2] => { results := [.lit (.bool true)], args := [d1, d2] }
  | _ => none }
def fnExactChangedKeysRow : OpenClaim := { program := "ytdndfnhlobjkeaa", sum := "19e666097a1ccbe70840e6c4a748270af2fae724c9a1e879a34798e3676a9482", func := "loop.example/blockexecutor/laws.FnExactChangedKeys", spec := "fnExactChangedKeys", apart := false }
def FnExactChangedKeysSaid : Prop := fnExactChangedKeysRow.holds Try.pinned (OpenSpec.ofChange fnExactChangedKeysSpec)

/-- ITS FALSE NEIGHBOUR: 'it returns false'. Refute it at one input. -/
def fnExactChangedKeysWrong : ChangeSpec := { name := "fnExactChangedKeys", fn := fun _ => fun
  | [d1, d2] => { results := [.lit (.bool false)], args := [d1, d2] }
  | _ => none }
def FnExactChangedKeysWrongFalsely : Prop := fnExactChangedKeysRow.holds Try.pinned (OpenSpec.ofChange fnExactChangedKeysWrong)

/-- 'laws.FnExactPutValue': WHATEVER THE INPUT: true; the input reads as it did. -/
def fnExactPutValueSpec : ChangeSpec := { name := "fnExactPutValue", fn := fun _ => fun
  | [d1, d2, d3] => { results := [.lit (.bool true)], args := [d1, d2, d3] }
  | _ => none }
def fnExactPutValueRow : OpenClaim := { program := "ytdndfnhlobjkeaa", sum := "19e666097a1ccbe70840e6c4a748270af2fae724c9a1e879a34798e3676a9482", func := "loop.example/blockexecutor/laws.FnExactPutValue", spec := "fnExactPutValue", apart := false }
def FnExactPutValueSaid : Prop := fnExactPutValueRow.holds Try.pinned (OpenSpec.ofChange fnExactPutValueSpec)

/-- ITS FALSE NEIGHBOUR: 'it returns false'. Refute it at one input. -/
def fnExactPutValueWrong : ChangeSpec := { name := "fnExactPutValue", fn := fun _ => fun
  | [d1, d2, d3] => { results := [.lit (.bool false)], args := [d1, d2, d3] }
  | _ => none }
def FnExactPutValueWrongFalsely : Prop := fnExactPutValueRow.holds Try.pinned (OpenSpec.ofChange fnExactPutValueWrong)

/-- 'laws.FnExactRootOf': WHATEVER THE INPUT: true; the input reads as it did. -/
def fnExactRootOfSpec : ChangeSpec := { name := "fnExactRootOf", fn := fun _ => fun
  | [d] => { results := [.lit (.bool true)], args := [d] }
  | _ => none }
def fnExactRootOfRow : OpenClaim := { program := "ytdndfnhlobjkeaa", sum := "19e666097a1ccbe70840e6c4a748270af2fae724c9a1e879a34798e3676a9482", func := "loop.example/blockexecutor/laws.FnExactRootOf", spec := "fnExactRootOf", unfollowed := true, recurses := true, apart := false }
def FnExactRootOfSaid : Prop := fnExactRootOfRow.holds Try.pinned (OpenSpec.ofChange fnExactRootOfSpec)

/-- ITS FALSE NEIGHBOUR: 'it returns false'. Refute it at one input. -/
def fnExactRootOfWrong : ChangeSpec := { name := "fnExactRootOf", fn := fun _ => fun
  | [d] => { results := [.lit (.bool false)], args := [d] }
  | _ => none }
def FnExactRootOfWrongFalsely : Prop := fnExactRootOfRow.holds Try.pinned (OpenSpec.ofChange fnExactRootOfWrong)

/-- 'laws.FnExactProofOf': WHATEVER THE INPUT: true; the input reads as it did. -/
def fnExactProofOfSpec : ChangeSpec := { name := "fnExactProofOf", fn := fun _ => fun
  | [d1, d2] => { results := [.lit (.bool true)], args := [d1, d2] }
  | _ => none }
def fnExactProofOfRow : OpenClaim := { program := "ytdndfnhlobjkeaa", sum := "19e666097a1ccbe70840e6c4a748270af2fae724c9a1e879a34798e3676a9482", func := "loop.example/blockexecutor/laws.FnExactProofOf", spec := "fnExactProofOf", unfollowed := true, recurses := true, apart := false }
def FnExactProofOfSaid : Prop := fnExactProofOfRow.holds Try.pinned (OpenSpec.ofChange fnExactProofOfSpec)

/-- ITS FALSE NEIGHBOUR: 'it returns false'. Refute it at one input. -/
def fnExactProofOfWrong : ChangeSpec := { name := "fnExactProofOf", fn := fun _ => fun
  | [d1, d2] => { results := [.lit (.bool false)], args := [d1, d2] }
  | _ => none }
def FnExactProofOfWrongFalsely : Prop := fnExactProofOfRow.holds Try.pinned (OpenSpec.ofChange fnExactProofOfWrong)

/-- 'laws.FnExactRunAction': WHATEVER THE INPUT: true; the input reads as it did. -/
def fnExactRunActionSpec : ChangeSpec := { name := "fnExactRunAction", fn := fun _ => fun
  | [d1, d2] => { results := [.lit (.bool true)], args := [d1, d2] }
  | _ => none }
def fnExactRunActionRow : OpenClaim := { program := "ytdndfnhlobjkeaa", sum := "19e666097a1ccbe70840e6c4a748270af2fae724c9a1e879a34798e3676a9482", func := "loop.example/blockexecutor/laws.FnExactRunAction", spec := "fnExactRunAction", apart := false }
def FnExactRunActionSaid : Prop := fnExactRunActionRow.holds Try.pinned (OpenSpec.ofChange fnExactRunActionSpec)

/-- ITS FALSE NEIGHBOUR: 'it returns false'. Refute it at one input. -/
def fnExactRunActionWrong : ChangeSpec := { name := "fnExactRunAction", fn := fun _ => fun
  | [d1, d2] => { results := [.lit (.bool false)], args := [d1, d2] }
  | _ => none }
def FnExactRunActionWrongFalsely : Prop := fnExactRunActionRow.holds Try.pinned (OpenSpec.ofChange fnExactRunActionWrong)

/- THE SECOND FORM. 'bulk': how many values and letters a reading holds, each counted each time it is reached (what is shared counts as often as it is met; a slice's spare places count too). A statement '..UptoSaid' is the law's where the arguments, and the package variables that the reading takes, are together of bulk at most 1048576: NARROWER than '..Said'. Prove '..Said' where nothing that the law and all that it calls make is longer than what came in: it says more and counts as full. Else prove '..UptoSaid'. A law counts once. -/
mutual
def uptoBulk {H : Type} : DataW H → Nat
  | .lit (.string bytes) => bytes.length + 1
  | .lit _ => 1
  | .nil => 1
  | .ptr d => uptoBulk d + 1
  | .slice elems spare => uptoBulkAll elems + uptoBulkAll spare + 1
  | .agg parts => uptoBulkAll parts + 1
  | .iface _ d => uptoBulk d + 1
  | .map entries => uptoBulkEntries entries + 1
  | .held _ => 1
def uptoBulkAll {H : Type} : List (DataW H) → Nat
  | [] => 0
  | d :: r => uptoBulk d + uptoBulkAll r
def uptoBulkEntries {H : Type} : List (Lit × DataW H) → Nat
  | [] => 0
  | x :: r => uptoBulkEntry x + uptoBulkEntries r
def uptoBulkEntry {H : Type} : Lit × DataW H → Nat
  | (.string bytes, d) => bytes.length + uptoBulk d + 1
  | (_, d) => uptoBulk d + 1
 end
def uptoSmall : (H : Type) → List (DataW H) → Bool := fun _ ds => decide (uptoBulkAll ds ≤ 1048576)
def OpenSpec.upto (s : _root_.Go.ChangeSpec) : _root_.Go.OpenSpec := { _root_.Go.OpenSpec.ofChange s with cond := some uptoSmall }

/-- 'laws.FnExactStoreTotal', WHERE WHAT IT READS IS OF BULK AT MOST 1048576: true; the input reads as it did. -/
def fnExactStoreTotalUptoRow : OpenClaim := { program := "ytdndfnhlobjkeaa", sum := "19e666097a1ccbe70840e6c4a748270af2fae724c9a1e879a34798e3676a9482", func := "loop.example/blockexecutor/laws.FnExactStoreTotal", spec := "fnExactStoreTotal", apart := false, narrowed := true }
def FnExactStoreTotalUptoSaid : Prop := fnExactStoreTotalUptoRow.holds Try.pinned (OpenSpec.upto fnExactStoreTotalSpec)

/-- 'laws.FnExactActionReads', WHERE WHAT IT READS IS OF BULK AT MOST 1048576: true; the input reads as it did. -/
def fnExactActionReadsUptoRow : OpenClaim := { program := "ytdndfnhlobjkeaa", sum := "19e666097a1ccbe70840e6c4a748270af2fae724c9a1e879a34798e3676a9482", func := "loop.example/blockexecutor/laws.FnExactActionReads", spec := "fnExactActionReads", apart := false, narrowed := true }
def FnExactActionReadsUptoSaid : Prop := fnExactActionReadsUptoRow.holds Try.pinned (OpenSpec.upto fnExactActionReadsSpec)

/-- 'laws.FnExactValueAt', WHERE WHAT IT READS IS OF BULK AT MOST 1048576: true; the input reads as it did. -/
def fnExactValueAtUptoRow : OpenClaim := { program := "ytdndfnhlobjkeaa", sum := "19e666097a1ccbe70840e6c4a748270af2fae724c9a1e879a34798e3676a9482", func := "loop.example/blockexecutor/laws.FnExactValueAt", spec := "fnExactValueAt", apart := false, narrowed := true }
def FnExactValueAtUptoSaid : Prop := fnExactValueAtUptoRow.holds Try.pinned (OpenSpec.upto fnExactValueAtSpec)

/-- 'laws.FnExactActionWrites', WHERE WHAT IT READS IS OF BULK AT MOST 1048576: true; the input reads as it did. -/
def fnExactActionWritesUptoRow : OpenClaim := { program := "ytdndfnhlobjkeaa", sum := "19e666097a1ccbe70840e6c4a748270af2fae724c9a1e879a34798e3676a9482", func := "loop.example/blockexecutor/laws.FnExactActionWrites", spec := "fnExactActionWrites", apart := false, narrowed := true }
def FnExactActionWritesUptoSaid : Prop := fnExactActionWritesUptoRow.holds Try.pinned (OpenSpec.upto fnExactActionWritesSpec)

/-- 'laws.FnExactProofRoot', WHERE WHAT IT READS IS OF BULK AT MOST 1048576: true; the input reads as it did. -/
def fnExactProofRootUptoRow : OpenClaim := { program := "ytdndfnhlobjkeaa", sum := "19e666097a1ccbe70840e6c4a748270af2fae724c9a1e879a34798e3676a9482", func := "loop.example/blockexecutor/laws.FnExactProofRoot", spec := "fnExactProofRoot", unfollowed := true, recurses := true, apart := false, narrowed := true }
def FnExactProofRootUptoSaid : Prop := fnExactProofRootUptoRow.holds Try.pinned (OpenSpec.upto fnExactProofRootSpec)

/-- 'laws.FnExactActionsValid', WHERE WHAT IT READS IS OF BULK AT MOST 1048576: true; the input reads as it did. -/
def fnExactActionsValidUptoRow : OpenClaim := { program := "ytdndfnhlobjkeaa", sum := "19e666097a1ccbe70840e6c4a748270af2fae724c9a1e879a34798e3676a9482", func := "loop.example/blockexecutor/laws.FnExactActionsValid", spec := "fnExactActionsValid", unfollowed := true, recurses := true, apart := false, narrowed := true }
def FnExactActionsValidUptoSaid : Prop := fnExactActionsValidUptoRow.holds Try.pinned (OpenSpec.upto fnExactActionsValidSpec)

/-- 'laws.FnExactProofRight', WHERE WHAT IT READS IS OF BULK AT MOST 1048576: true; the input reads as it did. -/
def fnExactProofRightUptoRow : OpenClaim := { program := "ytdndfnhlobjkeaa", sum := "19e666097a1ccbe70840e6c4a748270af2fae724c9a1e879a34798e3676a9482", func := "loop.example/blockexecutor/laws.FnExactProofRight", spec := "fnExactProofRight", unfollowed := true, recurses := true, apart := false, narrowed := true }
def FnExactProofRightUptoSaid : Prop := fnExactProofRightUptoRow.holds Try.pinned (OpenSpec.upto fnExactProofRightSpec)

/-- 'laws.FnExactChangedKeys', WHERE WHAT IT READS IS OF BULK AT MOST 1048576: true; the input reads as it did. -/
def fnExactChangedKeysUptoRow : OpenClaim := { program := "ytdndfnhlobjkeaa", sum := "19e666097a1ccbe70840e6c4a748270af2fae724c9a1e879a34798e3676a9482", func := "loop.example/blockexecutor/laws.FnExactChangedKeys", spec := "fnExactChangedKeys", apart := false, narrowed := true }
def FnExactChangedKeysUptoSaid : Prop := fnExactChangedKeysUptoRow.holds Try.pinned (OpenSpec.upto fnExactChangedKeysSpec)

/-- 'laws.FnExactPutValue', WHERE WHAT IT READS IS OF BULK AT MOST 1048576: true; the input reads as it did. -/
def fnExactPutValueUptoRow : OpenClaim := { program := "ytdndfnhlobjkeaa", sum := "19e666097a1ccbe70840e6c4a748270af2fae724c9a1e879a34798e3676a9482", func := "loop.example/blockexecutor/laws.FnExactPutValue", spec := "fnExactPutValue", apart := false, narrowed := true }
def FnExactPutValueUptoSaid : Prop := fnExactPutValueUptoRow.holds Try.pinned (OpenSpec.upto fnExactPutValueSpec)

/-- 'laws.FnExactRootOf', WHERE WHAT IT READS IS OF BULK AT MOST 1048576: true; the input reads as it did. -/
def fnExactRootOfUptoRow : OpenClaim := { program := "ytdndfnhlobjkeaa", sum := "19e666097a1ccbe70840e6c4a748270af2fae724c9a1e879a34798e3676a9482", func := "loop.example/blockexecutor/laws.FnExactRootOf", spec := "fnExactRootOf", unfollowed := true, recurses := true, apart := false, narrowed := true }
def FnExactRootOfUptoSaid : Prop := fnExactRootOfUptoRow.holds Try.pinned (OpenSpec.upto fnExactRootOfSpec)

/-- 'laws.FnExactProofOf', WHERE WHAT IT READS IS OF BULK AT MOST 1048576: true; the input reads as it did. -/
def fnExactProofOfUptoRow : OpenClaim := { program := "ytdndfnhlobjkeaa", sum := "19e666097a1ccbe70840e6c4a748270af2fae724c9a1e879a34798e3676a9482", func := "loop.example/blockexecutor/laws.FnExactProofOf", spec := "fnExactProofOf", unfollowed := true, recurses := true, apart := false, narrowed := true }
def FnExactProofOfUptoSaid : Prop := fnExactProofOfUptoRow.holds Try.pinned (OpenSpec.upto fnExactProofOfSpec)

/-- 'laws.FnExactRunAction', WHERE WHAT IT READS IS OF BULK AT MOST 1048576: true; the input reads as it did. -/
def fnExactRunActionUptoRow : OpenClaim := { program := "ytdndfnhlobjkeaa", sum := "19e666097a1ccbe70840e6c4a748270af2fae724c9a1e879a34798e3676a9482", func := "loop.example/blockexecutor/laws.FnExactRunAction", spec := "fnExactRunAction", apart := false, narrowed := true }
def FnExactRunActionUptoSaid : Prop := fnExactRunActionUptoRow.holds Try.pinned (OpenSpec.upto fnExactRunActionSpec)

end Rows
end Go.Proofs.Ytdndfnhlobjkeaa
