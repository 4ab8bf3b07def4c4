/-
  No cell of these rows narrows 'for every input' (looked for: loops, veiled, ifaces, maps, wideKeys, modest, calm, conditions, laid).
  DERIVED. THE GIVEN ROWS OF THIS SEAT. 7 by the template 'for every input the law returns true; each argument reads behind the call as it read before'; 0 by the template 'total and deterministic' (their statements: YtliklkagieaoeaaTotals.lean).
  GIVEN WITH THE SEED: the statements are not yours to turn. If you find one false, say at which input.
  Laid BY PROGRAM, IN A SANDBOX (cutbox-rows.mjs): the forced cells as the released guide's own fill.sh prints them over the translation 8780034b8289c3af… (all of the seat's roots in one cut). By AI agents, Wed Nov 11 2026. No macro, syntax, notation, axiom, sorry.
-/
import Derived.Test.YtliklkagieaoeaaChecked
import GoSem.Claim
import GoSem.ClaimJoined
import GoSem.ClaimMapViews
import Derived.JoinedTies
import Derived.KernelRfl
namespace Go.Proofs.Ytliklkagieaoeaa
/- THE CELL 'sum', in the pinned program and in every row, IS THE sha256 OF THE DUMP (.gsa) THAT YtliklkagieaoeaaProg.lean LOADS. Nothing in Lean hashes anything: it is a label: what it is worth is what the hold of that sum in a sandbox is worth. -/
noncomputable def Try.pinned : Pinned := { name := "ytliklkagieaoeaa", sum := "8780034b8289c3af23db8286a2af290a692b76eba2ce5fcab29159baa93898f4", checked := Try.checked }
namespace Rows
def none {H : Type} : Left H := { results := [], args := [] }

/-- 'stockadelaw20.PackCmds': WHATEVER THE INPUT: true; the input reads as it did. -/
def packCmdsSpec : ChangeSpec := { name := "packCmds", fn := fun _ => fun
  | [d1, d2] => { results := [.lit (.bool true)], args := [d1, d2] }
  | _ => none }
def packCmdsRow : OpenClaim := { program := "ytliklkagieaoeaa", sum := "8780034b8289c3af23db8286a2af290a692b76eba2ce5fcab29159baa93898f4", func := "stockade/stockadelaw20.PackCmds", spec := "packCmds", unfollowed := true, recurses := true, apart := false }
def PackCmdsSaid : Prop := packCmdsRow.holds Try.pinned (OpenSpec.ofChange packCmdsSpec)

/-- ITS FALSE NEIGHBOUR: 'it returns false'. Refute it at one input. -/
def packCmdsWrong : ChangeSpec := { name := "packCmds", fn := fun _ => fun
  | [d1, d2] => { results := [.lit (.bool false)], args := [d1, d2] }
  | _ => none }
def PackCmdsWrongFalsely : Prop := packCmdsRow.holds Try.pinned (OpenSpec.ofChange packCmdsWrong)

/-- 'stockadelaw20.PackEntries': WHATEVER THE INPUT: true; the input reads as it did. -/
def packEntriesSpec : ChangeSpec := { name := "packEntries", fn := fun _ => fun
  | [d1, d2, d3] => { results := [.lit (.bool true)], args := [d1, d2, d3] }
  | _ => none }
def packEntriesRow : OpenClaim := { program := "ytliklkagieaoeaa", sum := "8780034b8289c3af23db8286a2af290a692b76eba2ce5fcab29159baa93898f4", func := "stockade/stockadelaw20.PackEntries", spec := "packEntries", unfollowed := true, recurses := true, apart := false }
def PackEntriesSaid : Prop := packEntriesRow.holds Try.pinned (OpenSpec.ofChange packEntriesSpec)

/-- ITS FALSE NEIGHBOUR: 'it returns false'. Refute it at one input. -/
def packEntriesWrong : ChangeSpec := { name := "packEntries", fn := fun _ => fun
  | [d1, d2, d3] => { results := [.lit (.bool false)], args := [d1, d2, d3] }
  | _ => none }
def PackEntriesWrongFalsely : Prop := packEntriesRow.holds Try.pinned (OpenSpec.ofChange packEntriesWrong)

/-- 'stockadelaw20.PackSame': WHATEVER THE INPUT: true; the input reads as it did. -/
def packSameSpec : ChangeSpec := { name := "packSame", fn := fun _ => fun
  | [d1, d2, d3] => { results := [.lit (.bool true)], args := [d1, d2, d3] }
  | _ => none }
def packSameRow : OpenClaim := { program := "ytliklkagieaoeaa", sum := "8780034b8289c3af23db8286a2af290a692b76eba2ce5fcab29159baa93898f4", func := "stockade/stockadelaw20.PackSame", spec := "packSame", unfollowed := true, recurses := true, apart := false }
def PackSameSaid : Prop := packSameRow.holds Try.pinned (OpenSpec.ofChange packSameSpec)

/-- ITS FALSE NEIGHBOUR: 'it returns false'. Refute it at one input. -/
def packSameWrong : ChangeSpec := { name := "packSame", fn := fun _ => fun
  | [d1, d2, d3] => { results := [.lit (.bool false)], args := [d1, d2, d3] }
  | _ => none }
def PackSameWrongFalsely : Prop := packSameRow.holds Try.pinned (OpenSpec.ofChange packSameWrong)

/-- 'stockadelaw20.PackMsgs': WHATEVER THE INPUT: true; the input reads as it did. -/
def packMsgsSpec : ChangeSpec := { name := "packMsgs", fn := fun _ => fun
  | [d1, d2] => { results := [.lit (.bool true)], args := [d1, d2] }
  | _ => none }
def packMsgsRow : OpenClaim := { program := "ytliklkagieaoeaa", sum := "8780034b8289c3af23db8286a2af290a692b76eba2ce5fcab29159baa93898f4", func := "stockade/stockadelaw20.PackMsgs", spec := "packMsgs", unfollowed := true, recurses := true, apart := false }
def PackMsgsSaid : Prop := packMsgsRow.holds Try.pinned (OpenSpec.ofChange packMsgsSpec)

/-- ITS FALSE NEIGHBOUR: 'it returns false'. Refute it at one input. -/
def packMsgsWrong : ChangeSpec := { name := "packMsgs", fn := fun _ => fun
  | [d1, d2] => { results := [.lit (.bool false)], args := [d1, d2] }
  | _ => none }
def PackMsgsWrongFalsely : Prop := packMsgsRow.holds Try.pinned (OpenSpec.ofChange packMsgsWrong)

/-- 'stockadelaw20.PackCut': WHATEVER THE INPUT: true; the input reads as it did. -/
def packCutSpec : ChangeSpec := { name := "packCut", fn := fun _ => fun
  | [d1, d2, d3] => { results := [.lit (.bool true)], args := [d1, d2, d3] }
  | _ => none }
def packCutRow : OpenClaim := { program := "ytliklkagieaoeaa", sum := "8780034b8289c3af23db8286a2af290a692b76eba2ce5fcab29159baa93898f4", func := "stockade/stockadelaw20.PackCut", spec := "packCut", unfollowed := true, recurses := true, apart := false }
def PackCutSaid : Prop := packCutRow.holds Try.pinned (OpenSpec.ofChange packCutSpec)

/-- ITS FALSE NEIGHBOUR: 'it returns false'. Refute it at one input. -/
def packCutWrong : ChangeSpec := { name := "packCut", fn := fun _ => fun
  | [d1, d2, d3] => { results := [.lit (.bool false)], args := [d1, d2, d3] }
  | _ => none }
def PackCutWrongFalsely : Prop := packCutRow.holds Try.pinned (OpenSpec.ofChange packCutWrong)

/-- 'stockadelaw20.PackKnown': WHATEVER THE INPUT: true; the input reads as it did. -/
def packKnownSpec : ChangeSpec := { name := "packKnown", fn := fun _ => fun
  | [] => { results := [.lit (.bool true)], args := [] }
  | _ => none }
def packKnownRow : OpenClaim := { program := "ytliklkagieaoeaa", sum := "8780034b8289c3af23db8286a2af290a692b76eba2ce5fcab29159baa93898f4", func := "stockade/stockadelaw20.PackKnown", spec := "packKnown", unfollowed := true, recurses := true, apart := false }
def PackKnownSaid : Prop := packKnownRow.holds Try.pinned (OpenSpec.ofChange packKnownSpec)

/-- ITS FALSE NEIGHBOUR: 'it returns false'. Refute it at one input. -/
def packKnownWrong : ChangeSpec := { name := "packKnown", fn := fun _ => fun
  | [] => { results := [.lit (.bool false)], args := [] }
  | _ => none }
def PackKnownWrongFalsely : Prop := packKnownRow.holds Try.pinned (OpenSpec.ofChange packKnownWrong)

/-- 'stockadelaw20.PackBack': WHATEVER THE INPUT: true; the input reads as it did. -/
def packBackSpec : ChangeSpec := { name := "packBack", fn := fun _ => fun
  | [d1, d2, d3] => { results := [.lit (.bool true)], args := [d1, d2, d3] }
  | _ => none }
def packBackRow : OpenClaim := { program := "ytliklkagieaoeaa", sum := "8780034b8289c3af23db8286a2af290a692b76eba2ce5fcab29159baa93898f4", func := "stockade/stockadelaw20.PackBack", spec := "packBack", unfollowed := true, recurses := true, apart := false }
def PackBackSaid : Prop := packBackRow.holds Try.pinned (OpenSpec.ofChange packBackSpec)

/-- ITS FALSE NEIGHBOUR: 'it returns false'. Refute it at one input. -/
def packBackWrong : ChangeSpec := { name := "packBack", fn := fun _ => fun
  | [d1, d2, d3] => { results := [.lit (.bool false)], args := [d1, d2, d3] }
  | _ => none }
def PackBackWrongFalsely : Prop := packBackRow.holds Try.pinned (OpenSpec.ofChange packBackWrong)

/- THE SECOND FORM. 'bulk': how many values and letters a reading holds, each counted each time it is reached (what is shared counts as often as it is met; a slice's spare places count too). A statement '..UptoSaid' is the law's where the arguments, and the package variables that the reading takes, are together of bulk at most 1048576: NARROWER than '..Said'. Prove '..Said' where nothing that the law and all that it calls make is longer than what came in: it says more and counts as full. Else prove '..UptoSaid'. A law counts once. -/
mutual
def uptoBulk {H : Type} : DataW H → Nat
  | .lit (.string bytes) => bytes.length + 1
  | .lit _ => 1
  | .nil => 1
  | .ptr d => uptoBulk d + 1
  | .slice elems spare => uptoBulkAll elems + uptoBulkAll spare + 1
  | .agg parts => uptoBulkAll parts + 1
  | .iface _ d => uptoBulk d + 1
  | .map entries => uptoBulkEntries entries + 1
  | .held _ => 1
def uptoBulkAll {H : Type} : List (DataW H) → Nat
  | [] => 0
  | d :: r => uptoBulk d + uptoBulkAll r
def uptoBulkEntries {H : Type} : List (Lit × DataW H) → Nat
  | [] => 0
  | x :: r => uptoBulkEntry x + uptoBulkEntries r
def uptoBulkEntry {H : Type} : Lit × DataW H → Nat
  | (.string bytes, d) => bytes.length + uptoBulk d + 1
  | (_, d) => uptoBulk d + 1
 end
def uptoSmall : (H : Type) → List (DataW H) → Bool := fun _ ds => decide (uptoBulkAll ds ≤ 1048576)
def OpenSpec.upto (s : _root_.Go.ChangeSpec) : _root_.Go.OpenSpec := { _root_.Go.OpenSpec.ofChange s with cond := some uptoSmall }

/-- 'stockadelaw20.PackCmds', WHERE WHAT IT READS IS OF BULK AT MOST 1048576: true; the input reads as it did. -/
def packCmdsUptoRow : OpenClaim := { program := "ytliklkagieaoeaa", sum := "8780034b8289c3af23db8286a2af290a692b76eba2ce5fcab29159baa93898f4", func := "stockade/stockadelaw20.PackCmds", spec := "packCmds", unfollowed := true, recurses := true, apart := false, narrowed := true }
def PackCmdsUptoSaid : Prop := packCmdsUptoRow.holds Try.pinned (OpenSpec.upto packCmdsSpec)

/-- 'stockadelaw20.PackEntries', WHERE WHAT IT READS IS OF BULK AT MOST 1048576: true; the input reads as it did. -/
def packEntriesUptoRow : OpenClaim := { program := "ytliklkagieaoeaa", sum := "8780034b8289c3af23db8286a2af290a692b76eba2ce5fcab29159baa93898f4", func := "stockade/stockadelaw20.PackEntries", spec := "packEntries", unfollowed := true, recurses := true, apart := false, narrowed := true }
def PackEntriesUptoSaid : Prop := packEntriesUptoRow.holds Try.pinned (OpenSpec.upto packEntriesSpec)

/-- 'stockadelaw20.PackSame', WHERE WHAT IT READS IS OF BULK AT MOST 1048576: true; the input reads as it did. -/
def packSameUptoRow : OpenClaim := { program := "ytliklkagieaoeaa", sum := "8780034b8289c3af23db8286a2af290a692b76eba2ce5fcab29159baa93898f4", func := "stockade/stockadelaw20.PackSame", spec := "packSame", unfollowed := true, recurses := true, apart := false, narrowed := true }
def PackSameUptoSaid : Prop := packSameUptoRow.holds Try.pinned (OpenSpec.upto packSameSpec)

/-- 'stockadelaw20.PackMsgs', WHERE WHAT IT READS IS OF BULK AT MOST 1048576: true; the input reads as it did. -/
def packMsgsUptoRow : OpenClaim := { program := "ytliklkagieaoeaa", sum := "8780034b8289c3af23db8286a2af290a692b76eba2ce5fcab29159baa93898f4", func := "stockade/stockadelaw20.PackMsgs", spec := "packMsgs", unfollowed := true, recurses := true, apart := false, narrowed := true }
def PackMsgsUptoSaid : Prop := packMsgsUptoRow.holds Try.pinned (OpenSpec.upto packMsgsSpec)

/-- 'stockadelaw20.PackCut', WHERE WHAT IT READS IS OF BULK AT MOST 1048576: true; the input reads as it did. -/
def packCutUptoRow : OpenClaim := { program := "ytliklkagieaoeaa", sum := "8780034b8289c3af23db8286a2af290a692b76eba2ce5fcab29159baa93898f4", func := "stockade/stockadelaw20.PackCut", spec := "packCut", unfollowed := true, recurses := true, apart := false, narrowed := true }
def PackCutUptoSaid : Prop := packCutUptoRow.holds Try.pinned (OpenSpec.upto packCutSpec)

/-- 'stockadelaw20.PackKnown', WHERE WHAT IT READS IS OF BULK AT MOST 1048576: true; the input reads as it did. -/
def packKnownUptoRow : OpenClaim := { program := "ytliklkagieaoeaa", sum := "8780034b8289c3af23db8286a2af290a692b76eba2ce5fcab29159baa93898f4", func := "stockade/stockadelaw20.PackKnown", spec := "packKnown", unfollowed := true, recurses := true, apart := false, narrowed := true }
def PackKnownUptoSaid : Prop := packKnownUptoRow.holds Try.pinned (OpenSpec.upto packKnownSpec)

/-- 'stockadelaw20.PackBack', WHERE WHAT IT READS IS OF BULK AT MOST 1048576: true; the input reads as it did. -/
def packBackUptoRow : OpenClaim := { program := "ytliklkagieaoeaa", sum := "8780034b8289c3af23db8286a2af290a692b76eba2ce5fcab29159baa93898f4", func := "stockade/stockadelaw20.PackBack", spec := "packBack", unfollowed := true, recurses := true, apart := false, narrowed := true }
def PackBackUptoSaid : Prop := packBackUptoRow.holds Try.pinned (OpenSpec.upto packBackSpec)

end Rows
end Go.Proofs.Ytliklkagieaoeaa
