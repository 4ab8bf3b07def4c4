/-
  No cell of these rows narrows 'for every input' (looked for: loops, veiled, ifaces, maps, wideKeys, modest, calm, conditions, laid).
  DERIVED. THE GIVEN ROWS OF THIS SEAT. 6 by the template 'for every input the law returns true; each argument reads behind the call as it read before'; 0 by the template 'total and deterministic' (their statements: YtfffephdhnoiaaaTotals.lean).
  GIVEN WITH THE SEED: the statements are not yours to turn. If you find one false, say at which input.
  Laid BY PROGRAM, IN A SANDBOX (cutbox-rows.mjs): the forced cells as the released guide's own fill.sh prints them over the translation 81b8cf8e9c663e7c… (all of the seat's roots in one cut). By AI agents, Wed Nov 11 2026. No macro, syntax, notation, axiom, sorry.
-/
import Derived.Test.YtfffephdhnoiaaaChecked
import GoSem.Claim
import GoSem.ClaimJoined
import GoSem.ClaimMapViews
import Derived.JoinedTies
import Derived.KernelRfl
namespace Go.Proofs.Ytfffephdhnoiaaa
/- THE CELL 'sum', in the pinned program and in every row, IS THE sha256 OF THE DUMP (.gsa) THAT YtfffephdhnoiaaaProg.lean LOADS. Nothing in Lean hashes anything: it is a label: what it is worth is what the hold of that sum in a sandbox is worth. -/
noncomputable def Try.pinned : Pinned := { name := "ytfffephdhnoiaaa", sum := "81b8cf8e9c663e7c9b96b17d2960711078d53fe8424fad1a6bd017b2f9d8f714", checked := Try.checked }
namespace Rows
def none {H : Type} : Left H := { results := [], args := [] }

/-- 'stockadelaw24.RaftVotes': WHATEVER THE INPUT: true; the input reads as it did. -/
def raftVotesSpec : ChangeSpec := { name := "raftVotes", fn := fun _ => fun
  | [d1, d2] => { results := [.lit (.bool true)], args := [d1, d2] }
  | _ => none }
def raftVotesRow : OpenClaim := { program := "ytfffephdhnoiaaa", sum := "81b8cf8e9c663e7c9b96b17d2960711078d53fe8424fad1a6bd017b2f9d8f714", func := "stockade/stockadelaw24.RaftVotes", spec := "raftVotes", unfollowed := true, recurses := true, apart := false }
def RaftVotesSaid : Prop := raftVotesRow.holds Try.pinned (OpenSpec.ofChange raftVotesSpec)

/-- ITS FALSE NEIGHBOUR: 'it returns false'. Refute it at one input. -/
def raftVotesWrong : ChangeSpec := { name := "raftVotes", fn := fun _ => fun
  | [d1, d2] => { results := [.lit (.bool false)], args := [d1, d2] }
  | _ => none }
def RaftVotesWrongFalsely : Prop := raftVotesRow.holds Try.pinned (OpenSpec.ofChange raftVotesWrong)

/-- 'stockadelaw24.RaftCalls': WHATEVER THE INPUT: true; the input reads as it did. -/
def raftCallsSpec : ChangeSpec := { name := "raftCalls", fn := fun _ => fun
  | [d1, d2] => { results := [.lit (.bool true)], args := [d1, d2] }
  | _ => none }
def raftCallsRow : OpenClaim := { program := "ytfffephdhnoiaaa", sum := "81b8cf8e9c663e7c9b96b17d2960711078d53fe8424fad1a6bd017b2f9d8f714", func := "stockade/stockadelaw24.RaftCalls", spec := "raftCalls", unfollowed := true, recurses := true, apart := false }
def RaftCallsSaid : Prop := raftCallsRow.holds Try.pinned (OpenSpec.ofChange raftCallsSpec)

/-- ITS FALSE NEIGHBOUR: 'it returns false'. Refute it at one input. -/
def raftCallsWrong : ChangeSpec := { name := "raftCalls", fn := fun _ => fun
  | [d1, d2] => { results := [.lit (.bool false)], args := [d1, d2] }
  | _ => none }
def RaftCallsWrongFalsely : Prop := raftCallsRow.holds Try.pinned (OpenSpec.ofChange raftCallsWrong)

/-- 'stockadelaw24.RaftNone': WHATEVER THE INPUT: true; the input reads as it did. -/
def raftNoneSpec : ChangeSpec := { name := "raftNone", fn := fun _ => fun
  | [d1, d2] => { results := [.lit (.bool true)], args := [d1, d2] }
  | _ => none }
def raftNoneRow : OpenClaim := { program := "ytfffephdhnoiaaa", sum := "81b8cf8e9c663e7c9b96b17d2960711078d53fe8424fad1a6bd017b2f9d8f714", func := "stockade/stockadelaw24.RaftNone", spec := "raftNone", unfollowed := true, recurses := true, apart := false }
def RaftNoneSaid : Prop := raftNoneRow.holds Try.pinned (OpenSpec.ofChange raftNoneSpec)

/-- ITS FALSE NEIGHBOUR: 'it returns false'. Refute it at one input. -/
def raftNoneWrong : ChangeSpec := { name := "raftNone", fn := fun _ => fun
  | [d1, d2] => { results := [.lit (.bool false)], args := [d1, d2] }
  | _ => none }
def RaftNoneWrongFalsely : Prop := raftNoneRow.holds Try.pinned (OpenSpec.ofChange raftNoneWrong)

/-- 'stockadelaw24.RaftSafe': WHATEVER THE INPUT: true; the input reads as it did. -/
def raftSafeSpec : ChangeSpec := { name := "raftSafe", fn := fun _ => fun
  | [d1, d2] => { results := [.lit (.bool true)], args := [d1, d2] }
  | _ => none }
def raftSafeRow : OpenClaim := { program := "ytfffephdhnoiaaa", sum := "81b8cf8e9c663e7c9b96b17d2960711078d53fe8424fad1a6bd017b2f9d8f714", func := "stockade/stockadelaw24.RaftSafe", spec := "raftSafe", unfollowed := true, recurses := true, apart := false }
def RaftSafeSaid : Prop := raftSafeRow.holds Try.pinned (OpenSpec.ofChange raftSafeSpec)

/-- ITS FALSE NEIGHBOUR: 'it returns false'. Refute it at one input. -/
def raftSafeWrong : ChangeSpec := { name := "raftSafe", fn := fun _ => fun
  | [d1, d2] => { results := [.lit (.bool false)], args := [d1, d2] }
  | _ => none }
def RaftSafeWrongFalsely : Prop := raftSafeRow.holds Try.pinned (OpenSpec.ofChange raftSafeWrong)

/-- 'stockadelaw24.RaftLeads': WHATEVER THE INPUT: true; the input reads as it did. -/
def raftLeadsSpec : ChangeSpec := { name := "raftLeads", fn := fun _ => fun
  | [d1, d2] => { results := [.lit (.bool true)], args := [d1, d2] }
  | _ => none }
def raftLeadsRow : OpenClaim := { program := "ytfffephdhnoiaaa", sum := "81b8cf8e9c663e7c9b96b17d2960711078d53fe8424fad1a6bd017b2f9d8f714", func := "stockade/stockadelaw24.RaftLeads", spec := "raftLeads", unfollowed := true, recurses := true, apart := false }
def RaftLeadsSaid : Prop := raftLeadsRow.holds Try.pinned (OpenSpec.ofChange raftLeadsSpec)

/-- ITS FALSE NEIGHBOUR: 'it returns false'. Refute it at one input. -/
def raftLeadsWrong : ChangeSpec := { name := "raftLeads", fn := fun _ => fun
  | [d1, d2] => { results := [.lit (.bool false)], args := [d1, d2] }
  | _ => none }
def RaftLeadsWrongFalsely : Prop := raftLeadsRow.holds Try.pinned (OpenSpec.ofChange raftLeadsWrong)

/-- 'stockadelaw24.RaftKnown': WHATEVER THE INPUT: true; the input reads as it did. -/
def raftKnownSpec : ChangeSpec := { name := "raftKnown", fn := fun _ => fun
  | [] => { results := [.lit (.bool true)], args := [] }
  | _ => none }
def raftKnownRow : OpenClaim := { program := "ytfffephdhnoiaaa", sum := "81b8cf8e9c663e7c9b96b17d2960711078d53fe8424fad1a6bd017b2f9d8f714", func := "stockade/stockadelaw24.RaftKnown", spec := "raftKnown", unfollowed := true, recurses := true, apart := false }
def RaftKnownSaid : Prop := raftKnownRow.holds Try.pinned (OpenSpec.ofChange raftKnownSpec)

/-- ITS FALSE NEIGHBOUR: 'it returns false'. Refute it at one input. -/
def raftKnownWrong : ChangeSpec := { name := "raftKnown", fn := fun _ => fun
  | [] => { results := [.lit (.bool false)], args := [] }
  | _ => none }
def RaftKnownWrongFalsely : Prop := raftKnownRow.holds Try.pinned (OpenSpec.ofChange raftKnownWrong)

/- THE SECOND FORM. 'bulk': how many values and letters a reading holds, each counted each time it is reached (what is shared counts as often as it is met; a slice's spare places count too). A statement '..UptoSaid' is the law's where the arguments, and the package variables that the reading takes, are together of bulk at most 1048576: NARROWER than '..Said'. Prove '..Said' where nothing that the law and all that it calls make is longer than what came in: it says more and counts as full. Else prove '..UptoSaid'. A law counts once. -/
mutual
def uptoBulk {H : Type} : DataW H → Nat
  | .lit (.string bytes) => bytes.length + 1
  | .lit _ => 1
  | .nil => 1
  | .ptr d => uptoBulk d + 1
  | .slice elems spare => uptoBulkAll elems + uptoBulkAll spare + 1
  | .agg parts => uptoBulkAll parts + 1
  | .iface _ d => uptoBulk d + 1
  | .map entries => uptoBulkEntries entries + 1
  | .held _ => 1
def uptoBulkAll {H : Type} : List (DataW H) → Nat
  | [] => 0
  | d :: r => uptoBulk d + uptoBulkAll r
def uptoBulkEntries {H : Type} : List (Lit × DataW H) → Nat
  | [] => 0
  | x :: r => uptoBulkEntry x + uptoBulkEntries r
def uptoBulkEntry {H : Type} : Lit × DataW H → Nat
  | (.string bytes, d) => bytes.length + uptoBulk d + 1
  | (_, d) => uptoBulk d + 1
 end
def uptoSmall : (H : Type) → List (DataW H) → Bool := fun _ ds => decide (uptoBulkAll ds ≤ 1048576)
def OpenSpec.upto (s : _root_.Go.ChangeSpec) : _root_.Go.OpenSpec := { _root_.Go.OpenSpec.ofChange s with cond := some uptoSmall }

/-- 'stockadelaw24.RaftVotes', WHERE WHAT IT READS IS OF BULK AT MOST 1048576: true; the input reads as it did. -/
def raftVotesUptoRow : OpenClaim := { program := "ytfffephdhnoiaaa", sum := "81b8cf8e9c663e7c9b96b17d2960711078d53fe8424fad1a6bd017b2f9d8f714", func := "stockade/stockadelaw24.RaftVotes", spec := "raftVotes", unfollowed := true, recurses := true, apart := false, narrowed := true }
def RaftVotesUptoSaid : Prop := raftVotesUptoRow.holds Try.pinned (OpenSpec.upto raftVotesSpec)

/-- 'stockadelaw24.RaftCalls', WHERE WHAT IT READS IS OF BULK AT MOST 1048576: true; the input reads as it did. -/
def raftCallsUptoRow : OpenClaim := { program := "ytfffephdhnoiaaa", sum := "81b8cf8e9c663e7c9b96b17d2960711078d53fe8424fad1a6bd017b2f9d8f714", func := "stockade/stockadelaw24.RaftCalls", spec := "raftCalls", unfollowed := true, recurses := true, apart := false, narrowed := true }
def RaftCallsUptoSaid : Prop := raftCallsUptoRow.holds Try.pinned (OpenSpec.upto raftCallsSpec)

/-- 'stockadelaw24.RaftNone', WHERE WHAT IT READS IS OF BULK AT MOST 1048576: true; the input reads as it did. -/
def raftNoneUptoRow : OpenClaim := { program := "ytfffephdhnoiaaa", sum := "81b8cf8e9c663e7c9b96b17d2960711078d53fe8424fad1a6bd017b2f9d8f714", func := "stockade/stockadelaw24.RaftNone", spec := "raftNone", unfollowed := true, recurses := true, apart := false, narrowed := true }
def RaftNoneUptoSaid : Prop := raftNoneUptoRow.holds Try.pinned (OpenSpec.upto raftNoneSpec)

/-- 'stockadelaw24.RaftSafe', WHERE WHAT IT READS IS OF BULK AT MOST 1048576: true; the input reads as it did. -/
def raftSafeUptoRow : OpenClaim := { program := "ytfffephdhnoiaaa", sum := "81b8cf8e9c663e7c9b96b17d2960711078d53fe8424fad1a6bd017b2f9d8f714", func := "stockade/stockadelaw24.RaftSafe", spec := "raftSafe", unfollowed := true, recurses := true, apart := false, narrowed := true }
def RaftSafeUptoSaid : Prop := raftSafeUptoRow.holds Try.pinned (OpenSpec.upto raftSafeSpec)

/-- 'stockadelaw24.RaftLeads', WHERE WHAT IT READS IS OF BULK AT MOST 1048576: true; the input reads as it did. -/
def raftLeadsUptoRow : OpenClaim := { program := "ytfffephdhnoiaaa", sum := "81b8cf8e9c663e7c9b96b17d2960711078d53fe8424fad1a6bd017b2f9d8f714", func := "stockade/stockadelaw24.RaftLeads", spec := "raftLeads", unfollowed := true, recurses := true, apart := false, narrowed := true }
def RaftLeadsUptoSaid : Prop := raftLeadsUptoRow.holds Try.pinned (OpenSpec.upto raftLeadsSpec)

/-- 'stockadelaw24.RaftKnown', WHERE WHAT IT READS IS OF BULK AT MOST 1048576: true; the input reads as it did. -/
def raftKnownUptoRow : OpenClaim := { program := "ytfffephdhnoiaaa", sum := "81b8cf8e9c663e7c9b96b17d2960711078d53fe8424fad1a6bd017b2f9d8f714", func := "stockade/stockadelaw24.RaftKnown", spec := "raftKnown", unfollowed := true, recurses := true, apart := false, narrowed := true }
def RaftKnownUptoSaid : Prop := raftKnownUptoRow.holds Try.pinned (OpenSpec.upto raftKnownSpec)

end Rows
end Go.Proofs.Ytfffephdhnoiaaa
