/-
  NARROWER THAN 'FOR EVERY INPUT', by the rows' own cells (each row's printed sentence says how): LedgerBarrier: laid · LedgerKnown: laid · LedgerOne: laid · LedgerOnce: laid · LedgerKeeps: laid · LedgerCopies: laid.
  DERIVED. THE GIVEN ROWS OF THIS SEAT. 6 by the template 'for every input the law returns true; each argument reads behind the call as it read before'; 0 by the template 'total and deterministic' (their statements: YthkbahbbdacgeaaDoorTotals.lean).
  GIVEN WITH THE SEED: the statements are not yours to turn. If you find one false, say at which input.
  Laid BY PROGRAM, IN A SANDBOX (cutbox-rows.mjs): the forced cells as the released guide's own fill.sh prints them over the translation 0949870568bb5726… (all of the seat's roots in one cut). By AI agents, Wed Nov 11 2026. No macro, syntax, notation, axiom, sorry.
-/
import Derived.Test.YthkbahbbdacgeaaDoorChecked
import GoSem.Claim
import GoSem.ClaimJoined
import GoSem.ClaimMapViews
import Derived.JoinedTies
import Derived.KernelRfl
namespace Go.Proofs.YthkbahbbdacgeaaDoor
/- THE CELL 'sum', in the pinned program and in every row, IS THE sha256 OF THE DUMP (.gsa) THAT YthkbahbbdacgeaaDoorProg.lean LOADS. Nothing in Lean hashes anything: it is a label: what it is worth is what the hold of that sum in a sandbox is worth. -/
noncomputable def Tryd.pinned : Pinned := { name := "ythkbahbbdacgeaadoor", sum := "0949870568bb57264947cb6680e63ce43c3c47f3dbece717e425a0d44c63b724", checked := Tryd.checked }
namespace Rows
def none {H : Type} : Left H := { results := [], args := [] }

/- WHAT THE LISTED PACKAGE-LEVEL VARIABLES READ AS WHEN THE CALL BEGINS. Each datum BY PROGRAM (the guide's laid-datum.mjs) off the statement by which the dump's own 'gosem.cut.vars' lays the variable. In a bare row this is a premise. The card (YthkbahbbdacgeaaDoorCards.lean) ties it to the program's text. -/
def laid_stockade_sha_k {H : Type} : DataW H := .agg [.lit (.int .u32 1116352408), .lit (.int .u32 1899447441), .lit (.int .u32 3049323471), .lit (.int .u32 3921009573), .lit (.int .u32 961987163), .lit (.int .u32 1508970993), .lit (.int .u32 2453635748), .lit (.int .u32 2870763221), .lit (.int .u32 3624381080), .lit (.int .u32 310598401), .lit (.int .u32 607225278), .lit (.int .u32 1426881987), .lit (.int .u32 1925078388), .lit (.int .u32 2162078206), .lit (.int .u32 2614888103), .lit (.int .u32 3248222580), .lit (.int .u32 3835390401), .lit (.int .u32 4022224774), .lit (.int .u32 264347078), .lit (.int .u32 604807628), .lit (.int .u32 770255983), .lit (.int .u32 1249150122), .lit (.int .u32 1555081692), .lit (.int .u32 1996064986), .lit (.int .u32 2554220882), .lit (.int .u32 2821834349), .lit (.int .u32 2952996808), .lit (.int .u32 3210313671), .lit (.int .u32 3336571891), .lit (.int .u32 3584528711), .lit (.int .u32 113926993), .lit (.int .u32 338241895), .lit (.int .u32 666307205), .lit (.int .u32 773529912), .lit (.int .u32 1294757372), .lit (.int .u32 1396182291), .lit (.int .u32 1695183700), .lit (.int .u32 1986661051), .lit (.int .u32 2177026350), .lit (.int .u32 2456956037), .lit (.int .u32 2730485921), .lit (.int .u32 2820302411), .lit (.int .u32 3259730800), .lit (.int .u32 3345764771), .lit (.int .u32 3516065817), .lit (.int .u32 3600352804), .lit (.int .u32 4094571909), .lit (.int .u32 275423344), .lit (.int .u32 430227734), .lit (.int .u32 506948616), .lit (.int .u32 659060556), .lit (.int .u32 883997877), .lit (.int .u32 958139571), .lit (.int .u32 1322822218), .lit (.int .u32 1537002063), .lit (.int .u32 1747873779), .lit (.int .u32 1955562222), .lit (.int .u32 2024104815), .lit (.int .u32 2227730452), .lit (.int .u32 2361852424), .lit (.int .u32 2428436474), .lit (.int .u32 2756734187), .lit (.int .u32 3204031479), .lit (.int .u32 3329325298)]

/-- 'stockadelaw23.LedgerBarrier': WHATEVER THE INPUT: true; the input reads as it did. -/
def ledgerBarrierSpec : ChangeSpec := { name := "ledgerBarrier", fn := fun _ => fun
  | [d1, d2] => { results := [.lit (.bool true)], args := [d1, d2] }
  | _ => none }
def ledgerBarrierRow : OpenClaim := { program := "ythkbahbbdacgeaadoor", sum := "0949870568bb57264947cb6680e63ce43c3c47f3dbece717e425a0d44c63b724", func := "stockade/stockadelaw23.LedgerBarrier", spec := "ledgerBarrier", unfollowed := true, recurses := true, named := ["stockade/sha.k"], plainKeys := false, apart := false, laid := [("stockade/sha.k", laid_stockade_sha_k)] }
def LedgerBarrierSaid : Prop := ledgerBarrierRow.holds Tryd.pinned (OpenSpec.ofChange ledgerBarrierSpec)

/-- ITS FALSE NEIGHBOUR: 'it returns false'. Refute it at one input. -/
def ledgerBarrierWrong : ChangeSpec := { name := "ledgerBarrier", fn := fun _ => fun
  | [d1, d2] => { results := [.lit (.bool false)], args := [d1, d2] }
  | _ => none }
def LedgerBarrierWrongFalsely : Prop := ledgerBarrierRow.holds Tryd.pinned (OpenSpec.ofChange ledgerBarrierWrong)

/-- 'stockadelaw23.LedgerKnown': WHATEVER THE INPUT: true; the input reads as it did. -/
def ledgerKnownSpec : ChangeSpec := { name := "ledgerKnown", fn := fun _ => fun
  | [] => { results := [.lit (.bool true)], args := [] }
  | _ => none }
def ledgerKnownRow : OpenClaim := { program := "ythkbahbbdacgeaadoor", sum := "0949870568bb57264947cb6680e63ce43c3c47f3dbece717e425a0d44c63b724", func := "stockade/stockadelaw23.LedgerKnown", spec := "ledgerKnown", unfollowed := true, recurses := true, named := ["stockade/sha.k"], plainKeys := false, apart := false, laid := [("stockade/sha.k", laid_stockade_sha_k)] }
def LedgerKnownSaid : Prop := ledgerKnownRow.holds Tryd.pinned (OpenSpec.ofChange ledgerKnownSpec)

/-- ITS FALSE NEIGHBOUR: 'it returns false'. Refute it at one input. -/
def ledgerKnownWrong : ChangeSpec := { name := "ledgerKnown", fn := fun _ => fun
  | [] => { results := [.lit (.bool false)], args := [] }
  | _ => none }
def LedgerKnownWrongFalsely : Prop := ledgerKnownRow.holds Tryd.pinned (OpenSpec.ofChange ledgerKnownWrong)

/-- 'stockadelaw23.LedgerOne': WHATEVER THE INPUT: true; the input reads as it did. -/
def ledgerOneSpec : ChangeSpec := { name := "ledgerOne", fn := fun _ => fun
  | [d1, d2] => { results := [.lit (.bool true)], args := [d1, d2] }
  | _ => none }
def ledgerOneRow : OpenClaim := { program := "ythkbahbbdacgeaadoor", sum := "0949870568bb57264947cb6680e63ce43c3c47f3dbece717e425a0d44c63b724", func := "stockade/stockadelaw23.LedgerOne", spec := "ledgerOne", unfollowed := true, recurses := true, named := ["stockade/sha.k"], plainKeys := false, apart := false, laid := [("stockade/sha.k", laid_stockade_sha_k)] }
def LedgerOneSaid : Prop := ledgerOneRow.holds Tryd.pinned (OpenSpec.ofChange ledgerOneSpec)

/-- ITS FALSE NEIGHBOUR: 'it returns false'. Refute it at one input. -/
def ledgerOneWrong : ChangeSpec := { name := "ledgerOne", fn := fun _ => fun
  | [d1, d2] => { results := [.lit (.bool false)], args := [d1, d2] }
  | _ => none }
def LedgerOneWrongFalsely : Prop := ledgerOneRow.holds Tryd.pinned (OpenSpec.ofChange ledgerOneWrong)

/-- 'stockadelaw23.LedgerOnce': WHATEVER THE INPUT: true; the input reads as it did. -/
def ledgerOnceSpec : ChangeSpec := { name := "ledgerOnce", fn := fun _ => fun
  | [d1, d2, d3] => { results := [.lit (.bool true)], args := [d1, d2, d3] }
  | _ => none }
def ledgerOnceRow : OpenClaim := { program := "ythkbahbbdacgeaadoor", sum := "0949870568bb57264947cb6680e63ce43c3c47f3dbece717e425a0d44c63b724", func := "stockade/stockadelaw23.LedgerOnce", spec := "ledgerOnce", unfollowed := true, recurses := true, named := ["stockade/sha.k"], plainKeys := false, apart := false, laid := [("stockade/sha.k", laid_stockade_sha_k)] }
def LedgerOnceSaid : Prop := ledgerOnceRow.holds Tryd.pinned (OpenSpec.ofChange ledgerOnceSpec)

/-- ITS FALSE NEIGHBOUR: 'it returns false'. Refute it at one input. -/
def ledgerOnceWrong : ChangeSpec := { name := "ledgerOnce", fn := fun _ => fun
  | [d1, d2, d3] => { results := [.lit (.bool false)], args := [d1, d2, d3] }
  | _ => none }
def LedgerOnceWrongFalsely : Prop := ledgerOnceRow.holds Tryd.pinned (OpenSpec.ofChange ledgerOnceWrong)

/-- 'stockadelaw23.LedgerKeeps': WHATEVER THE INPUT: true; the input reads as it did. -/
def ledgerKeepsSpec : ChangeSpec := { name := "ledgerKeeps", fn := fun _ => fun
  | [d1, d2] => { results := [.lit (.bool true)], args := [d1, d2] }
  | _ => none }
def ledgerKeepsRow : OpenClaim := { program := "ythkbahbbdacgeaadoor", sum := "0949870568bb57264947cb6680e63ce43c3c47f3dbece717e425a0d44c63b724", func := "stockade/stockadelaw23.LedgerKeeps", spec := "ledgerKeeps", inPlace := ["internal/bytealg.Compare"], unfollowed := true, recurses := true, named := ["stockade/sha.k"], plainKeys := false, apart := false, laid := [("stockade/sha.k", laid_stockade_sha_k)] }
def LedgerKeepsSaid : Prop := ledgerKeepsRow.holds Tryd.pinned (OpenSpec.ofChange ledgerKeepsSpec)

/-- ITS FALSE NEIGHBOUR: 'it returns false'. Refute it at one input. -/
def ledgerKeepsWrong : ChangeSpec := { name := "ledgerKeeps", fn := fun _ => fun
  | [d1, d2] => { results := [.lit (.bool false)], args := [d1, d2] }
  | _ => none }
def LedgerKeepsWrongFalsely : Prop := ledgerKeepsRow.holds Tryd.pinned (OpenSpec.ofChange ledgerKeepsWrong)

/-- 'stockadelaw23.LedgerCopies': WHATEVER THE INPUT: true; the input reads as it did. -/
def ledgerCopiesSpec : ChangeSpec := { name := "ledgerCopies", fn := fun _ => fun
  | [d1, d2, d3] => { results := [.lit (.bool true)], args := [d1, d2, d3] }
  | _ => none }
def ledgerCopiesRow : OpenClaim := { program := "ythkbahbbdacgeaadoor", sum := "0949870568bb57264947cb6680e63ce43c3c47f3dbece717e425a0d44c63b724", func := "stockade/stockadelaw23.LedgerCopies", spec := "ledgerCopies", inPlace := ["internal/bytealg.Compare"], unfollowed := true, recurses := true, named := ["stockade/sha.k"], plainKeys := false, apart := false, laid := [("stockade/sha.k", laid_stockade_sha_k)] }
def LedgerCopiesSaid : Prop := ledgerCopiesRow.holds Tryd.pinned (OpenSpec.ofChange ledgerCopiesSpec)

/-- ITS FALSE NEIGHBOUR: 'it returns false'. Refute it at one input. -/
def ledgerCopiesWrong : ChangeSpec := { name := "ledgerCopies", fn := fun _ => fun
  | [d1, d2, d3] => { results := [.lit (.bool false)], args := [d1, d2, d3] }
  | _ => none }
def LedgerCopiesWrongFalsely : Prop := ledgerCopiesRow.holds Tryd.pinned (OpenSpec.ofChange ledgerCopiesWrong)

/- THE SECOND FORM. 'bulk': how many values and letters a reading holds, each counted each time it is reached (what is shared counts as often as it is met; a slice's spare places count too). A statement '..UptoSaid' is the law's where the arguments, and the package variables that the reading takes, are together of bulk at most 1048576: NARROWER than '..Said'. Prove '..Said' where nothing that the law and all that it calls make is longer than what came in: it says more and counts as full. Else prove '..UptoSaid'. A law counts once. -/
mutual
def uptoBulk {H : Type} : DataW H → Nat
  | .lit (.string bytes) => bytes.length + 1
  | .lit _ => 1
  | .nil => 1
  | .ptr d => uptoBulk d + 1
  | .slice elems spare => uptoBulkAll elems + uptoBulkAll spare + 1
  | .agg parts => uptoBulkAll parts + 1
  | .iface _ d => uptoBulk d + 1
  | .map entries => uptoBulkEntries entries + 1
  | .held _ => 1
def uptoBulkAll {H : Type} : List (DataW H) → Nat
  | [] => 0
  | d :: r => uptoBulk d + uptoBulkAll r
def uptoBulkEntries {H : Type} : List (Lit × DataW H) → Nat
  | [] => 0
  | x :: r => uptoBulkEntry x + uptoBulkEntries r
def uptoBulkEntry {H : Type} : Lit × DataW H → Nat
  | (.string bytes, d) => bytes.length + uptoBulk d + 1
  | (_, d) => uptoBulk d + 1
 end
def uptoSmall : (H : Type) → List (DataW H) → Bool := fun _ ds => decide (uptoBulkAll ds ≤ 1048576)
def OpenSpec.upto (s : _root_.Go.ChangeSpec) : _root_.Go.OpenSpec := { _root_.Go.OpenSpec.ofChange s with cond := some uptoSmall }

/-- 'stockadelaw23.LedgerBarrier', WHERE WHAT IT READS IS OF BULK AT MOST 1048576: true; the input reads as it did. -/
def ledgerBarrierUptoRow : OpenClaim := { program := "ythkbahbbdacgeaadoor", sum := "0949870568bb57264947cb6680e63ce43c3c47f3dbece717e425a0d44c63b724", func := "stockade/stockadelaw23.LedgerBarrier", spec := "ledgerBarrier", unfollowed := true, recurses := true, named := ["stockade/sha.k"], plainKeys := false, apart := false, laid := [("stockade/sha.k", laid_stockade_sha_k)], narrowed := true }
def LedgerBarrierUptoSaid : Prop := ledgerBarrierUptoRow.holds Tryd.pinned (OpenSpec.upto ledgerBarrierSpec)

/-- 'stockadelaw23.LedgerKnown', WHERE WHAT IT READS IS OF BULK AT MOST 1048576: true; the input reads as it did. -/
def ledgerKnownUptoRow : OpenClaim := { program := "ythkbahbbdacgeaadoor", sum := "0949870568bb57264947cb6680e63ce43c3c47f3dbece717e425a0d44c63b724", func := "stockade/stockadelaw23.LedgerKnown", spec := "ledgerKnown", unfollowed := true, recurses := true, named := ["stockade/sha.k"], plainKeys := false, apart := false, laid := [("stockade/sha.k", laid_stockade_sha_k)], narrowed := true }
def LedgerKnownUptoSaid : Prop := ledgerKnownUptoRow.holds Tryd.pinned (OpenSpec.upto ledgerKnownSpec)

/-- 'stockadelaw23.LedgerOne', WHERE WHAT IT READS IS OF BULK AT MOST 1048576: true; the input reads as it did. -/
def ledgerOneUptoRow : OpenClaim := { program := "ythkbahbbdacgeaadoor", sum := "0949870568bb57264947cb6680e63ce43c3c47f3dbece717e425a0d44c63b724", func := "stockade/stockadelaw23.LedgerOne", spec := "ledgerOne", unfollowed := true, recurses := true, named := ["stockade/sha.k"], plainKeys := false, apart := false, laid := [("stockade/sha.k", laid_stockade_sha_k)], narrowed := true }
def LedgerOneUptoSaid : Prop := ledgerOneUptoRow.holds Tryd.pinned (OpenSpec.upto ledgerOneSpec)

/-- 'stockadelaw23.LedgerOnce', WHERE WHAT IT READS IS OF BULK AT MOST 1048576: true; the input reads as it did. -/
def ledgerOnceUptoRow : OpenClaim := { program := "ythkbahbbdacgeaadoor", sum := "0949870568bb57264947cb6680e63ce43c3c47f3dbece717e425a0d44c63b724", func := "stockade/stockadelaw23.LedgerOnce", spec := "ledgerOnce", unfollowed := true, recurses := true, named := ["stockade/sha.k"], plainKeys := false, apart := false, laid := [("stockade/sha.k", laid_stockade_sha_k)], narrowed := true }
def LedgerOnceUptoSaid : Prop := ledgerOnceUptoRow.holds Tryd.pinned (OpenSpec.upto ledgerOnceSpec)

/-- 'stockadelaw23.LedgerKeeps', WHERE WHAT IT READS IS OF BULK AT MOST 1048576: true; the input reads as it did. -/
def ledgerKeepsUptoRow : OpenClaim := { program := "ythkbahbbdacgeaadoor", sum := "0949870568bb57264947cb6680e63ce43c3c47f3dbece717e425a0d44c63b724", func := "stockade/stockadelaw23.LedgerKeeps", spec := "ledgerKeeps", inPlace := ["internal/bytealg.Compare"], unfollowed := true, recurses := true, named := ["stockade/sha.k"], plainKeys := false, apart := false, laid := [("stockade/sha.k", laid_stockade_sha_k)], narrowed := true }
def LedgerKeepsUptoSaid : Prop := ledgerKeepsUptoRow.holds Tryd.pinned (OpenSpec.upto ledgerKeepsSpec)

/-- 'stockadelaw23.LedgerCopies', WHERE WHAT IT READS IS OF BULK AT MOST 1048576: true; the input reads as it did. -/
def ledgerCopiesUptoRow : OpenClaim := { program := "ythkbahbbdacgeaadoor", sum := "0949870568bb57264947cb6680e63ce43c3c47f3dbece717e425a0d44c63b724", func := "stockade/stockadelaw23.LedgerCopies", spec := "ledgerCopies", inPlace := ["internal/bytealg.Compare"], unfollowed := true, recurses := true, named := ["stockade/sha.k"], plainKeys := false, apart := false, laid := [("stockade/sha.k", laid_stockade_sha_k)], narrowed := true }
def LedgerCopiesUptoSaid : Prop := ledgerCopiesUptoRow.holds Tryd.pinned (OpenSpec.upto ledgerCopiesSpec)

end Rows
end Go.Proofs.YthkbahbbdacgeaaDoor
