/-
  DERIVED. GIVEN WITH THE SEED: THE CARDS: each row of YthkbahbbdacgeaaDoorRows.lean that lists a variable, with what it lists TIED to the program's text (the seventh form; the later family's looks); each row that meets fmt, with fmt's text TOLD by the authors' own Lean function (tested against real Go, not proved from fmt's source: count such statements apart). THE CARD IS WHAT COUNTS. Prove the row's statement (the work); the ties are given (YthkbahbbdacgeaaDoorTie.lean); close each card by the builder's one call (the guide's Derived/Test/ToyasCard.lean, 'card_holds'). Laid BY PROGRAM, IN A SANDBOX (cutbox-door.mjs). By AI agents, Wed Nov 11 2026. No macro, syntax, notation, axiom, sorry.
-/
import Derived.Test.YthkbahbbdacgeaaDoorRows
import GoSem.ClaimSeven
namespace Go.Proofs.YthkbahbbdacgeaaDoor
namespace Rows

/-- THE TIED CARD OF 'stockadelaw23.LedgerBarrier'. -/
def ledgerBarrierCard : Claim7 := { stood := { row := ledgerBarrierRow, standIns := [], harness := (true, "39cedea42f30953cc62abe7884dc7eeaae73ea6e34e376bcaa21f8ec630de047"), looks := false }, kinds := [], alts := [], laidByText := true, laidKinds := [.data], laidTests := true, laidLooks := .later }
def LedgerBarrierCardSaid : Prop := Claim7.holds Tryd.pinned (.plain (OpenSpec.ofChange ledgerBarrierSpec)) ledgerBarrierCard

/-- THE TIED CARD OF 'stockadelaw23.LedgerKnown'. -/
def ledgerKnownCard : Claim7 := { stood := { row := ledgerKnownRow, standIns := [], harness := (true, "39cedea42f30953cc62abe7884dc7eeaae73ea6e34e376bcaa21f8ec630de047"), looks := false }, kinds := [], alts := [], laidByText := true, laidKinds := [.data], laidTests := true, laidLooks := .later }
def LedgerKnownCardSaid : Prop := Claim7.holds Tryd.pinned (.plain (OpenSpec.ofChange ledgerKnownSpec)) ledgerKnownCard

/-- THE TIED CARD OF 'stockadelaw23.LedgerOne'. -/
def ledgerOneCard : Claim7 := { stood := { row := ledgerOneRow, standIns := [], harness := (true, "39cedea42f30953cc62abe7884dc7eeaae73ea6e34e376bcaa21f8ec630de047"), looks := false }, kinds := [], alts := [], laidByText := true, laidKinds := [.data], laidTests := true, laidLooks := .later }
def LedgerOneCardSaid : Prop := Claim7.holds Tryd.pinned (.plain (OpenSpec.ofChange ledgerOneSpec)) ledgerOneCard

/-- THE TIED CARD OF 'stockadelaw23.LedgerOnce'. -/
def ledgerOnceCard : Claim7 := { stood := { row := ledgerOnceRow, standIns := [], harness := (true, "39cedea42f30953cc62abe7884dc7eeaae73ea6e34e376bcaa21f8ec630de047"), looks := false }, kinds := [], alts := [], laidByText := true, laidKinds := [.data], laidTests := true, laidLooks := .later }
def LedgerOnceCardSaid : Prop := Claim7.holds Tryd.pinned (.plain (OpenSpec.ofChange ledgerOnceSpec)) ledgerOnceCard

/-- THE TIED CARD OF 'stockadelaw23.LedgerKeeps'. -/
def ledgerKeepsCard : Claim7 := { stood := { row := ledgerKeepsRow, standIns := [], harness := (true, "39cedea42f30953cc62abe7884dc7eeaae73ea6e34e376bcaa21f8ec630de047"), looks := false }, kinds := [], alts := [], laidByText := true, laidKinds := [.data], laidTests := true, laidLooks := .later }
def LedgerKeepsCardSaid : Prop := Claim7.holds Tryd.pinned (.plain (OpenSpec.ofChange ledgerKeepsSpec)) ledgerKeepsCard

/-- THE TIED CARD OF 'stockadelaw23.LedgerCopies'. -/
def ledgerCopiesCard : Claim7 := { stood := { row := ledgerCopiesRow, standIns := [], harness := (true, "39cedea42f30953cc62abe7884dc7eeaae73ea6e34e376bcaa21f8ec630de047"), looks := false }, kinds := [], alts := [], laidByText := true, laidKinds := [.data], laidTests := true, laidLooks := .later }
def LedgerCopiesCardSaid : Prop := Claim7.holds Tryd.pinned (.plain (OpenSpec.ofChange ledgerCopiesSpec)) ledgerCopiesCard

/-- THE SECOND FORM's CARD OF 'stockadelaw23.LedgerBarrier'. -/
def ledgerBarrierUptoCard : Claim7 := { stood := { row := ledgerBarrierUptoRow, standIns := [], harness := (true, "39cedea42f30953cc62abe7884dc7eeaae73ea6e34e376bcaa21f8ec630de047"), looks := false }, kinds := [], alts := [], laidByText := true, laidKinds := [.data], laidTests := true, laidLooks := .later }
def LedgerBarrierUptoCardSaid : Prop := Claim7.holds Tryd.pinned (.plain (OpenSpec.upto ledgerBarrierSpec)) ledgerBarrierUptoCard

/-- THE SECOND FORM's CARD OF 'stockadelaw23.LedgerKnown'. -/
def ledgerKnownUptoCard : Claim7 := { stood := { row := ledgerKnownUptoRow, standIns := [], harness := (true, "39cedea42f30953cc62abe7884dc7eeaae73ea6e34e376bcaa21f8ec630de047"), looks := false }, kinds := [], alts := [], laidByText := true, laidKinds := [.data], laidTests := true, laidLooks := .later }
def LedgerKnownUptoCardSaid : Prop := Claim7.holds Tryd.pinned (.plain (OpenSpec.upto ledgerKnownSpec)) ledgerKnownUptoCard

/-- THE SECOND FORM's CARD OF 'stockadelaw23.LedgerOne'. -/
def ledgerOneUptoCard : Claim7 := { stood := { row := ledgerOneUptoRow, standIns := [], harness := (true, "39cedea42f30953cc62abe7884dc7eeaae73ea6e34e376bcaa21f8ec630de047"), looks := false }, kinds := [], alts := [], laidByText := true, laidKinds := [.data], laidTests := true, laidLooks := .later }
def LedgerOneUptoCardSaid : Prop := Claim7.holds Tryd.pinned (.plain (OpenSpec.upto ledgerOneSpec)) ledgerOneUptoCard

/-- THE SECOND FORM's CARD OF 'stockadelaw23.LedgerOnce'. -/
def ledgerOnceUptoCard : Claim7 := { stood := { row := ledgerOnceUptoRow, standIns := [], harness := (true, "39cedea42f30953cc62abe7884dc7eeaae73ea6e34e376bcaa21f8ec630de047"), looks := false }, kinds := [], alts := [], laidByText := true, laidKinds := [.data], laidTests := true, laidLooks := .later }
def LedgerOnceUptoCardSaid : Prop := Claim7.holds Tryd.pinned (.plain (OpenSpec.upto ledgerOnceSpec)) ledgerOnceUptoCard

/-- THE SECOND FORM's CARD OF 'stockadelaw23.LedgerKeeps'. -/
def ledgerKeepsUptoCard : Claim7 := { stood := { row := ledgerKeepsUptoRow, standIns := [], harness := (true, "39cedea42f30953cc62abe7884dc7eeaae73ea6e34e376bcaa21f8ec630de047"), looks := false }, kinds := [], alts := [], laidByText := true, laidKinds := [.data], laidTests := true, laidLooks := .later }
def LedgerKeepsUptoCardSaid : Prop := Claim7.holds Tryd.pinned (.plain (OpenSpec.upto ledgerKeepsSpec)) ledgerKeepsUptoCard

/-- THE SECOND FORM's CARD OF 'stockadelaw23.LedgerCopies'. -/
def ledgerCopiesUptoCard : Claim7 := { stood := { row := ledgerCopiesUptoRow, standIns := [], harness := (true, "39cedea42f30953cc62abe7884dc7eeaae73ea6e34e376bcaa21f8ec630de047"), looks := false }, kinds := [], alts := [], laidByText := true, laidKinds := [.data], laidTests := true, laidLooks := .later }
def LedgerCopiesUptoCardSaid : Prop := Claim7.holds Tryd.pinned (.plain (OpenSpec.upto ledgerCopiesSpec)) ledgerCopiesUptoCard
end Rows
end Go.Proofs.YthkbahbbdacgeaaDoor
