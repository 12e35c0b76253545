/-
  DERIVED. GIVEN WITH THE SEED: THE CARDS: each row of YtanncmaojnmldaaDoorRows.lean that lists a variable, with what it lists TIED to the program's text (the seventh form; the later family's looks); each row that meets fmt, with fmt's text TOLD by the authors' own Lean function (tested against real Go, not proved from fmt's source: count such statements apart). THE CARD IS WHAT COUNTS. Prove the row's statement (the work); the ties are given (YtanncmaojnmldaaDoorTie.lean); close each card by the builder's one call (the guide's Derived/Test/ToyasCard.lean, 'card_holds'). Laid BY PROGRAM, IN A SANDBOX (cutbox-door.mjs). By AI agents, Wed Nov 11 2026. No macro, syntax, notation, axiom, sorry.
-/
import Derived.Test.YtanncmaojnmldaaDoorRows
import GoSem.ClaimSeven
namespace Go.Proofs.YtanncmaojnmldaaDoor
namespace Rows

/-- THE TIED CARD OF 'refectorylaw02.UtfPuts'. -/
def utfPutsCard : Claim7 := { stood := { row := utfPutsRow, standIns := [], harness := (true, "7d72e07e07aae47eb89647d918863a633e7ccb7a674b19b003c466345edd0495"), looks := false }, kinds := [], alts := [], laidByText := true, laidKinds := [.data, .pinned], laidTests := true, laidLooks := .later }
def UtfPutsCardSaid : Prop := Claim7.holds Tryd.pinned (.plain (OpenSpec.ofChange utfPutsSpec)) utfPutsCard

/-- THE TIED CARD OF 'refectorylaw02.UtfGets'. -/
def utfGetsCard : Claim7 := { stood := { row := utfGetsRow, standIns := [], harness := (true, "7d72e07e07aae47eb89647d918863a633e7ccb7a674b19b003c466345edd0495"), looks := false }, kinds := [], alts := [], laidByText := true, laidKinds := [.data, .pinned], laidTests := true, laidLooks := .later }
def UtfGetsCardSaid : Prop := Claim7.holds Tryd.pinned (.plain (OpenSpec.ofChange utfGetsSpec)) utfGetsCard

/-- THE TIED CARD OF 'refectorylaw02.UtfBack'. -/
def utfBackCard : Claim7 := { stood := { row := utfBackRow, standIns := [], harness := (true, "7d72e07e07aae47eb89647d918863a633e7ccb7a674b19b003c466345edd0495"), looks := false }, kinds := [], alts := [], laidByText := true, laidKinds := [.data, .pinned], laidTests := true, laidLooks := .later }
def UtfBackCardSaid : Prop := Claim7.holds Tryd.pinned (.plain (OpenSpec.ofChange utfBackSpec)) utfBackCard

/-- THE TIED CARD OF 'refectorylaw02.UtfJoins'. -/
def utfJoinsCard : Claim7 := { stood := { row := utfJoinsRow, standIns := [], harness := (true, "7d72e07e07aae47eb89647d918863a633e7ccb7a674b19b003c466345edd0495"), looks := false }, kinds := [], alts := [], laidByText := true, laidKinds := [.data, .pinned], laidTests := true, laidLooks := .later }
def UtfJoinsCardSaid : Prop := Claim7.holds Tryd.pinned (.plain (OpenSpec.ofChange utfJoinsSpec)) utfJoinsCard

/-- THE TIED CARD OF 'refectorylaw02.UtfOrder'. -/
def utfOrderCard : Claim7 := { stood := { row := utfOrderRow, standIns := [], harness := (true, "7d72e07e07aae47eb89647d918863a633e7ccb7a674b19b003c466345edd0495"), looks := false }, kinds := [], alts := [], laidByText := true, laidKinds := [.data, .pinned], laidTests := true, laidLooks := .later }
def UtfOrderCardSaid : Prop := Claim7.holds Tryd.pinned (.plain (OpenSpec.ofChange utfOrderSpec)) utfOrderCard

/-- THE TIED CARD OF 'refectorylaw02.UtfAgain'. -/
def utfAgainCard : Claim7 := { stood := { row := utfAgainRow, standIns := [], harness := (true, "7d72e07e07aae47eb89647d918863a633e7ccb7a674b19b003c466345edd0495"), looks := false }, kinds := [], alts := [], laidByText := true, laidKinds := [.data, .pinned], laidTests := true, laidLooks := .later }
def UtfAgainCardSaid : Prop := Claim7.holds Tryd.pinned (.plain (OpenSpec.ofChange utfAgainSpec)) utfAgainCard

/-- THE TIED CARD OF 'refectorylaw02.UtfFresh'. -/
def utfFreshCard : Claim7 := { stood := { row := utfFreshRow, standIns := [], harness := (true, "7d72e07e07aae47eb89647d918863a633e7ccb7a674b19b003c466345edd0495"), looks := false }, kinds := [], alts := [], laidByText := true, laidKinds := [.data, .pinned], laidTests := true, laidLooks := .later }
def UtfFreshCardSaid : Prop := Claim7.holds Tryd.pinned (.plain (OpenSpec.ofChange utfFreshSpec)) utfFreshCard

/-- THE SECOND FORM's CARD OF 'refectorylaw02.UtfPuts'. -/
def utfPutsUptoCard : Claim7 := { stood := { row := utfPutsUptoRow, standIns := [], harness := (true, "7d72e07e07aae47eb89647d918863a633e7ccb7a674b19b003c466345edd0495"), looks := false }, kinds := [], alts := [], laidByText := true, laidKinds := [.data, .pinned], laidTests := true, laidLooks := .later }
def UtfPutsUptoCardSaid : Prop := Claim7.holds Tryd.pinned (.plain (OpenSpec.upto utfPutsSpec)) utfPutsUptoCard

/-- THE SECOND FORM's CARD OF 'refectorylaw02.UtfGets'. -/
def utfGetsUptoCard : Claim7 := { stood := { row := utfGetsUptoRow, standIns := [], harness := (true, "7d72e07e07aae47eb89647d918863a633e7ccb7a674b19b003c466345edd0495"), looks := false }, kinds := [], alts := [], laidByText := true, laidKinds := [.data, .pinned], laidTests := true, laidLooks := .later }
def UtfGetsUptoCardSaid : Prop := Claim7.holds Tryd.pinned (.plain (OpenSpec.upto utfGetsSpec)) utfGetsUptoCard

/-- THE SECOND FORM's CARD OF 'refectorylaw02.UtfBack'. -/
def utfBackUptoCard : Claim7 := { stood := { row := utfBackUptoRow, standIns := [], harness := (true, "7d72e07e07aae47eb89647d918863a633e7ccb7a674b19b003c466345edd0495"), looks := false }, kinds := [], alts := [], laidByText := true, laidKinds := [.data, .pinned], laidTests := true, laidLooks := .later }
def UtfBackUptoCardSaid : Prop := Claim7.holds Tryd.pinned (.plain (OpenSpec.upto utfBackSpec)) utfBackUptoCard

/-- THE SECOND FORM's CARD OF 'refectorylaw02.UtfJoins'. -/
def utfJoinsUptoCard : Claim7 := { stood := { row := utfJoinsUptoRow, standIns := [], harness := (true, "7d72e07e07aae47eb89647d918863a633e7ccb7a674b19b003c466345edd0495"), looks := false }, kinds := [], alts := [], laidByText := true, laidKinds := [.data, .pinned], laidTests := true, laidLooks := .later }
def UtfJoinsUptoCardSaid : Prop := Claim7.holds Tryd.pinned (.plain (OpenSpec.upto utfJoinsSpec)) utfJoinsUptoCard

/-- THE SECOND FORM's CARD OF 'refectorylaw02.UtfOrder'. -/
def utfOrderUptoCard : Claim7 := { stood := { row := utfOrderUptoRow, standIns := [], harness := (true, "7d72e07e07aae47eb89647d918863a633e7ccb7a674b19b003c466345edd0495"), looks := false }, kinds := [], alts := [], laidByText := true, laidKinds := [.data, .pinned], laidTests := true, laidLooks := .later }
def UtfOrderUptoCardSaid : Prop := Claim7.holds Tryd.pinned (.plain (OpenSpec.upto utfOrderSpec)) utfOrderUptoCard

/-- THE SECOND FORM's CARD OF 'refectorylaw02.UtfAgain'. -/
def utfAgainUptoCard : Claim7 := { stood := { row := utfAgainUptoRow, standIns := [], harness := (true, "7d72e07e07aae47eb89647d918863a633e7ccb7a674b19b003c466345edd0495"), looks := false }, kinds := [], alts := [], laidByText := true, laidKinds := [.data, .pinned], laidTests := true, laidLooks := .later }
def UtfAgainUptoCardSaid : Prop := Claim7.holds Tryd.pinned (.plain (OpenSpec.upto utfAgainSpec)) utfAgainUptoCard

/-- THE SECOND FORM's CARD OF 'refectorylaw02.UtfFresh'. -/
def utfFreshUptoCard : Claim7 := { stood := { row := utfFreshUptoRow, standIns := [], harness := (true, "7d72e07e07aae47eb89647d918863a633e7ccb7a674b19b003c466345edd0495"), looks := false }, kinds := [], alts := [], laidByText := true, laidKinds := [.data, .pinned], laidTests := true, laidLooks := .later }
def UtfFreshUptoCardSaid : Prop := Claim7.holds Tryd.pinned (.plain (OpenSpec.upto utfFreshSpec)) utfFreshUptoCard
end Rows
end Go.Proofs.YtanncmaojnmldaaDoor
