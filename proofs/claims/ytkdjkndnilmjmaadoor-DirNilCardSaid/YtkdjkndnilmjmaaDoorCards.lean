/-
  DERIVED. GIVEN WITH THE SEED: THE CARDS: each row of YtkdjkndnilmjmaaDoorRows.lean that lists a variable, with what it lists TIED to the program's text (the seventh form; the later family's looks); each row that meets fmt, with fmt's text TOLD by the authors' own Lean function (tested against real Go, not proved from fmt's source: count such statements apart). THE CARD IS WHAT COUNTS. Prove the row's statement (the work); the ties are given (YtkdjkndnilmjmaaDoorTie.lean); close each card by the builder's one call (the guide's Derived/Test/ToyasCard.lean, 'card_holds'). Laid BY PROGRAM, IN A SANDBOX (cutbox-door.mjs). By AI agents, Wed Nov 11 2026. No macro, syntax, notation, axiom, sorry.
-/
import Derived.Test.YtkdjkndnilmjmaaDoorRows
import GoSem.ClaimSeven
namespace Go.Proofs.YtkdjkndnilmjmaaDoor
namespace Rows

/-- THE TIED CARD OF 'refectorylaw15.DirPlays'. -/
def dirPlaysCard : Claim7 := { stood := { row := dirPlaysRow, standIns := [], harness := (true, "4fcb3774d3fb82c91d30d00ace9e02022fb80d392bd7ae6467331b996d0a498c"), looks := false }, kinds := [], alts := [], laidByText := true, laidKinds := [.data, .pinned], laidTests := true, laidLooks := .later }
def DirPlaysCardSaid : Prop := Claim7.holds Tryd.pinned (.plain (OpenSpec.ofChange dirPlaysSpec)) dirPlaysCard

/-- THE TIED CARD OF 'refectorylaw15.DirLists'. -/
def dirListsCard : Claim7 := { stood := { row := dirListsRow, standIns := [], harness := (true, "4fcb3774d3fb82c91d30d00ace9e02022fb80d392bd7ae6467331b996d0a498c"), looks := false }, kinds := [], alts := [], laidByText := true, laidKinds := [.data, .pinned], laidTests := true, laidLooks := .later }
def DirListsCardSaid : Prop := Claim7.holds Tryd.pinned (.plain (OpenSpec.ofChange dirListsSpec)) dirListsCard

/-- THE TIED CARD OF 'refectorylaw15.DirPages'. -/
def dirPagesCard : Claim7 := { stood := { row := dirPagesRow, standIns := [], harness := (true, "4fcb3774d3fb82c91d30d00ace9e02022fb80d392bd7ae6467331b996d0a498c"), looks := false }, kinds := [], alts := [], laidByText := true, laidKinds := [.data, .pinned], laidTests := true, laidLooks := .later }
def DirPagesCardSaid : Prop := Claim7.holds Tryd.pinned (.plain (OpenSpec.ofChange dirPagesSpec)) dirPagesCard

/-- THE TIED CARD OF 'refectorylaw15.DirBack'. -/
def dirBackCard : Claim7 := { stood := { row := dirBackRow, standIns := [], harness := (true, "4fcb3774d3fb82c91d30d00ace9e02022fb80d392bd7ae6467331b996d0a498c"), looks := false }, kinds := [], alts := [], laidByText := true, laidKinds := [.data, .pinned], laidTests := true, laidLooks := .later }
def DirBackCardSaid : Prop := Claim7.holds Tryd.pinned (.plain (OpenSpec.ofChange dirBackSpec)) dirBackCard

/-- THE TIED CARD OF 'refectorylaw15.DirRenames'. -/
def dirRenamesCard : Claim7 := { stood := { row := dirRenamesRow, standIns := [], harness := (true, "4fcb3774d3fb82c91d30d00ace9e02022fb80d392bd7ae6467331b996d0a498c"), looks := false }, kinds := [], alts := [], laidByText := true, laidKinds := [.data, .pinned], laidTests := true, laidLooks := .later }
def DirRenamesCardSaid : Prop := Claim7.holds Tryd.pinned (.plain (OpenSpec.ofChange dirRenamesSpec)) dirRenamesCard

/-- THE TIED CARD OF 'refectorylaw15.DirFresh'. -/
def dirFreshCard : Claim7 := { stood := { row := dirFreshRow, standIns := [], harness := (true, "4fcb3774d3fb82c91d30d00ace9e02022fb80d392bd7ae6467331b996d0a498c"), looks := false }, kinds := [], alts := [], laidByText := true, laidKinds := [.data, .pinned], laidTests := true, laidLooks := .later }
def DirFreshCardSaid : Prop := Claim7.holds Tryd.pinned (.plain (OpenSpec.ofChange dirFreshSpec)) dirFreshCard

/-- THE TIED CARD OF 'refectorylaw15.DirNil'. -/
def dirNilCard : Claim7 := { stood := { row := dirNilRow, standIns := [], harness := (true, "4fcb3774d3fb82c91d30d00ace9e02022fb80d392bd7ae6467331b996d0a498c"), looks := false }, kinds := [], alts := [], laidByText := true, laidKinds := [.data, .pinned], laidTests := true, laidLooks := .later }
def DirNilCardSaid : Prop := Claim7.holds Tryd.pinned (.plain (OpenSpec.ofChange dirNilSpec)) dirNilCard

/-- THE SECOND FORM's CARD OF 'refectorylaw15.DirPlays'. -/
def dirPlaysUptoCard : Claim7 := { stood := { row := dirPlaysUptoRow, standIns := [], harness := (true, "4fcb3774d3fb82c91d30d00ace9e02022fb80d392bd7ae6467331b996d0a498c"), looks := false }, kinds := [], alts := [], laidByText := true, laidKinds := [.data, .pinned], laidTests := true, laidLooks := .later }
def DirPlaysUptoCardSaid : Prop := Claim7.holds Tryd.pinned (.plain (OpenSpec.upto dirPlaysSpec)) dirPlaysUptoCard

/-- THE SECOND FORM's CARD OF 'refectorylaw15.DirLists'. -/
def dirListsUptoCard : Claim7 := { stood := { row := dirListsUptoRow, standIns := [], harness := (true, "4fcb3774d3fb82c91d30d00ace9e02022fb80d392bd7ae6467331b996d0a498c"), looks := false }, kinds := [], alts := [], laidByText := true, laidKinds := [.data, .pinned], laidTests := true, laidLooks := .later }
def DirListsUptoCardSaid : Prop := Claim7.holds Tryd.pinned (.plain (OpenSpec.upto dirListsSpec)) dirListsUptoCard

/-- THE SECOND FORM's CARD OF 'refectorylaw15.DirPages'. -/
def dirPagesUptoCard : Claim7 := { stood := { row := dirPagesUptoRow, standIns := [], harness := (true, "4fcb3774d3fb82c91d30d00ace9e02022fb80d392bd7ae6467331b996d0a498c"), looks := false }, kinds := [], alts := [], laidByText := true, laidKinds := [.data, .pinned], laidTests := true, laidLooks := .later }
def DirPagesUptoCardSaid : Prop := Claim7.holds Tryd.pinned (.plain (OpenSpec.upto dirPagesSpec)) dirPagesUptoCard

/-- THE SECOND FORM's CARD OF 'refectorylaw15.DirBack'. -/
def dirBackUptoCard : Claim7 := { stood := { row := dirBackUptoRow, standIns := [], harness := (true, "4fcb3774d3fb82c91d30d00ace9e02022fb80d392bd7ae6467331b996d0a498c"), looks := false }, kinds := [], alts := [], laidByText := true, laidKinds := [.data, .pinned], laidTests := true, laidLooks := .later }
def DirBackUptoCardSaid : Prop := Claim7.holds Tryd.pinned (.plain (OpenSpec.upto dirBackSpec)) dirBackUptoCard

/-- THE SECOND FORM's CARD OF 'refectorylaw15.DirRenames'. -/
def dirRenamesUptoCard : Claim7 := { stood := { row := dirRenamesUptoRow, standIns := [], harness := (true, "4fcb3774d3fb82c91d30d00ace9e02022fb80d392bd7ae6467331b996d0a498c"), looks := false }, kinds := [], alts := [], laidByText := true, laidKinds := [.data, .pinned], laidTests := true, laidLooks := .later }
def DirRenamesUptoCardSaid : Prop := Claim7.holds Tryd.pinned (.plain (OpenSpec.upto dirRenamesSpec)) dirRenamesUptoCard

/-- THE SECOND FORM's CARD OF 'refectorylaw15.DirFresh'. -/
def dirFreshUptoCard : Claim7 := { stood := { row := dirFreshUptoRow, standIns := [], harness := (true, "4fcb3774d3fb82c91d30d00ace9e02022fb80d392bd7ae6467331b996d0a498c"), looks := false }, kinds := [], alts := [], laidByText := true, laidKinds := [.data, .pinned], laidTests := true, laidLooks := .later }
def DirFreshUptoCardSaid : Prop := Claim7.holds Tryd.pinned (.plain (OpenSpec.upto dirFreshSpec)) dirFreshUptoCard

/-- THE SECOND FORM's CARD OF 'refectorylaw15.DirNil'. -/
def dirNilUptoCard : Claim7 := { stood := { row := dirNilUptoRow, standIns := [], harness := (true, "4fcb3774d3fb82c91d30d00ace9e02022fb80d392bd7ae6467331b996d0a498c"), looks := false }, kinds := [], alts := [], laidByText := true, laidKinds := [.data, .pinned], laidTests := true, laidLooks := .later }
def DirNilUptoCardSaid : Prop := Claim7.holds Tryd.pinned (.plain (OpenSpec.upto dirNilSpec)) dirNilUptoCard
end Rows
end Go.Proofs.YtkdjkndnilmjmaaDoor
