/-
  DERIVED. GIVEN WITH THE SEED: THE CARDS: each row of YtfglhnnbfmpfeaaDoorRows.lean that lists a variable, with what it lists TIED to the program's text (the seventh form; the later family's looks); each row that meets fmt, with fmt's text TOLD by the authors' own Lean function (tested against real Go, not proved from fmt's source: count such statements apart). THE CARD IS WHAT COUNTS. Prove the row's statement (the work); the ties are given (YtfglhnnbfmpfeaaDoorTie.lean); close each card by the builder's one call (the guide's Derived/Test/ToyasCard.lean, 'card_holds'). Laid BY PROGRAM, IN A SANDBOX (cutbox-door.mjs). By AI agents, Wed Nov 11 2026. No macro, syntax, notation, axiom, sorry.
-/
import Derived.Test.YtfglhnnbfmpfeaaDoorRows
import GoSem.ClaimSeven
namespace Go.Proofs.YtfglhnnbfmpfeaaDoor
namespace Rows

/-- THE TIED CARD OF 'refectorylaw05.GlobFits'. -/
def globFitsCard : Claim7 := { stood := { row := globFitsRow, standIns := [], harness := (true, "9846b0529c8d97f2e65ab58d5c4e2c06737583c8e653efa9bb0ac5b359317e73"), looks := false }, kinds := [], alts := [], laidByText := true, laidKinds := [.data, .pinned], laidTests := true, laidLooks := .later }
def GlobFitsCardSaid : Prop := Claim7.holds Tryd.pinned (.plain (OpenSpec.ofChange globFitsSpec)) globFitsCard

/-- THE TIED CARD OF 'refectorylaw05.GlobJoins'. -/
def globJoinsCard : Claim7 := { stood := { row := globJoinsRow, standIns := [], harness := (true, "9846b0529c8d97f2e65ab58d5c4e2c06737583c8e653efa9bb0ac5b359317e73"), looks := false }, kinds := [], alts := [], laidByText := true, laidKinds := [.data, .pinned], laidTests := true, laidLooks := .later }
def GlobJoinsCardSaid : Prop := Claim7.holds Tryd.pinned (.plain (OpenSpec.ofChange globJoinsSpec)) globJoinsCard

/-- THE TIED CARD OF 'refectorylaw05.GlobMarks'. -/
def globMarksCard : Claim7 := { stood := { row := globMarksRow, standIns := [], harness := (true, "9846b0529c8d97f2e65ab58d5c4e2c06737583c8e653efa9bb0ac5b359317e73"), looks := false }, kinds := [], alts := [], laidByText := true, laidKinds := [.data, .pinned], laidTests := true, laidLooks := .later }
def GlobMarksCardSaid : Prop := Claim7.holds Tryd.pinned (.plain (OpenSpec.ofChange globMarksSpec)) globMarksCard

/-- THE TIED CARD OF 'refectorylaw05.GlobPlain'. -/
def globPlainCard : Claim7 := { stood := { row := globPlainRow, standIns := [], harness := (true, "9846b0529c8d97f2e65ab58d5c4e2c06737583c8e653efa9bb0ac5b359317e73"), looks := false }, kinds := [], alts := [], laidByText := true, laidKinds := [.data, .pinned], laidTests := true, laidLooks := .later }
def GlobPlainCardSaid : Prop := Claim7.holds Tryd.pinned (.plain (OpenSpec.ofChange globPlainSpec)) globPlainCard

/-- THE TIED CARD OF 'refectorylaw05.GlobForms'. -/
def globFormsCard : Claim7 := { stood := { row := globFormsRow, standIns := [], harness := (true, "9846b0529c8d97f2e65ab58d5c4e2c06737583c8e653efa9bb0ac5b359317e73"), looks := false }, kinds := [], alts := [], laidByText := true, laidKinds := [.data, .pinned], laidTests := true, laidLooks := .later }
def GlobFormsCardSaid : Prop := Claim7.holds Tryd.pinned (.plain (OpenSpec.ofChange globFormsSpec)) globFormsCard

/-- THE TIED CARD OF 'refectorylaw05.GlobShort'. -/
def globShortCard : Claim7 := { stood := { row := globShortRow, standIns := [], harness := (true, "9846b0529c8d97f2e65ab58d5c4e2c06737583c8e653efa9bb0ac5b359317e73"), looks := false }, kinds := [], alts := [], laidByText := true, laidKinds := [.data, .pinned], laidTests := true, laidLooks := .later }
def GlobShortCardSaid : Prop := Claim7.holds Tryd.pinned (.plain (OpenSpec.ofChange globShortSpec)) globShortCard

/-- THE TIED CARD OF 'refectorylaw05.GlobRefused'. -/
def globRefusedCard : Claim7 := { stood := { row := globRefusedRow, standIns := [], harness := (true, "9846b0529c8d97f2e65ab58d5c4e2c06737583c8e653efa9bb0ac5b359317e73"), looks := false }, kinds := [], alts := [], laidByText := true, laidKinds := [.data, .pinned], laidTests := true, laidLooks := .later }
def GlobRefusedCardSaid : Prop := Claim7.holds Tryd.pinned (.plain (OpenSpec.ofChange globRefusedSpec)) globRefusedCard

/-- THE SECOND FORM's CARD OF 'refectorylaw05.GlobFits'. -/
def globFitsUptoCard : Claim7 := { stood := { row := globFitsUptoRow, standIns := [], harness := (true, "9846b0529c8d97f2e65ab58d5c4e2c06737583c8e653efa9bb0ac5b359317e73"), looks := false }, kinds := [], alts := [], laidByText := true, laidKinds := [.data, .pinned], laidTests := true, laidLooks := .later }
def GlobFitsUptoCardSaid : Prop := Claim7.holds Tryd.pinned (.plain (OpenSpec.upto globFitsSpec)) globFitsUptoCard

/-- THE SECOND FORM's CARD OF 'refectorylaw05.GlobJoins'. -/
def globJoinsUptoCard : Claim7 := { stood := { row := globJoinsUptoRow, standIns := [], harness := (true, "9846b0529c8d97f2e65ab58d5c4e2c06737583c8e653efa9bb0ac5b359317e73"), looks := false }, kinds := [], alts := [], laidByText := true, laidKinds := [.data, .pinned], laidTests := true, laidLooks := .later }
def GlobJoinsUptoCardSaid : Prop := Claim7.holds Tryd.pinned (.plain (OpenSpec.upto globJoinsSpec)) globJoinsUptoCard

/-- THE SECOND FORM's CARD OF 'refectorylaw05.GlobMarks'. -/
def globMarksUptoCard : Claim7 := { stood := { row := globMarksUptoRow, standIns := [], harness := (true, "9846b0529c8d97f2e65ab58d5c4e2c06737583c8e653efa9bb0ac5b359317e73"), looks := false }, kinds := [], alts := [], laidByText := true, laidKinds := [.data, .pinned], laidTests := true, laidLooks := .later }
def GlobMarksUptoCardSaid : Prop := Claim7.holds Tryd.pinned (.plain (OpenSpec.upto globMarksSpec)) globMarksUptoCard

/-- THE SECOND FORM's CARD OF 'refectorylaw05.GlobPlain'. -/
def globPlainUptoCard : Claim7 := { stood := { row := globPlainUptoRow, standIns := [], harness := (true, "9846b0529c8d97f2e65ab58d5c4e2c06737583c8e653efa9bb0ac5b359317e73"), looks := false }, kinds := [], alts := [], laidByText := true, laidKinds := [.data, .pinned], laidTests := true, laidLooks := .later }
def GlobPlainUptoCardSaid : Prop := Claim7.holds Tryd.pinned (.plain (OpenSpec.upto globPlainSpec)) globPlainUptoCard

/-- THE SECOND FORM's CARD OF 'refectorylaw05.GlobForms'. -/
def globFormsUptoCard : Claim7 := { stood := { row := globFormsUptoRow, standIns := [], harness := (true, "9846b0529c8d97f2e65ab58d5c4e2c06737583c8e653efa9bb0ac5b359317e73"), looks := false }, kinds := [], alts := [], laidByText := true, laidKinds := [.data, .pinned], laidTests := true, laidLooks := .later }
def GlobFormsUptoCardSaid : Prop := Claim7.holds Tryd.pinned (.plain (OpenSpec.upto globFormsSpec)) globFormsUptoCard

/-- THE SECOND FORM's CARD OF 'refectorylaw05.GlobShort'. -/
def globShortUptoCard : Claim7 := { stood := { row := globShortUptoRow, standIns := [], harness := (true, "9846b0529c8d97f2e65ab58d5c4e2c06737583c8e653efa9bb0ac5b359317e73"), looks := false }, kinds := [], alts := [], laidByText := true, laidKinds := [.data, .pinned], laidTests := true, laidLooks := .later }
def GlobShortUptoCardSaid : Prop := Claim7.holds Tryd.pinned (.plain (OpenSpec.upto globShortSpec)) globShortUptoCard

/-- THE SECOND FORM's CARD OF 'refectorylaw05.GlobRefused'. -/
def globRefusedUptoCard : Claim7 := { stood := { row := globRefusedUptoRow, standIns := [], harness := (true, "9846b0529c8d97f2e65ab58d5c4e2c06737583c8e653efa9bb0ac5b359317e73"), looks := false }, kinds := [], alts := [], laidByText := true, laidKinds := [.data, .pinned], laidTests := true, laidLooks := .later }
def GlobRefusedUptoCardSaid : Prop := Claim7.holds Tryd.pinned (.plain (OpenSpec.upto globRefusedSpec)) globRefusedUptoCard
end Rows
end Go.Proofs.YtfglhnnbfmpfeaaDoor
