/-
  NARROWER THAN 'FOR EVERY INPUT', by the rows' own cells (each row's printed sentence says how): DirPlays: laid · DirLists: laid · DirPages: laid · DirBack: laid · DirRenames: laid · DirFresh: laid · DirNil: laid.
  DERIVED. THE GIVEN ROWS OF THIS SEAT. 7 by the template 'for every input the law returns true; each argument reads behind the call as it read before'; 0 by the template 'total and deterministic' (their statements: YtkdjkndnilmjmaaDoorTotals.lean).
  GIVEN WITH THE SEED: the statements are not yours to turn. If you find one false, say at which input.
  Laid BY PROGRAM, IN A SANDBOX (cutbox-rows.mjs): the forced cells as the released guide's own fill.sh prints them over the translation e919830f76da00fe… (all of the seat's roots in one cut). By AI agents, Wed Nov 11 2026. No macro, syntax, notation, axiom, sorry.
-/
import Derived.Test.YtkdjkndnilmjmaaDoorChecked
import GoSem.PinnedTables
import GoSem.Claim
import GoSem.ClaimJoined
import GoSem.ClaimMapViews
import Derived.JoinedTies
import Derived.KernelRfl
namespace Go.Proofs.YtkdjkndnilmjmaaDoor
/- THE CELL 'sum', in the pinned program and in every row, IS THE sha256 OF THE DUMP (.gsa) THAT YtkdjkndnilmjmaaDoorProg.lean LOADS. Nothing in Lean hashes anything: it is a label: what it is worth is what the hold of that sum in a sandbox is worth. -/
noncomputable def Tryd.pinned : Pinned := { name := "ytkdjkndnilmjmaadoor", sum := "e919830f76da00fea9ec9ef6334259e1aa072ab8cd279ff2fa771cab08bd7408", checked := Tryd.checked }
namespace Rows
def none {H : Type} : Left H := { results := [], args := [] }

/- WHAT THE LISTED PACKAGE-LEVEL VARIABLES READ AS WHEN THE CALL BEGINS. Each datum BY PROGRAM (the guide's laid-datum.mjs) off the statement by which the dump's own 'gosem.cut.vars' lays the variable. In a bare row this is a premise. The card (YtkdjkndnilmjmaaDoorCards.lean) ties it to the program's text. -/
def laid_unicode_utf8_acceptRanges {H : Type} : DataW H := .agg [.agg [.lit (.int .u8 128), .lit (.int .u8 191)], .agg [.lit (.int .u8 160), .lit (.int .u8 191)], .agg [.lit (.int .u8 128), .lit (.int .u8 159)], .agg [.lit (.int .u8 144), .lit (.int .u8 191)], .agg [.lit (.int .u8 128), .lit (.int .u8 143)], .agg [.lit (.int .u8 0), .lit (.int .u8 0)], .agg [.lit (.int .u8 0), .lit (.int .u8 0)], .agg [.lit (.int .u8 0), .lit (.int .u8 0)], .agg [.lit (.int .u8 0), .lit (.int .u8 0)], .agg [.lit (.int .u8 0), .lit (.int .u8 0)], .agg [.lit (.int .u8 0), .lit (.int .u8 0)], .agg [.lit (.int .u8 0), .lit (.int .u8 0)], .agg [.lit (.int .u8 0), .lit (.int .u8 0)], .agg [.lit (.int .u8 0), .lit (.int .u8 0)], .agg [.lit (.int .u8 0), .lit (.int .u8 0)], .agg [.lit (.int .u8 0), .lit (.int .u8 0)]]
/-- One of Go's own tables, pinned by name: the form's constant. -/
def laid_unicode_utf8_first : DataW Unit := Go.Pinned.utf8First

/-- 'refectorylaw15.DirPlays': WHATEVER THE INPUT: true; the input reads as it did. -/
def dirPlaysSpec : ChangeSpec := { name := "dirPlays", fn := fun _ => fun
  | [d] => { results := [.lit (.bool true)], args := [d] }
  | _ => none }
def dirPlaysRow : OpenClaim := { program := "ytkdjkndnilmjmaadoor", sum := "e919830f76da00fea9ec9ef6334259e1aa072ab8cd279ff2fa771cab08bd7408", func := "refectory/refectorylaw15.DirPlays", spec := "dirPlays", inPlace := ["internal/abi.NoEscape", "slices.overlaps[string]"], unfollowed := true, recurses := true, named := ["unicode/utf8.first", "unicode/utf8.acceptRanges"], apart := false, laid := [("unicode/utf8.acceptRanges", laid_unicode_utf8_acceptRanges), ("unicode/utf8.first", laid_unicode_utf8_first)] }
def DirPlaysSaid : Prop := dirPlaysRow.holds Tryd.pinned (OpenSpec.ofChange dirPlaysSpec)

/-- ITS FALSE NEIGHBOUR: 'it returns false'. Refute it at one input. -/
def dirPlaysWrong : ChangeSpec := { name := "dirPlays", fn := fun _ => fun
  | [d] => { results := [.lit (.bool false)], args := [d] }
  | _ => none }
def DirPlaysWrongFalsely : Prop := dirPlaysRow.holds Tryd.pinned (OpenSpec.ofChange dirPlaysWrong)

/-- 'refectorylaw15.DirLists': WHATEVER THE INPUT: true; the input reads as it did. -/
def dirListsSpec : ChangeSpec := { name := "dirLists", fn := fun _ => fun
  | [d1, d2, d3, d4] => { results := [.lit (.bool true)], args := [d1, d2, d3, d4] }
  | _ => none }
def dirListsRow : OpenClaim := { program := "ytkdjkndnilmjmaadoor", sum := "e919830f76da00fea9ec9ef6334259e1aa072ab8cd279ff2fa771cab08bd7408", func := "refectory/refectorylaw15.DirLists", spec := "dirLists", inPlace := ["internal/abi.NoEscape", "slices.overlaps[string]"], unfollowed := true, recurses := true, named := ["unicode/utf8.first", "unicode/utf8.acceptRanges"], apart := false, laid := [("unicode/utf8.acceptRanges", laid_unicode_utf8_acceptRanges), ("unicode/utf8.first", laid_unicode_utf8_first)] }
def DirListsSaid : Prop := dirListsRow.holds Tryd.pinned (OpenSpec.ofChange dirListsSpec)

/-- ITS FALSE NEIGHBOUR: 'it returns false'. Refute it at one input. -/
def dirListsWrong : ChangeSpec := { name := "dirLists", fn := fun _ => fun
  | [d1, d2, d3, d4] => { results := [.lit (.bool false)], args := [d1, d2, d3, d4] }
  | _ => none }
def DirListsWrongFalsely : Prop := dirListsRow.holds Tryd.pinned (OpenSpec.ofChange dirListsWrong)

/-- 'refectorylaw15.DirPages': WHATEVER THE INPUT: true; the input reads as it did. -/
def dirPagesSpec : ChangeSpec := { name := "dirPages", fn := fun _ => fun
  | [d1, d2] => { results := [.lit (.bool true)], args := [d1, d2] }
  | _ => none }
def dirPagesRow : OpenClaim := { program := "ytkdjkndnilmjmaadoor", sum := "e919830f76da00fea9ec9ef6334259e1aa072ab8cd279ff2fa771cab08bd7408", func := "refectory/refectorylaw15.DirPages", spec := "dirPages", inPlace := ["internal/abi.NoEscape", "slices.overlaps[string]"], unfollowed := true, recurses := true, named := ["unicode/utf8.first", "unicode/utf8.acceptRanges"], apart := false, laid := [("unicode/utf8.acceptRanges", laid_unicode_utf8_acceptRanges), ("unicode/utf8.first", laid_unicode_utf8_first)] }
def DirPagesSaid : Prop := dirPagesRow.holds Tryd.pinned (OpenSpec.ofChange dirPagesSpec)

/-- ITS FALSE NEIGHBOUR: 'it returns false'. Refute it at one input. -/
def dirPagesWrong : ChangeSpec := { name := "dirPages", fn := fun _ => fun
  | [d1, d2] => { results := [.lit (.bool false)], args := [d1, d2] }
  | _ => none }
def DirPagesWrongFalsely : Prop := dirPagesRow.holds Tryd.pinned (OpenSpec.ofChange dirPagesWrong)

/-- 'refectorylaw15.DirBack': WHATEVER THE INPUT: true; the input reads as it did. -/
def dirBackSpec : ChangeSpec := { name := "dirBack", fn := fun _ => fun
  | [d1, d2, d3] => { results := [.lit (.bool true)], args := [d1, d2, d3] }
  | _ => none }
def dirBackRow : OpenClaim := { program := "ytkdjkndnilmjmaadoor", sum := "e919830f76da00fea9ec9ef6334259e1aa072ab8cd279ff2fa771cab08bd7408", func := "refectory/refectorylaw15.DirBack", spec := "dirBack", inPlace := ["internal/abi.NoEscape", "slices.overlaps[string]"], unfollowed := true, recurses := true, named := ["unicode/utf8.first", "unicode/utf8.acceptRanges"], apart := false, laid := [("unicode/utf8.acceptRanges", laid_unicode_utf8_acceptRanges), ("unicode/utf8.first", laid_unicode_utf8_first)] }
def DirBackSaid : Prop := dirBackRow.holds Tryd.pinned (OpenSpec.ofChange dirBackSpec)

/-- ITS FALSE NEIGHBOUR: 'it returns false'. Refute it at one input. -/
def dirBackWrong : ChangeSpec := { name := "dirBack", fn := fun _ => fun
  | [d1, d2, d3] => { results := [.lit (.bool false)], args := [d1, d2, d3] }
  | _ => none }
def DirBackWrongFalsely : Prop := dirBackRow.holds Tryd.pinned (OpenSpec.ofChange dirBackWrong)

/-- 'refectorylaw15.DirRenames': WHATEVER THE INPUT: true; the input reads as it did. -/
def dirRenamesSpec : ChangeSpec := { name := "dirRenames", fn := fun _ => fun
  | [d1, d2, d3, d4] => { results := [.lit (.bool true)], args := [d1, d2, d3, d4] }
  | _ => none }
def dirRenamesRow : OpenClaim := { program := "ytkdjkndnilmjmaadoor", sum := "e919830f76da00fea9ec9ef6334259e1aa072ab8cd279ff2fa771cab08bd7408", func := "refectory/refectorylaw15.DirRenames", spec := "dirRenames", inPlace := ["internal/abi.NoEscape", "slices.overlaps[string]"], unfollowed := true, recurses := true, named := ["unicode/utf8.first", "unicode/utf8.acceptRanges"], apart := false, laid := [("unicode/utf8.acceptRanges", laid_unicode_utf8_acceptRanges), ("unicode/utf8.first", laid_unicode_utf8_first)] }
def DirRenamesSaid : Prop := dirRenamesRow.holds Tryd.pinned (OpenSpec.ofChange dirRenamesSpec)

/-- ITS FALSE NEIGHBOUR: 'it returns false'. Refute it at one input. -/
def dirRenamesWrong : ChangeSpec := { name := "dirRenames", fn := fun _ => fun
  | [d1, d2, d3, d4] => { results := [.lit (.bool false)], args := [d1, d2, d3, d4] }
  | _ => none }
def DirRenamesWrongFalsely : Prop := dirRenamesRow.holds Tryd.pinned (OpenSpec.ofChange dirRenamesWrong)

/-- 'refectorylaw15.DirFresh': WHATEVER THE INPUT: true; the input reads as it did. -/
def dirFreshSpec : ChangeSpec := { name := "dirFresh", fn := fun _ => fun
  | [d] => { results := [.lit (.bool true)], args := [d] }
  | _ => none }
def dirFreshRow : OpenClaim := { program := "ytkdjkndnilmjmaadoor", sum := "e919830f76da00fea9ec9ef6334259e1aa072ab8cd279ff2fa771cab08bd7408", func := "refectory/refectorylaw15.DirFresh", spec := "dirFresh", inPlace := ["internal/abi.NoEscape", "slices.overlaps[string]"], unfollowed := true, recurses := true, named := ["unicode/utf8.first", "unicode/utf8.acceptRanges"], apart := false, laid := [("unicode/utf8.acceptRanges", laid_unicode_utf8_acceptRanges), ("unicode/utf8.first", laid_unicode_utf8_first)] }
def DirFreshSaid : Prop := dirFreshRow.holds Tryd.pinned (OpenSpec.ofChange dirFreshSpec)

/-- ITS FALSE NEIGHBOUR: 'it returns false'. Refute it at one input. -/
def dirFreshWrong : ChangeSpec := { name := "dirFresh", fn := fun _ => fun
  | [d] => { results := [.lit (.bool false)], args := [d] }
  | _ => none }
def DirFreshWrongFalsely : Prop := dirFreshRow.holds Tryd.pinned (OpenSpec.ofChange dirFreshWrong)

/-- 'refectorylaw15.DirNil': WHATEVER THE INPUT: true; the input reads as it did. -/
def dirNilSpec : ChangeSpec := { name := "dirNil", fn := fun _ => fun
  | [d1, d2, d3, d4] => { results := [.lit (.bool true)], args := [d1, d2, d3, d4] }
  | _ => none }
def dirNilRow : OpenClaim := { program := "ytkdjkndnilmjmaadoor", sum := "e919830f76da00fea9ec9ef6334259e1aa072ab8cd279ff2fa771cab08bd7408", func := "refectory/refectorylaw15.DirNil", spec := "dirNil", inPlace := ["internal/abi.NoEscape", "slices.overlaps[string]"], unfollowed := true, recurses := true, named := ["unicode/utf8.first", "unicode/utf8.acceptRanges"], apart := false, laid := [("unicode/utf8.acceptRanges", laid_unicode_utf8_acceptRanges), ("unicode/utf8.first", laid_unicode_utf8_first)] }
def DirNilSaid : Prop := dirNilRow.holds Tryd.pinned (OpenSpec.ofChange dirNilSpec)

/-- ITS FALSE NEIGHBOUR: 'it returns false'. Refute it at one input. -/
def dirNilWrong : ChangeSpec := { name := "dirNil", fn := fun _ => fun
  | [d1, d2, d3, d4] => { results := [.lit (.bool false)], args := [d1, d2, d3, d4] }
  | _ => none }
def DirNilWrongFalsely : Prop := dirNilRow.holds Tryd.pinned (OpenSpec.ofChange dirNilWrong)

/- THE SECOND FORM. 'bulk': how many values and letters a reading holds, each counted each time it is reached (what is shared counts as often as it is met; a slice's spare places count too). A statement '..UptoSaid' is the law's where the arguments, and the package variables that the reading takes, are together of bulk at most 1048576: NARROWER than '..Said'. Prove '..Said' where nothing that the law and all that it calls make is longer than what came in: it says more and counts as full. Else prove '..UptoSaid'. A law counts once. -/
mutual
def uptoBulk {H : Type} : DataW H → Nat
  | .lit (.string bytes) => bytes.length + 1
  | .lit _ => 1
  | .nil => 1
  | .ptr d => uptoBulk d + 1
  | .slice elems spare => uptoBulkAll elems + uptoBulkAll spare + 1
  | .agg parts => uptoBulkAll parts + 1
  | .iface _ d => uptoBulk d + 1
  | .map entries => uptoBulkEntries entries + 1
  | .held _ => 1
def uptoBulkAll {H : Type} : List (DataW H) → Nat
  | [] => 0
  | d :: r => uptoBulk d + uptoBulkAll r
def uptoBulkEntries {H : Type} : List (Lit × DataW H) → Nat
  | [] => 0
  | x :: r => uptoBulkEntry x + uptoBulkEntries r
def uptoBulkEntry {H : Type} : Lit × DataW H → Nat
  | (.string bytes, d) => bytes.length + uptoBulk d + 1
  | (_, d) => uptoBulk d + 1
 end
def uptoSmall : (H : Type) → List (DataW H) → Bool := fun _ ds => decide (uptoBulkAll ds ≤ 1048576)
def OpenSpec.upto (s : _root_.Go.ChangeSpec) : _root_.Go.OpenSpec := { _root_.Go.OpenSpec.ofChange s with cond := some uptoSmall }

/-- 'refectorylaw15.DirPlays', WHERE WHAT IT READS IS OF BULK AT MOST 1048576: true; the input reads as it did. -/
def dirPlaysUptoRow : OpenClaim := { program := "ytkdjkndnilmjmaadoor", sum := "e919830f76da00fea9ec9ef6334259e1aa072ab8cd279ff2fa771cab08bd7408", func := "refectory/refectorylaw15.DirPlays", spec := "dirPlays", inPlace := ["internal/abi.NoEscape", "slices.overlaps[string]"], unfollowed := true, recurses := true, named := ["unicode/utf8.first", "unicode/utf8.acceptRanges"], apart := false, laid := [("unicode/utf8.acceptRanges", laid_unicode_utf8_acceptRanges), ("unicode/utf8.first", laid_unicode_utf8_first)], narrowed := true }
def DirPlaysUptoSaid : Prop := dirPlaysUptoRow.holds Tryd.pinned (OpenSpec.upto dirPlaysSpec)

/-- 'refectorylaw15.DirLists', WHERE WHAT IT READS IS OF BULK AT MOST 1048576: true; the input reads as it did. -/
def dirListsUptoRow : OpenClaim := { program := "ytkdjkndnilmjmaadoor", sum := "e919830f76da00fea9ec9ef6334259e1aa072ab8cd279ff2fa771cab08bd7408", func := "refectory/refectorylaw15.DirLists", spec := "dirLists", inPlace := ["internal/abi.NoEscape", "slices.overlaps[string]"], unfollowed := true, recurses := true, named := ["unicode/utf8.first", "unicode/utf8.acceptRanges"], apart := false, laid := [("unicode/utf8.acceptRanges", laid_unicode_utf8_acceptRanges), ("unicode/utf8.first", laid_unicode_utf8_first)], narrowed := true }
def DirListsUptoSaid : Prop := dirListsUptoRow.holds Tryd.pinned (OpenSpec.upto dirListsSpec)

/-- 'refectorylaw15.DirPages', WHERE WHAT IT READS IS OF BULK AT MOST 1048576: true; the input reads as it did. -/
def dirPagesUptoRow : OpenClaim := { program := "ytkdjkndnilmjmaadoor", sum := "e919830f76da00fea9ec9ef6334259e1aa072ab8cd279ff2fa771cab08bd7408", func := "refectory/refectorylaw15.DirPages", spec := "dirPages", inPlace := ["internal/abi.NoEscape", "slices.overlaps[string]"], unfollowed := true, recurses := true, named := ["unicode/utf8.first", "unicode/utf8.acceptRanges"], apart := false, laid := [("unicode/utf8.acceptRanges", laid_unicode_utf8_acceptRanges), ("unicode/utf8.first", laid_unicode_utf8_first)], narrowed := true }
def DirPagesUptoSaid : Prop := dirPagesUptoRow.holds Tryd.pinned (OpenSpec.upto dirPagesSpec)

/-- 'refectorylaw15.DirBack', WHERE WHAT IT READS IS OF BULK AT MOST 1048576: true; the input reads as it did. -/
def dirBackUptoRow : OpenClaim := { program := "ytkdjkndnilmjmaadoor", sum := "e919830f76da00fea9ec9ef6334259e1aa072ab8cd279ff2fa771cab08bd7408", func := "refectory/refectorylaw15.DirBack", spec := "dirBack", inPlace := ["internal/abi.NoEscape", "slices.overlaps[string]"], unfollowed := true, recurses := true, named := ["unicode/utf8.first", "unicode/utf8.acceptRanges"], apart := false, laid := [("unicode/utf8.acceptRanges", laid_unicode_utf8_acceptRanges), ("unicode/utf8.first", laid_unicode_utf8_first)], narrowed := true }
def DirBackUptoSaid : Prop := dirBackUptoRow.holds Tryd.pinned (OpenSpec.upto dirBackSpec)

/-- 'refectorylaw15.DirRenames', WHERE WHAT IT READS IS OF BULK AT MOST 1048576: true; the input reads as it did. -/
def dirRenamesUptoRow : OpenClaim := { program := "ytkdjkndnilmjmaadoor", sum := "e919830f76da00fea9ec9ef6334259e1aa072ab8cd279ff2fa771cab08bd7408", func := "refectory/refectorylaw15.DirRenames", spec := "dirRenames", inPlace := ["internal/abi.NoEscape", "slices.overlaps[string]"], unfollowed := true, recurses := true, named := ["unicode/utf8.first", "unicode/utf8.acceptRanges"], apart := false, laid := [("unicode/utf8.acceptRanges", laid_unicode_utf8_acceptRanges), ("unicode/utf8.first", laid_unicode_utf8_first)], narrowed := true }
def DirRenamesUptoSaid : Prop := dirRenamesUptoRow.holds Tryd.pinned (OpenSpec.upto dirRenamesSpec)

/-- 'refectorylaw15.DirFresh', WHERE WHAT IT READS IS OF BULK AT MOST 1048576: true; the input reads as it did. -/
def dirFreshUptoRow : OpenClaim := { program := "ytkdjkndnilmjmaadoor", sum := "e919830f76da00fea9ec9ef6334259e1aa072ab8cd279ff2fa771cab08bd7408", func := "refectory/refectorylaw15.DirFresh", spec := "dirFresh", inPlace := ["internal/abi.NoEscape", "slices.overlaps[string]"], unfollowed := true, recurses := true, named := ["unicode/utf8.first", "unicode/utf8.acceptRanges"], apart := false, laid := [("unicode/utf8.acceptRanges", laid_unicode_utf8_acceptRanges), ("unicode/utf8.first", laid_unicode_utf8_first)], narrowed := true }
def DirFreshUptoSaid : Prop := dirFreshUptoRow.holds Tryd.pinned (OpenSpec.upto dirFreshSpec)

/-- 'refectorylaw15.DirNil', WHERE WHAT IT READS IS OF BULK AT MOST 1048576: true; the input reads as it did. -/
def dirNilUptoRow : OpenClaim := { program := "ytkdjkndnilmjmaadoor", sum := "e919830f76da00fea9ec9ef6334259e1aa072ab8cd279ff2fa771cab08bd7408", func := "refectory/refectorylaw15.DirNil", spec := "dirNil", inPlace := ["internal/abi.NoEscape", "slices.overlaps[string]"], unfollowed := true, recurses := true, named := ["unicode/utf8.first", "unicode/utf8.acceptRanges"], apart := false, laid := [("unicode/utf8.acceptRanges", laid_unicode_utf8_acceptRanges), ("unicode/utf8.first", laid_unicode_utf8_first)], narrowed := true }
def DirNilUptoSaid : Prop := dirNilUptoRow.holds Tryd.pinned (OpenSpec.upto dirNilSpec)

end Rows
end Go.Proofs.YtkdjkndnilmjmaaDoor
