/-
  No cell of these rows narrows 'for every input' (looked for: loops, veiled, ifaces, maps, wideKeys, modest, calm, conditions, laid).
  DERIVED. THE GIVEN ROWS OF THIS SEAT. 8 by the template 'for every input the law returns true; each argument reads behind the call as it read before'; 0 by the template 'total and deterministic' (their statements: YtjochldpacgcgaaTotals.lean).
  GIVEN WITH THE SEED: the statements are not yours to turn. If you find one false, say at which input.
  Laid BY PROGRAM, IN A SANDBOX (cutbox-rows.mjs): the forced cells as the released guide's own fill.sh prints them over the translation 6cdfaa3b162a83f7… (all of the seat's roots in one cut). By AI agents, Wed Nov 11 2026. No macro, syntax, notation, axiom, sorry.
-/
import Derived.Test.YtjochldpacgcgaaChecked
import GoSem.Claim
import GoSem.ClaimJoined
import GoSem.ClaimMapViews
import Derived.JoinedTies
import Derived.KernelRfl
namespace Go.Proofs.Ytjochldpacgcgaa
/- THE CELL 'sum', in the pinned program and in every row, IS THE sha256 OF THE DUMP (.gsa) THAT YtjochldpacgcgaaProg.lean LOADS. Nothing in Lean hashes anything: it is a label: what it is worth is what the hold of that sum in a sandbox is worth. -/
noncomputable def Try.pinned : Pinned := { name := "ytjochldpacgcgaa", sum := "6cdfaa3b162a83f7ff9c0325e79167237482b137e58c361e03c34d2cf8144771", checked := Try.checked }
namespace Rows
def none {H : Type} : Left H := { results := [], args := [] }

/-- 'refectorylaw14.ExtentPlays': WHATEVER THE INPUT: true; the input reads as it did. -/
def extentPlaysSpec : ChangeSpec := { name := "extentPlays", fn := fun _ => fun
  | [d] => { results := [.lit (.bool true)], args := [d] }
  | _ => none }
def extentPlaysRow : OpenClaim := { program := "ytjochldpacgcgaa", sum := "6cdfaa3b162a83f7ff9c0325e79167237482b137e58c361e03c34d2cf8144771", func := "refectory/refectorylaw14.ExtentPlays", spec := "extentPlays", inPlace := ["slices.overlaps[refectory/api.Extent]"], unfollowed := true, recurses := true, apart := false }
def ExtentPlaysSaid : Prop := extentPlaysRow.holds Try.pinned (OpenSpec.ofChange extentPlaysSpec)

/-- ITS FALSE NEIGHBOUR: 'it returns false'. Refute it at one input. -/
def extentPlaysWrong : ChangeSpec := { name := "extentPlays", fn := fun _ => fun
  | [d] => { results := [.lit (.bool false)], args := [d] }
  | _ => none }
def ExtentPlaysWrongFalsely : Prop := extentPlaysRow.holds Try.pinned (OpenSpec.ofChange extentPlaysWrong)

/-- 'refectorylaw14.ExtentReads': WHATEVER THE INPUT: true; the input reads as it did. -/
def extentReadsSpec : ChangeSpec := { name := "extentReads", fn := fun _ => fun
  | [d1, d2, d3] => { results := [.lit (.bool true)], args := [d1, d2, d3] }
  | _ => none }
def extentReadsRow : OpenClaim := { program := "ytjochldpacgcgaa", sum := "6cdfaa3b162a83f7ff9c0325e79167237482b137e58c361e03c34d2cf8144771", func := "refectory/refectorylaw14.ExtentReads", spec := "extentReads", inPlace := ["slices.overlaps[refectory/api.Extent]"], unfollowed := true, recurses := true, apart := false }
def ExtentReadsSaid : Prop := extentReadsRow.holds Try.pinned (OpenSpec.ofChange extentReadsSpec)

/-- ITS FALSE NEIGHBOUR: 'it returns false'. Refute it at one input. -/
def extentReadsWrong : ChangeSpec := { name := "extentReads", fn := fun _ => fun
  | [d1, d2, d3] => { results := [.lit (.bool false)], args := [d1, d2, d3] }
  | _ => none }
def ExtentReadsWrongFalsely : Prop := extentReadsRow.holds Try.pinned (OpenSpec.ofChange extentReadsWrong)

/-- 'refectorylaw14.ExtentBack': WHATEVER THE INPUT: true; the input reads as it did. -/
def extentBackSpec : ChangeSpec := { name := "extentBack", fn := fun _ => fun
  | [d1, d2, d3] => { results := [.lit (.bool true)], args := [d1, d2, d3] }
  | _ => none }
def extentBackRow : OpenClaim := { program := "ytjochldpacgcgaa", sum := "6cdfaa3b162a83f7ff9c0325e79167237482b137e58c361e03c34d2cf8144771", func := "refectory/refectorylaw14.ExtentBack", spec := "extentBack", inPlace := ["slices.overlaps[refectory/api.Extent]"], unfollowed := true, recurses := true, apart := false }
def ExtentBackSaid : Prop := extentBackRow.holds Try.pinned (OpenSpec.ofChange extentBackSpec)

/-- ITS FALSE NEIGHBOUR: 'it returns false'. Refute it at one input. -/
def extentBackWrong : ChangeSpec := { name := "extentBack", fn := fun _ => fun
  | [d1, d2, d3] => { results := [.lit (.bool false)], args := [d1, d2, d3] }
  | _ => none }
def ExtentBackWrongFalsely : Prop := extentBackRow.holds Try.pinned (OpenSpec.ofChange extentBackWrong)

/-- 'refectorylaw14.ExtentApart': WHATEVER THE INPUT: true; the input reads as it did. -/
def extentApartSpec : ChangeSpec := { name := "extentApart", fn := fun _ => fun
  | [d] => { results := [.lit (.bool true)], args := [d] }
  | _ => none }
def extentApartRow : OpenClaim := { program := "ytjochldpacgcgaa", sum := "6cdfaa3b162a83f7ff9c0325e79167237482b137e58c361e03c34d2cf8144771", func := "refectory/refectorylaw14.ExtentApart", spec := "extentApart", inPlace := ["slices.overlaps[refectory/api.Extent]"], unfollowed := true, recurses := true, apart := false }
def ExtentApartSaid : Prop := extentApartRow.holds Try.pinned (OpenSpec.ofChange extentApartSpec)

/-- ITS FALSE NEIGHBOUR: 'it returns false'. Refute it at one input. -/
def extentApartWrong : ChangeSpec := { name := "extentApart", fn := fun _ => fun
  | [d] => { results := [.lit (.bool false)], args := [d] }
  | _ => none }
def ExtentApartWrongFalsely : Prop := extentApartRow.holds Try.pinned (OpenSpec.ofChange extentApartWrong)

/-- 'refectorylaw14.ExtentCuts': WHATEVER THE INPUT: true; the input reads as it did. -/
def extentCutsSpec : ChangeSpec := { name := "extentCuts", fn := fun _ => fun
  | [d1, d2, d3] => { results := [.lit (.bool true)], args := [d1, d2, d3] }
  | _ => none }
def extentCutsRow : OpenClaim := { program := "ytjochldpacgcgaa", sum := "6cdfaa3b162a83f7ff9c0325e79167237482b137e58c361e03c34d2cf8144771", func := "refectory/refectorylaw14.ExtentCuts", spec := "extentCuts", inPlace := ["slices.overlaps[refectory/api.Extent]"], unfollowed := true, recurses := true, apart := false }
def ExtentCutsSaid : Prop := extentCutsRow.holds Try.pinned (OpenSpec.ofChange extentCutsSpec)

/-- ITS FALSE NEIGHBOUR: 'it returns false'. Refute it at one input. -/
def extentCutsWrong : ChangeSpec := { name := "extentCuts", fn := fun _ => fun
  | [d1, d2, d3] => { results := [.lit (.bool false)], args := [d1, d2, d3] }
  | _ => none }
def ExtentCutsWrongFalsely : Prop := extentCutsRow.holds Try.pinned (OpenSpec.ofChange extentCutsWrong)

/-- 'refectorylaw14.ExtentFresh': WHATEVER THE INPUT: true; the input reads as it did. -/
def extentFreshSpec : ChangeSpec := { name := "extentFresh", fn := fun _ => fun
  | [d1, d2] => { results := [.lit (.bool true)], args := [d1, d2] }
  | _ => none }
def extentFreshRow : OpenClaim := { program := "ytjochldpacgcgaa", sum := "6cdfaa3b162a83f7ff9c0325e79167237482b137e58c361e03c34d2cf8144771", func := "refectory/refectorylaw14.ExtentFresh", spec := "extentFresh", inPlace := ["slices.overlaps[refectory/api.Extent]"], unfollowed := true, recurses := true, apart := false }
def ExtentFreshSaid : Prop := extentFreshRow.holds Try.pinned (OpenSpec.ofChange extentFreshSpec)

/-- ITS FALSE NEIGHBOUR: 'it returns false'. Refute it at one input. -/
def extentFreshWrong : ChangeSpec := { name := "extentFresh", fn := fun _ => fun
  | [d1, d2] => { results := [.lit (.bool false)], args := [d1, d2] }
  | _ => none }
def ExtentFreshWrongFalsely : Prop := extentFreshRow.holds Try.pinned (OpenSpec.ofChange extentFreshWrong)

/-- 'refectorylaw14.ExtentCopy': WHATEVER THE INPUT: true; the input reads as it did. -/
def extentCopySpec : ChangeSpec := { name := "extentCopy", fn := fun _ => fun
  | [d1, d2, d3] => { results := [.lit (.bool true)], args := [d1, d2, d3] }
  | _ => none }
def extentCopyRow : OpenClaim := { program := "ytjochldpacgcgaa", sum := "6cdfaa3b162a83f7ff9c0325e79167237482b137e58c361e03c34d2cf8144771", func := "refectory/refectorylaw14.ExtentCopy", spec := "extentCopy", inPlace := ["slices.overlaps[refectory/api.Extent]"], unfollowed := true, recurses := true, apart := false }
def ExtentCopySaid : Prop := extentCopyRow.holds Try.pinned (OpenSpec.ofChange extentCopySpec)

/-- ITS FALSE NEIGHBOUR: 'it returns false'. Refute it at one input. -/
def extentCopyWrong : ChangeSpec := { name := "extentCopy", fn := fun _ => fun
  | [d1, d2, d3] => { results := [.lit (.bool false)], args := [d1, d2, d3] }
  | _ => none }
def ExtentCopyWrongFalsely : Prop := extentCopyRow.holds Try.pinned (OpenSpec.ofChange extentCopyWrong)

/-- 'refectorylaw14.ExtentNil': WHATEVER THE INPUT: true; the input reads as it did. -/
def extentNilSpec : ChangeSpec := { name := "extentNil", fn := fun _ => fun
  | [d1, d2, d3, d4] => { results := [.lit (.bool true)], args := [d1, d2, d3, d4] }
  | _ => none }
def extentNilRow : OpenClaim := { program := "ytjochldpacgcgaa", sum := "6cdfaa3b162a83f7ff9c0325e79167237482b137e58c361e03c34d2cf8144771", func := "refectory/refectorylaw14.ExtentNil", spec := "extentNil", inPlace := ["slices.overlaps[refectory/api.Extent]"], unfollowed := true, recurses := true, apart := false }
def ExtentNilSaid : Prop := extentNilRow.holds Try.pinned (OpenSpec.ofChange extentNilSpec)

/-- ITS FALSE NEIGHBOUR: 'it returns false'. Refute it at one input. -/
def extentNilWrong : ChangeSpec := { name := "extentNil", fn := fun _ => fun
  | [d1, d2, d3, d4] => { results := [.lit (.bool false)], args := [d1, d2, d3, d4] }
  | _ => none }
def ExtentNilWrongFalsely : Prop := extentNilRow.holds Try.pinned (OpenSpec.ofChange extentNilWrong)

/- THE SECOND FORM. 'bulk': how many values and letters a reading holds, each counted each time it is reached (what is shared counts as often as it is met; a slice's spare places count too). A statement '..UptoSaid' is the law's where the arguments, and the package variables that the reading takes, are together of bulk at most 1048576: NARROWER than '..Said'. Prove '..Said' where nothing that the law and all that it calls make is longer than what came in: it says more and counts as full. Else prove '..UptoSaid'. A law counts once. -/
mutual
def uptoBulk {H : Type} : DataW H → Nat
  | .lit (.string bytes) => bytes.length + 1
  | .lit _ => 1
  | .nil => 1
  | .ptr d => uptoBulk d + 1
  | .slice elems spare => uptoBulkAll elems + uptoBulkAll spare + 1
  | .agg parts => uptoBulkAll parts + 1
  | .iface _ d => uptoBulk d + 1
  | .map entries => uptoBulkEntries entries + 1
  | .held _ => 1
def uptoBulkAll {H : Type} : List (DataW H) → Nat
  | [] => 0
  | d :: r => uptoBulk d + uptoBulkAll r
def uptoBulkEntries {H : Type} : List (Lit × DataW H) → Nat
  | [] => 0
  | x :: r => uptoBulkEntry x + uptoBulkEntries r
def uptoBulkEntry {H : Type} : Lit × DataW H → Nat
  | (.string bytes, d) => bytes.length + uptoBulk d + 1
  | (_, d) => uptoBulk d + 1
 end
def uptoSmall : (H : Type) → List (DataW H) → Bool := fun _ ds => decide (uptoBulkAll ds ≤ 1048576)
def OpenSpec.upto (s : _root_.Go.ChangeSpec) : _root_.Go.OpenSpec := { _root_.Go.OpenSpec.ofChange s with cond := some uptoSmall }

/-- 'refectorylaw14.ExtentPlays', WHERE WHAT IT READS IS OF BULK AT MOST 1048576: true; the input reads as it did. -/
def extentPlaysUptoRow : OpenClaim := { program := "ytjochldpacgcgaa", sum := "6cdfaa3b162a83f7ff9c0325e79167237482b137e58c361e03c34d2cf8144771", func := "refectory/refectorylaw14.ExtentPlays", spec := "extentPlays", inPlace := ["slices.overlaps[refectory/api.Extent]"], unfollowed := true, recurses := true, apart := false, narrowed := true }
def ExtentPlaysUptoSaid : Prop := extentPlaysUptoRow.holds Try.pinned (OpenSpec.upto extentPlaysSpec)

/-- 'refectorylaw14.ExtentReads', WHERE WHAT IT READS IS OF BULK AT MOST 1048576: true; the input reads as it did. -/
def extentReadsUptoRow : OpenClaim := { program := "ytjochldpacgcgaa", sum := "6cdfaa3b162a83f7ff9c0325e79167237482b137e58c361e03c34d2cf8144771", func := "refectory/refectorylaw14.ExtentReads", spec := "extentReads", inPlace := ["slices.overlaps[refectory/api.Extent]"], unfollowed := true, recurses := true, apart := false, narrowed := true }
def ExtentReadsUptoSaid : Prop := extentReadsUptoRow.holds Try.pinned (OpenSpec.upto extentReadsSpec)

/-- 'refectorylaw14.ExtentBack', WHERE WHAT IT READS IS OF BULK AT MOST 1048576: true; the input reads as it did. -/
def extentBackUptoRow : OpenClaim := { program := "ytjochldpacgcgaa", sum := "6cdfaa3b162a83f7ff9c0325e79167237482b137e58c361e03c34d2cf8144771", func := "refectory/refectorylaw14.ExtentBack", spec := "extentBack", inPlace := ["slices.overlaps[refectory/api.Extent]"], unfollowed := true, recurses := true, apart := false, narrowed := true }
def ExtentBackUptoSaid : Prop := extentBackUptoRow.holds Try.pinned (OpenSpec.upto extentBackSpec)

/-- 'refectorylaw14.ExtentApart', WHERE WHAT IT READS IS OF BULK AT MOST 1048576: true; the input reads as it did. -/
def extentApartUptoRow : OpenClaim := { program := "ytjochldpacgcgaa", sum := "6cdfaa3b162a83f7ff9c0325e79167237482b137e58c361e03c34d2cf8144771", func := "refectory/refectorylaw14.ExtentApart", spec := "extentApart", inPlace := ["slices.overlaps[refectory/api.Extent]"], unfollowed := true, recurses := true, apart := false, narrowed := true }
def ExtentApartUptoSaid : Prop := extentApartUptoRow.holds Try.pinned (OpenSpec.upto extentApartSpec)

/-- 'refectorylaw14.ExtentCuts', WHERE WHAT IT READS IS OF BULK AT MOST 1048576: true; the input reads as it did. -/
def extentCutsUptoRow : OpenClaim := { program := "ytjochldpacgcgaa", sum := "6cdfaa3b162a83f7ff9c0325e79167237482b137e58c361e03c34d2cf8144771", func := "refectory/refectorylaw14.ExtentCuts", spec := "extentCuts", inPlace := ["slices.overlaps[refectory/api.Extent]"], unfollowed := true, recurses := true, apart := false, narrowed := true }
def ExtentCutsUptoSaid : Prop := extentCutsUptoRow.holds Try.pinned (OpenSpec.upto extentCutsSpec)

/-- 'refectorylaw14.ExtentFresh', WHERE WHAT IT READS IS OF BULK AT MOST 1048576: true; the input reads as it did. -/
def extentFreshUptoRow : OpenClaim := { program := "ytjochldpacgcgaa", sum := "6cdfaa3b162a83f7ff9c0325e79167237482b137e58c361e03c34d2cf8144771", func := "refectory/refectorylaw14.ExtentFresh", spec := "extentFresh", inPlace := ["slices.overlaps[refectory/api.Extent]"], unfollowed := true, recurses := true, apart := false, narrowed := true }
def ExtentFreshUptoSaid : Prop := extentFreshUptoRow.holds Try.pinned (OpenSpec.upto extentFreshSpec)

/-- 'refectorylaw14.ExtentCopy', WHERE WHAT IT READS IS OF BULK AT MOST 1048576: true; the input reads as it did. -/
def extentCopyUptoRow : OpenClaim := { program := "ytjochldpacgcgaa", sum := "6cdfaa3b162a83f7ff9c0325e79167237482b137e58c361e03c34d2cf8144771", func := "refectory/refectorylaw14.ExtentCopy", spec := "extentCopy", inPlace := ["slices.overlaps[refectory/api.Extent]"], unfollowed := true, recurses := true, apart := false, narrowed := true }
def ExtentCopyUptoSaid : Prop := extentCopyUptoRow.holds Try.pinned (OpenSpec.upto extentCopySpec)

/-- 'refectorylaw14.ExtentNil', WHERE WHAT IT READS IS OF BULK AT MOST 1048576: true; the input reads as it did. -/
def extentNilUptoRow : OpenClaim := { program := "ytjochldpacgcgaa", sum := "6cdfaa3b162a83f7ff9c0325e79167237482b137e58c361e03c34d2cf8144771", func := "refectory/refectorylaw14.ExtentNil", spec := "extentNil", inPlace := ["slices.overlaps[refectory/api.Extent]"], unfollowed := true, recurses := true, apart := false, narrowed := true }
def ExtentNilUptoSaid : Prop := extentNilUptoRow.holds Try.pinned (OpenSpec.upto extentNilSpec)

end Rows
end Go.Proofs.Ytjochldpacgcgaa
