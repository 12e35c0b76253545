/-
  No cell of these rows narrows 'for every input' (looked for: loops, veiled, ifaces, maps, wideKeys, modest, calm, conditions, laid).
  DERIVED. THE GIVEN ROWS OF THIS SEAT. 8 by the template 'for every input the law returns true; each argument reads behind the call as it read before'; 0 by the template 'total and deterministic' (their statements: YtbnkiefchbcfgaaTotals.lean).
  GIVEN WITH THE SEED: the statements are not yours to turn. If you find one false, say at which input.
  Laid BY PROGRAM, IN A SANDBOX (cutbox-rows.mjs): the forced cells as the released guide's own fill.sh prints them over the translation 3fc2e7d96d9b8249… (all of the seat's roots in one cut). By AI agents, Wed Nov 11 2026. No macro, syntax, notation, axiom, sorry.
-/
import Derived.Test.YtbnkiefchbcfgaaChecked
import GoSem.Claim
import GoSem.ClaimJoined
import GoSem.ClaimMapViews
import Derived.JoinedTies
import Derived.KernelRfl
namespace Go.Proofs.Ytbnkiefchbcfgaa
/- THE CELL 'sum', in the pinned program and in every row, IS THE sha256 OF THE DUMP (.gsa) THAT YtbnkiefchbcfgaaProg.lean LOADS. Nothing in Lean hashes anything: it is a label: what it is worth is what the hold of that sum in a sandbox is worth. -/
noncomputable def Try.pinned : Pinned := { name := "ytbnkiefchbcfgaa", sum := "3fc2e7d96d9b8249f4bb20794fe9a2b7c90e83aa78bfee836e666a01a5254a74", checked := Try.checked }
namespace Rows
def none {H : Type} : Left H := { results := [], args := [] }

/-- 'refectorylaw26.CacheOpen': WHATEVER THE INPUT: true; the input reads as it did. -/
def cacheOpenSpec : ChangeSpec := { name := "cacheOpen", fn := fun _ => fun
  | [d1, d2] => { results := [.lit (.bool true)], args := [d1, d2] }
  | _ => none }
def cacheOpenRow : OpenClaim := { program := "ytbnkiefchbcfgaa", sum := "3fc2e7d96d9b8249f4bb20794fe9a2b7c90e83aa78bfee836e666a01a5254a74", func := "refectory/refectorylaw26.CacheOpen", spec := "cacheOpen", inPlace := ["slices.overlaps[refectory/api.Extent]"], unfollowed := true, recurses := true, apart := false }
def CacheOpenSaid : Prop := cacheOpenRow.holds Try.pinned (OpenSpec.ofChange cacheOpenSpec)

/-- ITS FALSE NEIGHBOUR: 'it returns false'. Refute it at one input. -/
def cacheOpenWrong : ChangeSpec := { name := "cacheOpen", fn := fun _ => fun
  | [d1, d2] => { results := [.lit (.bool false)], args := [d1, d2] }
  | _ => none }
def CacheOpenWrongFalsely : Prop := cacheOpenRow.holds Try.pinned (OpenSpec.ofChange cacheOpenWrong)

/-- 'refectorylaw26.CachePlays': WHATEVER THE INPUT: true; the input reads as it did. -/
def cachePlaysSpec : ChangeSpec := { name := "cachePlays", fn := fun _ => fun
  | [d1, d2, d3] => { results := [.lit (.bool true)], args := [d1, d2, d3] }
  | _ => none }
def cachePlaysRow : OpenClaim := { program := "ytbnkiefchbcfgaa", sum := "3fc2e7d96d9b8249f4bb20794fe9a2b7c90e83aa78bfee836e666a01a5254a74", func := "refectory/refectorylaw26.CachePlays", spec := "cachePlays", inPlace := ["slices.overlaps[refectory/api.Extent]"], unfollowed := true, recurses := true, apart := false }
def CachePlaysSaid : Prop := cachePlaysRow.holds Try.pinned (OpenSpec.ofChange cachePlaysSpec)

/-- ITS FALSE NEIGHBOUR: 'it returns false'. Refute it at one input. -/
def cachePlaysWrong : ChangeSpec := { name := "cachePlays", fn := fun _ => fun
  | [d1, d2, d3] => { results := [.lit (.bool false)], args := [d1, d2, d3] }
  | _ => none }
def CachePlaysWrongFalsely : Prop := cachePlaysRow.holds Try.pinned (OpenSpec.ofChange cachePlaysWrong)

/-- 'refectorylaw26.CacheReads': WHATEVER THE INPUT: true; the input reads as it did. -/
def cacheReadsSpec : ChangeSpec := { name := "cacheReads", fn := fun _ => fun
  | [d1, d2, d3, d4, d5] => { results := [.lit (.bool true)], args := [d1, d2, d3, d4, d5] }
  | _ => none }
def cacheReadsRow : OpenClaim := { program := "ytbnkiefchbcfgaa", sum := "3fc2e7d96d9b8249f4bb20794fe9a2b7c90e83aa78bfee836e666a01a5254a74", func := "refectory/refectorylaw26.CacheReads", spec := "cacheReads", inPlace := ["slices.overlaps[refectory/api.Extent]"], unfollowed := true, recurses := true, apart := false }
def CacheReadsSaid : Prop := cacheReadsRow.holds Try.pinned (OpenSpec.ofChange cacheReadsSpec)

/-- ITS FALSE NEIGHBOUR: 'it returns false'. Refute it at one input. -/
def cacheReadsWrong : ChangeSpec := { name := "cacheReads", fn := fun _ => fun
  | [d1, d2, d3, d4, d5] => { results := [.lit (.bool false)], args := [d1, d2, d3, d4, d5] }
  | _ => none }
def CacheReadsWrongFalsely : Prop := cacheReadsRow.holds Try.pinned (OpenSpec.ofChange cacheReadsWrong)

/-- 'refectorylaw26.CacheLast': WHATEVER THE INPUT: true; the input reads as it did. -/
def cacheLastSpec : ChangeSpec := { name := "cacheLast", fn := fun _ => fun
  | [d1, d2, d3, d4, d5] => { results := [.lit (.bool true)], args := [d1, d2, d3, d4, d5] }
  | _ => none }
def cacheLastRow : OpenClaim := { program := "ytbnkiefchbcfgaa", sum := "3fc2e7d96d9b8249f4bb20794fe9a2b7c90e83aa78bfee836e666a01a5254a74", func := "refectory/refectorylaw26.CacheLast", spec := "cacheLast", inPlace := ["slices.overlaps[refectory/api.Extent]"], unfollowed := true, recurses := true, apart := false }
def CacheLastSaid : Prop := cacheLastRow.holds Try.pinned (OpenSpec.ofChange cacheLastSpec)

/-- ITS FALSE NEIGHBOUR: 'it returns false'. Refute it at one input. -/
def cacheLastWrong : ChangeSpec := { name := "cacheLast", fn := fun _ => fun
  | [d1, d2, d3, d4, d5] => { results := [.lit (.bool false)], args := [d1, d2, d3, d4, d5] }
  | _ => none }
def CacheLastWrongFalsely : Prop := cacheLastRow.holds Try.pinned (OpenSpec.ofChange cacheLastWrong)

/-- 'refectorylaw26.CacheDown': WHATEVER THE INPUT: true; the input reads as it did. -/
def cacheDownSpec : ChangeSpec := { name := "cacheDown", fn := fun _ => fun
  | [d1, d2, d3, d4] => { results := [.lit (.bool true)], args := [d1, d2, d3, d4] }
  | _ => none }
def cacheDownRow : OpenClaim := { program := "ytbnkiefchbcfgaa", sum := "3fc2e7d96d9b8249f4bb20794fe9a2b7c90e83aa78bfee836e666a01a5254a74", func := "refectory/refectorylaw26.CacheDown", spec := "cacheDown", inPlace := ["slices.overlaps[refectory/api.Extent]"], unfollowed := true, recurses := true, apart := false }
def CacheDownSaid : Prop := cacheDownRow.holds Try.pinned (OpenSpec.ofChange cacheDownSpec)

/-- ITS FALSE NEIGHBOUR: 'it returns false'. Refute it at one input. -/
def cacheDownWrong : ChangeSpec := { name := "cacheDown", fn := fun _ => fun
  | [d1, d2, d3, d4] => { results := [.lit (.bool false)], args := [d1, d2, d3, d4] }
  | _ => none }
def CacheDownWrongFalsely : Prop := cacheDownRow.holds Try.pinned (OpenSpec.ofChange cacheDownWrong)

/-- 'refectorylaw26.CachePieces': WHATEVER THE INPUT: true; the input reads as it did. -/
def cachePiecesSpec : ChangeSpec := { name := "cachePieces", fn := fun _ => fun
  | [d1, d2, d3] => { results := [.lit (.bool true)], args := [d1, d2, d3] }
  | _ => none }
def cachePiecesRow : OpenClaim := { program := "ytbnkiefchbcfgaa", sum := "3fc2e7d96d9b8249f4bb20794fe9a2b7c90e83aa78bfee836e666a01a5254a74", func := "refectory/refectorylaw26.CachePieces", spec := "cachePieces", inPlace := ["slices.overlaps[refectory/api.Extent]"], unfollowed := true, recurses := true, apart := false }
def CachePiecesSaid : Prop := cachePiecesRow.holds Try.pinned (OpenSpec.ofChange cachePiecesSpec)

/-- ITS FALSE NEIGHBOUR: 'it returns false'. Refute it at one input. -/
def cachePiecesWrong : ChangeSpec := { name := "cachePieces", fn := fun _ => fun
  | [d1, d2, d3] => { results := [.lit (.bool false)], args := [d1, d2, d3] }
  | _ => none }
def CachePiecesWrongFalsely : Prop := cachePiecesRow.holds Try.pinned (OpenSpec.ofChange cachePiecesWrong)

/-- 'refectorylaw26.CacheFresh': WHATEVER THE INPUT: true; the input reads as it did. -/
def cacheFreshSpec : ChangeSpec := { name := "cacheFresh", fn := fun _ => fun
  | [d1, d2, d3, d4, d5] => { results := [.lit (.bool true)], args := [d1, d2, d3, d4, d5] }
  | _ => none }
def cacheFreshRow : OpenClaim := { program := "ytbnkiefchbcfgaa", sum := "3fc2e7d96d9b8249f4bb20794fe9a2b7c90e83aa78bfee836e666a01a5254a74", func := "refectory/refectorylaw26.CacheFresh", spec := "cacheFresh", inPlace := ["slices.overlaps[refectory/api.Extent]"], unfollowed := true, recurses := true, apart := false }
def CacheFreshSaid : Prop := cacheFreshRow.holds Try.pinned (OpenSpec.ofChange cacheFreshSpec)

/-- ITS FALSE NEIGHBOUR: 'it returns false'. Refute it at one input. -/
def cacheFreshWrong : ChangeSpec := { name := "cacheFresh", fn := fun _ => fun
  | [d1, d2, d3, d4, d5] => { results := [.lit (.bool false)], args := [d1, d2, d3, d4, d5] }
  | _ => none }
def CacheFreshWrongFalsely : Prop := cacheFreshRow.holds Try.pinned (OpenSpec.ofChange cacheFreshWrong)

/-- 'refectorylaw26.CacheNil': WHATEVER THE INPUT: true; the input reads as it did. -/
def cacheNilSpec : ChangeSpec := { name := "cacheNil", fn := fun _ => fun
  | [d1, d2, d3, d4, d5] => { results := [.lit (.bool true)], args := [d1, d2, d3, d4, d5] }
  | _ => none }
def cacheNilRow : OpenClaim := { program := "ytbnkiefchbcfgaa", sum := "3fc2e7d96d9b8249f4bb20794fe9a2b7c90e83aa78bfee836e666a01a5254a74", func := "refectory/refectorylaw26.CacheNil", spec := "cacheNil", inPlace := ["slices.overlaps[refectory/api.Extent]"], unfollowed := true, recurses := true, apart := false }
def CacheNilSaid : Prop := cacheNilRow.holds Try.pinned (OpenSpec.ofChange cacheNilSpec)

/-- ITS FALSE NEIGHBOUR: 'it returns false'. Refute it at one input. -/
def cacheNilWrong : ChangeSpec := { name := "cacheNil", fn := fun _ => fun
  | [d1, d2, d3, d4, d5] => { results := [.lit (.bool false)], args := [d1, d2, d3, d4, d5] }
  | _ => none }
def CacheNilWrongFalsely : Prop := cacheNilRow.holds Try.pinned (OpenSpec.ofChange cacheNilWrong)

/- THE SECOND FORM. 'bulk': how many values and letters a reading holds, each counted each time it is reached (what is shared counts as often as it is met; a slice's spare places count too). A statement '..UptoSaid' is the law's where the arguments, and the package variables that the reading takes, are together of bulk at most 1048576: NARROWER than '..Said'. Prove '..Said' where nothing that the law and all that it calls make is longer than what came in: it says more and counts as full. Else prove '..UptoSaid'. A law counts once. -/
mutual
def uptoBulk {H : Type} : DataW H → Nat
  | .lit (.string bytes) => bytes.length + 1
  | .lit _ => 1
  | .nil => 1
  | .ptr d => uptoBulk d + 1
  | .slice elems spare => uptoBulkAll elems + uptoBulkAll spare + 1
  | .agg parts => uptoBulkAll parts + 1
  | .iface _ d => uptoBulk d + 1
  | .map entries => uptoBulkEntries entries + 1
  | .held _ => 1
def uptoBulkAll {H : Type} : List (DataW H) → Nat
  | [] => 0
  | d :: r => uptoBulk d + uptoBulkAll r
def uptoBulkEntries {H : Type} : List (Lit × DataW H) → Nat
  | [] => 0
  | x :: r => uptoBulkEntry x + uptoBulkEntries r
def uptoBulkEntry {H : Type} : Lit × DataW H → Nat
  | (.string bytes, d) => bytes.length + uptoBulk d + 1
  | (_, d) => uptoBulk d + 1
 end
def uptoSmall : (H : Type) → List (DataW H) → Bool := fun _ ds => decide (uptoBulkAll ds ≤ 1048576)
def OpenSpec.upto (s : _root_.Go.ChangeSpec) : _root_.Go.OpenSpec := { _root_.Go.OpenSpec.ofChange s with cond := some uptoSmall }

/-- 'refectorylaw26.CacheOpen', WHERE WHAT IT READS IS OF BULK AT MOST 1048576: true; the input reads as it did. -/
def cacheOpenUptoRow : OpenClaim := { program := "ytbnkiefchbcfgaa", sum := "3fc2e7d96d9b8249f4bb20794fe9a2b7c90e83aa78bfee836e666a01a5254a74", func := "refectory/refectorylaw26.CacheOpen", spec := "cacheOpen", inPlace := ["slices.overlaps[refectory/api.Extent]"], unfollowed := true, recurses := true, apart := false, narrowed := true }
def CacheOpenUptoSaid : Prop := cacheOpenUptoRow.holds Try.pinned (OpenSpec.upto cacheOpenSpec)

/-- 'refectorylaw26.CachePlays', WHERE WHAT IT READS IS OF BULK AT MOST 1048576: true; the input reads as it did. -/
def cachePlaysUptoRow : OpenClaim := { program := "ytbnkiefchbcfgaa", sum := "3fc2e7d96d9b8249f4bb20794fe9a2b7c90e83aa78bfee836e666a01a5254a74", func := "refectory/refectorylaw26.CachePlays", spec := "cachePlays", inPlace := ["slices.overlaps[refectory/api.Extent]"], unfollowed := true, recurses := true, apart := false, narrowed := true }
def CachePlaysUptoSaid : Prop := cachePlaysUptoRow.holds Try.pinned (OpenSpec.upto cachePlaysSpec)

/-- 'refectorylaw26.CacheReads', WHERE WHAT IT READS IS OF BULK AT MOST 1048576: true; the input reads as it did. -/
def cacheReadsUptoRow : OpenClaim := { program := "ytbnkiefchbcfgaa", sum := "3fc2e7d96d9b8249f4bb20794fe9a2b7c90e83aa78bfee836e666a01a5254a74", func := "refectory/refectorylaw26.CacheReads", spec := "cacheReads", inPlace := ["slices.overlaps[refectory/api.Extent]"], unfollowed := true, recurses := true, apart := false, narrowed := true }
def CacheReadsUptoSaid : Prop := cacheReadsUptoRow.holds Try.pinned (OpenSpec.upto cacheReadsSpec)

/-- 'refectorylaw26.CacheLast', WHERE WHAT IT READS IS OF BULK AT MOST 1048576: true; the input reads as it did. -/
def cacheLastUptoRow : OpenClaim := { program := "ytbnkiefchbcfgaa", sum := "3fc2e7d96d9b8249f4bb20794fe9a2b7c90e83aa78bfee836e666a01a5254a74", func := "refectory/refectorylaw26.CacheLast", spec := "cacheLast", inPlace := ["slices.overlaps[refectory/api.Extent]"], unfollowed := true, recurses := true, apart := false, narrowed := true }
def CacheLastUptoSaid : Prop := cacheLastUptoRow.holds Try.pinned (OpenSpec.upto cacheLastSpec)

/-- 'refectorylaw26.CacheDown', WHERE WHAT IT READS IS OF BULK AT MOST 1048576: true; the input reads as it did. -/
def cacheDownUptoRow : OpenClaim := { program := "ytbnkiefchbcfgaa", sum := "3fc2e7d96d9b8249f4bb20794fe9a2b7c90e83aa78bfee836e666a01a5254a74", func := "refectory/refectorylaw26.CacheDown", spec := "cacheDown", inPlace := ["slices.overlaps[refectory/api.Extent]"], unfollowed := true, recurses := true, apart := false, narrowed := true }
def CacheDownUptoSaid : Prop := cacheDownUptoRow.holds Try.pinned (OpenSpec.upto cacheDownSpec)

/-- 'refectorylaw26.CachePieces', WHERE WHAT IT READS IS OF BULK AT MOST 1048576: true; the input reads as it did. -/
def cachePiecesUptoRow : OpenClaim := { program := "ytbnkiefchbcfgaa", sum := "3fc2e7d96d9b8249f4bb20794fe9a2b7c90e83aa78bfee836e666a01a5254a74", func := "refectory/refectorylaw26.CachePieces", spec := "cachePieces", inPlace := ["slices.overlaps[refectory/api.Extent]"], unfollowed := true, recurses := true, apart := false, narrowed := true }
def CachePiecesUptoSaid : Prop := cachePiecesUptoRow.holds Try.pinned (OpenSpec.upto cachePiecesSpec)

/-- 'refectorylaw26.CacheFresh', WHERE WHAT IT READS IS OF BULK AT MOST 1048576: true; the input reads as it did. -/
def cacheFreshUptoRow : OpenClaim := { program := "ytbnkiefchbcfgaa", sum := "3fc2e7d96d9b8249f4bb20794fe9a2b7c90e83aa78bfee836e666a01a5254a74", func := "refectory/refectorylaw26.CacheFresh", spec := "cacheFresh", inPlace := ["slices.overlaps[refectory/api.Extent]"], unfollowed := true, recurses := true, apart := false, narrowed := true }
def CacheFreshUptoSaid : Prop := cacheFreshUptoRow.holds Try.pinned (OpenSpec.upto cacheFreshSpec)

/-- 'refectorylaw26.CacheNil', WHERE WHAT IT READS IS OF BULK AT MOST 1048576: true; the input reads as it did. -/
def cacheNilUptoRow : OpenClaim := { program := "ytbnkiefchbcfgaa", sum := "3fc2e7d96d9b8249f4bb20794fe9a2b7c90e83aa78bfee836e666a01a5254a74", func := "refectory/refectorylaw26.CacheNil", spec := "cacheNil", inPlace := ["slices.overlaps[refectory/api.Extent]"], unfollowed := true, recurses := true, apart := false, narrowed := true }
def CacheNilUptoSaid : Prop := cacheNilUptoRow.holds Try.pinned (OpenSpec.upto cacheNilSpec)

end Rows
end Go.Proofs.Ytbnkiefchbcfgaa
