/- The law DirPlays: whatever is added, removed, renamed and looked for, the answers are the document's. -/
import Derived.Test.YtkdjkndnilmjmaaDoorK5
set_option linter.unusedVariables false
set_option linter.unusedSimpArgs false
namespace Go.Proofs.YtkdjkndnilmjmaaDoor.U
open Go.RowKit Go.Proofs Go.Lib Go.Proofs.YtkdjkndnilmjmaaDoorW.PrintWords

set_option maxHeartbeats 4000000 in
set_option maxRecDepth 1000000 in
theorem DirPlays_walk (A : Option Addr) (c : Nat) (l : List ActV) (w : World) (h : AR w A l) (hl : l.length ≤ 1048576) (hz : AOk l) (hT : Tabs w) :
    Calls Tryd.prog 3 #[.slice A l.length c] w fun e w' => e = .returned (.bool true) ∧ Below w.heap.size w w' := by
  have C1 := Lib.hid (played_calls A c l w h (by omega) hz hT)
  clear h hl hz hT
  go_enter Tryd.func3, Tryd.ntmps3
  go_wp2_with fail
  refine (C1.out).mono ?_
  rintro e w1 ⟨D, R, rfl, M, L, hp, he⟩
  have HE := Lib.hid he
  clear hp he C1
  go_wp2_with fail
  refine (works_calls _ HE.out.tab).mono ?_
  rintro e w2 ⟨rfl, hb2⟩
  go_wp2
  go_ret
  exact ⟨rfl, HE.out.below.trans (hb2.mono HE.out.base)⟩
end Go.Proofs.YtkdjkndnilmjmaaDoor.U
