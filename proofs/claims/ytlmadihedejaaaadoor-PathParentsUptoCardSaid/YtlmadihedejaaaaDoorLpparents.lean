/- The law PathParents: a path without its last name, and that; for texts of at most 2^20 bytes. -/
import Derived.Test.YtlmadihedejaaaaDoorB6
set_option linter.unusedVariables false
set_option linter.unusedSimpArgs false
namespace Go.Proofs.YtlmadihedejaaaaDoor.U
open Go.RowKit Go.Proofs Go.Lib Go.Proofs.YtlmadihedejaaaaDoorW.PrintWords Go.Proofs.YtlmadihedejaaaaDoor.PR

set_option maxHeartbeats 8000000 in
set_option maxRecDepth 1000000 in
theorem PathParents_walk (s : ByteArray) (w : World) (hs : s.size ≤ 1048576) (hT : Tabs w) :
    Calls Tryd.prog 10 #[.string s] w fun e w' => e = .returned (.bool true) ∧ Below w.heap.size w w' := by
  have c1 := fun W h => Parent_calls s W (by omega) h
  have c2 := fun W => RParent_calls s W (by omega)
  generalize mkB (parentD s.data.toList) = D at *
  generalize mkB (parentN s.data.toList) = n at *
  generalize parentE s.data.toList = E at *
  have HT := Lib.hid hT
  have B0 := Lib.hid (Below.refl w.heap.size w)
  have C1 := Lib.hid c1
  have C2 := Lib.hid c2
  clear hT c1 c2 hs
  go_enter Tryd.func10, Tryd.ntmps10
  go_wp2_with fail
  refine (C1.out _ HT.out).mono ?_
  rintro e w1 ⟨rfl, hb⟩
  have T_1 := Lib.hid (HT.out.below hb)
  have B1 := Lib.hid (B0.out.trans (hb.mono B0.out.size))
  clear hb HT
  go_wp2_with fail
  refine (C2.out _).mono ?_
  rintro e w2 ⟨rfl, hb⟩
  have T_2 := Lib.hid (T_1.out.below hb)
  have B2 := Lib.hid (B1.out.trans (hb.mono B1.out.size))
  clear hb T_1 B1
  go_wp2_with fail
  refine (works_calls _ T_2.out).mono ?_
  rintro e w3 ⟨rfl, hb⟩
  have T_3 := Lib.hid (T_2.out.below hb)
  have B3 := Lib.hid (B2.out.trans (hb.mono B2.out.size))
  clear hb T_2 B2
  go_wp2
  go_ret
  exact ⟨rfl, B3.out⟩
end Go.Proofs.YtlmadihedejaaaaDoor.U
