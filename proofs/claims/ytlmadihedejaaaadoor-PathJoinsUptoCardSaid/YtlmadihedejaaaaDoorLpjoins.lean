/- The law PathJoins: the path of names; for names of at most 2^20 bytes. -/
import Derived.Test.YtlmadihedejaaaaDoorB6
set_option linter.unusedVariables false
set_option linter.unusedSimpArgs false
namespace Go.Proofs.YtlmadihedejaaaaDoor.U
open Go.RowKit Go.Proofs Go.Lib Go.Proofs.YtlmadihedejaaaaDoorW.PrintWords Go.Proofs.YtlmadihedejaaaaDoor.PR

set_option maxHeartbeats 8000000 in
set_option maxRecDepth 1000000 in
theorem PathJoins_walk (A : Option Addr) (c : Nat) (xs : List ByteArray) (w : World) (h : TR w A c xs) (hl : xs.length ≤ 1048576) (hx : ∀ x ∈ xs, x.size ≤ 1048576) (hT : Tabs w) :
    Calls Tryd.prog 9 #[.slice A xs.length c] w fun e w' => e = .returned (.bool true) ∧ Below w.heap.size w w' := by
  have c1 := fun W (h : TR W A c xs) hT => Join_calls A c xs W h (fun x hm => by have := hx x hm; omega) hT
  have c2 := fun W (h : TR W A c xs) => RJoin_calls A c xs W h 1048576 hx (by omega) (by omega)
  generalize mkB (joinS (lst xs)) = J at *
  generalize joinE (lst xs) = E at *
  have HT := Lib.hid hT
  have B0 := Lib.hid (Below.refl w.heap.size w)
  have C1 := Lib.hid c1
  have C2 := Lib.hid c2
  have R_0 := Lib.hid h
  clear hT c1 c2 hx h
  go_enter Tryd.func9, Tryd.ntmps9
  go_wp2_with fail
  refine (C1.out _ R_0.out HT.out).mono ?_
  rintro e w1 ⟨rfl, hb⟩
  have T_1 := Lib.hid (HT.out.below hb)
  have R_1 := Lib.hid (R_0.out.below hb)
  have B1 := Lib.hid (B0.out.trans (hb.mono B0.out.size))
  clear hb HT R_0
  go_wp2_with fail
  refine (C2.out _ R_1.out).mono ?_
  rintro e w2 ⟨rfl, hb⟩
  have T_2 := Lib.hid (T_1.out.below hb)
  have R_2 := Lib.hid (R_1.out.below hb)
  have B2 := Lib.hid (B1.out.trans (hb.mono B1.out.size))
  clear hb T_1 R_1 B1
  go_wp2_with fail
  refine (works_calls _ T_2.out).mono ?_
  rintro e w3 ⟨rfl, hb⟩
  have T_3 := Lib.hid (T_2.out.below hb)
  have B3 := Lib.hid (B2.out.trans (hb.mono B2.out.size))
  clear hb T_2 B2
  go_wp2
  go_ret
  exact ⟨rfl, B3.out⟩
end Go.Proofs.YtlmadihedejaaaaDoor.U
