/- The law PathOrders: which paths are alike, which is under which; for texts of at most 2^20 bytes. -/
import Derived.Test.YtlmadihedejaaaaDoorB6
set_option linter.unusedVariables false
set_option linter.unusedSimpArgs false
namespace Go.Proofs.YtlmadihedejaaaaDoor.U
open Go.RowKit Go.Proofs Go.Lib Go.Proofs.YtlmadihedejaaaaDoorW.PrintWords Go.Proofs.YtlmadihedejaaaaDoor.PR

set_option maxHeartbeats 8000000 in
set_option maxRecDepth 1000000 in
theorem PathOrders_walk (a : ByteArray) (b : ByteArray) (w : World) (ha : a.size ≤ 1048576) (hb : b.size ≤ 1048576) (hT : Tabs w) :
    Calls Tryd.prog 6 #[.string a, .string b] w fun e w' => e = .returned (.bool true) ∧ Below w.heap.size w w' := by
  have c1 := fun W h => PAlike_calls a b W (by omega) (by omega) h
  have c2 := fun W => RPAlike_calls a b W (by omega) (by omega)
  have c3 := fun W h => PUnder_calls a b W (by omega) (by omega) h
  have c4 := fun W => RPUnder_calls a b W (by omega) (by omega)
  generalize alikeP a.data.toList b.data.toList = x at *
  generalize underP a.data.toList b.data.toList = y at *
  have HT := Lib.hid hT
  have B0 := Lib.hid (Below.refl w.heap.size w)
  have C1 := Lib.hid c1
  have C2 := Lib.hid c2
  have C3 := Lib.hid c3
  have C4 := Lib.hid c4
  clear hT c1 c2 c3 c4 ha hb
  go_enter Tryd.func6, Tryd.ntmps6
  go_wp2_with fail
  refine (C1.out _ HT.out).mono ?_
  rintro e w1 ⟨rfl, hb⟩
  have T_1 := Lib.hid (HT.out.below hb)
  have B1 := Lib.hid (B0.out.trans (hb.mono B0.out.size))
  clear hb HT
  go_wp2_with fail
  refine (C2.out _).mono ?_
  rintro e w2 ⟨rfl, hb⟩
  have T_2 := Lib.hid (T_1.out.below hb)
  have B2 := Lib.hid (B1.out.trans (hb.mono B1.out.size))
  clear hb T_1 B1
  go_wp2_with fail
  refine (C3.out _ T_2.out).mono ?_
  rintro e w3 ⟨rfl, hb⟩
  have T_3 := Lib.hid (T_2.out.below hb)
  have B3 := Lib.hid (B2.out.trans (hb.mono B2.out.size))
  clear hb T_2 B2
  go_wp2_with fail
  refine (C4.out _).mono ?_
  rintro e w4 ⟨rfl, hb⟩
  have T_4 := Lib.hid (T_3.out.below hb)
  have B4 := Lib.hid (B3.out.trans (hb.mono B3.out.size))
  clear hb T_3 B3
  go_wp2_with fail
  refine (works_calls _ T_4.out).mono ?_
  rintro e w5 ⟨rfl, hb⟩
  have T_5 := Lib.hid (T_4.out.below hb)
  have B5 := Lib.hid (B4.out.trans (hb.mono B4.out.size))
  clear hb T_4 B4
  go_wp2
  go_ret
  exact ⟨rfl, B5.out⟩
end Go.Proofs.YtlmadihedejaaaaDoor.U
