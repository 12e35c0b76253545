/- The law PathParses: what is a name, and the names of a path; for texts of at most 2^20 bytes. -/
import Derived.Test.YtlmadihedejaaaaDoorB6
set_option linter.unusedVariables false
set_option linter.unusedSimpArgs false
namespace Go.Proofs.YtlmadihedejaaaaDoor.U
open Go.RowKit Go.Proofs Go.Lib Go.Proofs.YtlmadihedejaaaaDoorW.PrintWords Go.Proofs.YtlmadihedejaaaaDoor.PR

set_option maxHeartbeats 8000000 in
set_option maxRecDepth 1000000 in
theorem PathParses_walk (s : ByteArray) (w : World) (hs : s.size ≤ 1048576) (hT : Tabs w) :
    Calls Tryd.prog 5 #[.string s] w fun e w' => e = .returned (.bool true) ∧ Below w.heap.size w w' := by
  have c1 := fun W h => Parse_calls s W (by omega) h
  have c2 := fun W => RParse_calls s W (by omega)
  have c3 := fun W h => Name_calls s W (by omega) h
  have c4 := fun W => RName_calls s W (by omega)
  have h8 := parseB_max s
  generalize parseB s = X at *
  generalize parseE s.data.toList = E at *
  generalize nameB s.data.toList = n at *
  have HT := Lib.hid hT
  have B0 := Lib.hid (Below.refl w.heap.size w)
  have C1 := Lib.hid c1
  have C2 := Lib.hid c2
  have C3 := Lib.hid c3
  have C4 := Lib.hid c4
  clear hT c1 c2 c3 c4 hs
  go_enter Tryd.func5, Tryd.ntmps5
  go_wp2_with fail
  refine (C1.out _ HT.out).mono ?_
  rintro e w1 ⟨v1, rfl, hs, hb⟩
  have T_1 := Lib.hid (HT.out.below hb)
  have B1 := Lib.hid (B0.out.trans (hb.mono B0.out.size))
  have S_1 := Lib.hid hs
  clear hb hs HT
  go_wp2_with fail
  refine (C2.out _).mono ?_
  rintro e w2 ⟨v2, rfl, hr, hb⟩
  have T_2 := Lib.hid (T_1.out.below hb)
  have S_2 := Lib.hid (S_1.out.below hb)
  have B2 := Lib.hid (B1.out.trans (hb.mono B1.out.size))
  clear hb T_1 S_1 B1
  obtain ⟨A1, k1, rfl, hk1, hc1⟩ := S_2.out.reads
  obtain ⟨A2, k2, rfl, hk2, hc2⟩ := hr.reads
  have HC1 := Lib.hid hc1
  have HC2 := Lib.hid hc2
  clear hc1 hc2 hr S_2
  go_wp2_with fail
  refine (Texts_calls _ _ _ _ X X _ HC1.out hk1 HC2.out hk2 (by omega)).mono ?_
  rintro e w3 ⟨rfl, hb⟩
  have T_3 := Lib.hid (T_2.out.below hb)
  have B3 := Lib.hid (B2.out.trans (hb.mono B2.out.size))
  clear hb HC1 HC2 T_2 B2
  rw [decide_eq_true (rfl : X = X)]
  go_wp2_with fail
  refine (C3.out _ T_3.out).mono ?_
  rintro e w4 ⟨rfl, hb⟩
  have T_4 := Lib.hid (T_3.out.below hb)
  have B4 := Lib.hid (B3.out.trans (hb.mono B3.out.size))
  clear hb T_3 B3
  go_wp2_with fail
  refine (C4.out _).mono ?_
  rintro e w5 ⟨rfl, hb⟩
  have T_5 := Lib.hid (T_4.out.below hb)
  have B5 := Lib.hid (B4.out.trans (hb.mono B4.out.size))
  clear hb T_4 B4
  go_wp2_with fail
  refine (works_calls _ T_5.out).mono ?_
  rintro e w6 ⟨rfl, hb⟩
  have T_6 := Lib.hid (T_5.out.below hb)
  have B6 := Lib.hid (B5.out.trans (hb.mono B5.out.size))
  clear hb T_5 B5
  go_wp2
  go_ret
  exact ⟨rfl, B6.out⟩
end Go.Proofs.YtlmadihedejaaaaDoor.U
