/- The law GlobShort: a pattern's short form; for texts of at most 2^20 bytes. -/
import Derived.Test.YtfglhnnbfmpfeaaDoorGbase
import Derived.Test.YtfglhnnbfmpfeaaDoorGshlaw
set_option linter.unusedVariables false
set_option linter.unusedSimpArgs false
namespace Go.Proofs.YtfglhnnbfmpfeaaDoor.U
open Go.RowKit Go.Proofs Go.Lib Go.Proofs.YtfglhnnbfmpfeaaDoorW.PrintWords Go.Proofs.YtfglhnnbfmpfeaaDoor.PR

set_option maxHeartbeats 8000000 in
set_option maxRecDepth 1000000 in
theorem GlobShort_walk (p s : ByteArray) (w : World) (hp : p.size ≤ 1048576) (hs : s.size ≤ 1048576) (hT : Tabs w) :
    Calls Tryd.prog 8 #[.string p, .string s] w fun e w' => e = .returned (.bool true) ∧ Below w.heap.size w w' := by
  have zt : (⟨(shortOf p.data.toList).toArray⟩ : ByteArray).size ≤ p.size := by
    have := short_size p.data.toList
    rw [← size_eq] at this
    show (shortOf p.data.toList).toArray.size ≤ _
    rw [List.size_toArray]
    exact this
  have c1 := fun W h => Short_calls p W (by omega) h
  have c2 := fun W h => Short_calls ⟨(shortOf p.data.toList).toArray⟩ W (by omega) h
  have c3 := fun W h => Fits_calls p s W (by omega) (by omega) h
  have c4 := fun W h => Fits_calls ⟨(shortOf p.data.toList).toArray⟩ s W (by omega) (by omega) h
  have c5 := fun W => short_calls s 256 W (by omega)
  have law := short_table p.data.toList s.data.toList
  simp only [] at c2 c4
  generalize askE p.data.toList [] = E1 at *
  generalize shortB s.data.toList 256 = r2 at *
  generalize askE p.data.toList s.data.toList = E2 at *
  generalize fitB p.data.toList s.data.toList = F at *
  generalize fitB (shortOf p.data.toList) s.data.toList = F' at *
  generalize askE (shortOf p.data.toList) s.data.toList = E3 at *
  generalize askE (shortOf p.data.toList) [] = E4 at *
  generalize shortOf (shortOf p.data.toList) = q at *
  generalize shortOf p.data.toList = t at *
  have HT := Lib.hid hT
  have B0 := Lib.hid (Below.refl w.heap.size w)
  clear hT
  rcases law with rfl | rfl | ⟨rfl, rfl⟩ | ⟨rfl, rfl, rfl, rfl, rfl, rfl, rfl⟩
  · simp only [show ¬ ((5 : Int) = 0) by decide, show ¬ ((3 : Int) = 0) by decide, if_false] at c1
    have C1 := Lib.hid c1
    have C2 := Lib.hid c2
    have C3 := Lib.hid c3
    have C4 := Lib.hid c4
    have C5 := Lib.hid c5
    clear c1 c2 c3 c4 c5
    go_enter Tryd.func8, Tryd.ntmps8
    go_wp2_with fail
    refine (C1.out _ HT.out).mono ?_
    rintro e w1 ⟨rfl, hb⟩
    have T_1 := Lib.hid (HT.out.below hb)
    have B1 := Lib.hid (B0.out.trans (hb.mono B0.out.size))
    clear hb HT
    go_wp2_with fail
    refine (works_calls _ T_1.out).mono ?_
    rintro e w2 ⟨rfl, hb⟩
    have T_2 := Lib.hid (T_1.out.below hb)
    have B2 := Lib.hid (B1.out.trans (hb.mono B1.out.size))
    clear hb T_1 B1
    go_wp2
    go_ret
    exact ⟨rfl, B2.out⟩
  · simp only [show ¬ ((5 : Int) = 0) by decide, show ¬ ((3 : Int) = 0) by decide, if_false] at c1
    have C1 := Lib.hid c1
    have C2 := Lib.hid c2
    have C3 := Lib.hid c3
    have C4 := Lib.hid c4
    have C5 := Lib.hid c5
    clear c1 c2 c3 c4 c5
    go_enter Tryd.func8, Tryd.ntmps8
    go_wp2_with fail
    refine (C1.out _ HT.out).mono ?_
    rintro e w1 ⟨rfl, hb⟩
    have T_1 := Lib.hid (HT.out.below hb)
    have B1 := Lib.hid (B0.out.trans (hb.mono B0.out.size))
    clear hb HT
    go_wp2_with fail
    refine (works_calls _ T_1.out).mono ?_
    rintro e w2 ⟨rfl, hb⟩
    have T_2 := Lib.hid (T_1.out.below hb)
    have B2 := Lib.hid (B1.out.trans (hb.mono B1.out.size))
    clear hb T_1 B1
    go_wp2
    go_ret
    exact ⟨rfl, B2.out⟩
  · simp only [if_true] at c1
    have C1 := Lib.hid c1
    have C2 := Lib.hid c2
    have C3 := Lib.hid c3
    have C4 := Lib.hid c4
    have C5 := Lib.hid c5
    clear c1 c2 c3 c4 c5
    go_enter Tryd.func8, Tryd.ntmps8
    go_wp2_with fail
    refine (C1.out _ HT.out).mono ?_
    rintro e w1 ⟨rfl, hb⟩
    have T_1 := Lib.hid (HT.out.below hb)
    have B1 := Lib.hid (B0.out.trans (hb.mono B0.out.size))
    clear hb HT
    go_wp2_with fail
    refine (C5.out _).mono ?_
    rintro e w2 ⟨rfl, hb⟩
    have T_2 := Lib.hid (T_1.out.below hb)
    have B2 := Lib.hid (B1.out.trans (hb.mono B1.out.size))
    clear hb T_1 B1
    go_wp2_with fail
    refine (works_calls _ T_2.out).mono ?_
    rintro e w3 ⟨rfl, hb⟩
    have T_3 := Lib.hid (T_2.out.below hb)
    have B3 := Lib.hid (B2.out.trans (hb.mono B2.out.size))
    clear hb T_2 B2
    go_wp2
    go_ret
    exact ⟨rfl, B3.out⟩
  · simp only [if_true] at c1
    simp only [if_true] at c2
    have C1 := Lib.hid c1
    have C2 := Lib.hid c2
    have C3 := Lib.hid c3
    have C4 := Lib.hid c4
    have C5 := Lib.hid c5
    clear c1 c2 c3 c4 c5
    generalize (⟨q.toArray⟩ : ByteArray) = t at *
    go_enter Tryd.func8, Tryd.ntmps8
    go_wp2_with fail
    refine (C1.out _ HT.out).mono ?_
    rintro e w1 ⟨rfl, hb⟩
    have T_1 := Lib.hid (HT.out.below hb)
    have B1 := Lib.hid (B0.out.trans (hb.mono B0.out.size))
    clear hb HT
    go_wp2_with fail
    refine (C5.out _).mono ?_
    rintro e w2 ⟨rfl, hb⟩
    have T_2 := Lib.hid (T_1.out.below hb)
    have B2 := Lib.hid (B1.out.trans (hb.mono B1.out.size))
    clear hb T_1 B1
    go_wp2_with fail
    refine (C2.out _ T_2.out).mono ?_
    rintro e w3 ⟨rfl, hb⟩
    have T_3 := Lib.hid (T_2.out.below hb)
    have B3 := Lib.hid (B2.out.trans (hb.mono B2.out.size))
    clear hb T_2 B2
    go_wp2_with fail
    refine (C3.out _ T_3.out).mono ?_
    rintro e w4 ⟨rfl, hb⟩
    have T_4 := Lib.hid (T_3.out.below hb)
    have B4 := Lib.hid (B3.out.trans (hb.mono B3.out.size))
    clear hb T_3 B3
    go_wp2_with fail
    refine (C4.out _ T_4.out).mono ?_
    rintro e w5 ⟨rfl, hb⟩
    have T_5 := Lib.hid (T_4.out.below hb)
    have B5 := Lib.hid (B4.out.trans (hb.mono B4.out.size))
    clear hb T_4 B4
    go_wp2_with fail
    refine (works_calls _ T_5.out).mono ?_
    rintro e w6 ⟨rfl, hb⟩
    have T_6 := Lib.hid (T_5.out.below hb)
    have B6 := Lib.hid (B5.out.trans (hb.mono B5.out.size))
    clear hb T_5 B5
    go_wp2
    go_ret
    exact ⟨rfl, B6.out⟩
end Go.Proofs.YtfglhnnbfmpfeaaDoor.U
