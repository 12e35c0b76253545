/- The law PathUnder: what is under one that is under a third is under that; for texts of at most 2^20 bytes. -/
import Derived.Test.YtlmadihedejaaaaDoorB6
set_option linter.unusedVariables false
set_option linter.unusedSimpArgs false
namespace Go.Proofs.YtlmadihedejaaaaDoor.U
open Go.RowKit Go.Proofs Go.Lib Go.Proofs.YtlmadihedejaaaaDoorW.PrintWords Go.Proofs.YtlmadihedejaaaaDoor.PR

set_option maxHeartbeats 8000000 in
set_option maxRecDepth 1000000 in
theorem PathUnder_walk (a : ByteArray) (b : ByteArray) (c : ByteArray) (w : World) (ha : a.size ≤ 1048576) (hb : b.size ≤ 1048576) (hc : c.size ≤ 1048576) (hT : Tabs w) :
    Calls Tryd.prog 7 #[.string a, .string b, .string c] w fun e w' => e = .returned (.bool true) ∧ Below w.heap.size w w' := by
  have c1 := fun W h => PUnder_calls a b W (by omega) (by omega) h
  have c2 := fun W h => PUnder_calls b c W (by omega) (by omega) h
  have c3 := fun W h => PUnder_calls a c W (by omega) (by omega) h
  have c4 := fun W h => PUnder_calls a a W (by omega) (by omega) h
  have c5 := fun W h => PUnder_calls b a W (by omega) (by omega) h
  have c6 := fun W h => PAlike_calls a b W (by omega) (by omega) h
  have l3 := fun h1 h2 => under_trans (a := a.data.toList) (b := b.data.toList) (c := c.data.toList) h1 h2
  have l4 := under_not_self a.data.toList
  have l5 := fun h => under_asym (a := a.data.toList) (b := b.data.toList) h
  have l6 := fun h => under_not_alike (a := a.data.toList) (b := b.data.toList) h
  generalize underP a.data.toList b.data.toList = u1 at *
  generalize underP b.data.toList c.data.toList = u2 at *
  generalize underP a.data.toList c.data.toList = u3 at *
  generalize underP a.data.toList a.data.toList = u4 at *
  generalize underP b.data.toList a.data.toList = u5 at *
  generalize alikeP a.data.toList b.data.toList = al at *
  subst l4
  have HT := Lib.hid hT
  have B0 := Lib.hid (Below.refl w.heap.size w)
  have C1 := Lib.hid c1
  have C2 := Lib.hid c2
  have C3 := Lib.hid c3
  have C4 := Lib.hid c4
  have C5 := Lib.hid c5
  have C6 := Lib.hid c6
  have L3 := Lib.hid l3
  have L5 := Lib.hid l5
  have L6 := Lib.hid l6
  clear hT c1 c2 c3 c4 c5 c6 l3 l5 l6 ha hb hc
  go_enter Tryd.func7, Tryd.ntmps7
  go_wp2_with fail
  refine (C1.out _ HT.out).mono ?_
  rintro e w1 ⟨rfl, hb⟩
  have T_1 := Lib.hid (HT.out.below hb)
  have B1 := Lib.hid (B0.out.trans (hb.mono B0.out.size))
  clear hb HT
  cases u1 with
  | false =>
    go_wp2_with fail
    refine (C4.out _ T_1.out).mono ?_
    rintro e w2 ⟨rfl, hb⟩
    have T_2 := Lib.hid (T_1.out.below hb)
    have B2 := Lib.hid (B1.out.trans (hb.mono B1.out.size))
    clear hb T_1 B1
    go_wp2_with fail
    refine (C1.out _ T_2.out).mono ?_
    rintro e w3 ⟨rfl, hb⟩
    have T_3 := Lib.hid (T_2.out.below hb)
    have B3 := Lib.hid (B2.out.trans (hb.mono B2.out.size))
    clear hb T_2 B2
    go_wp2_with fail
    refine (C1.out _ T_3.out).mono ?_
    rintro e w4 ⟨rfl, hb⟩
    have T_4 := Lib.hid (T_3.out.below hb)
    have B4 := Lib.hid (B3.out.trans (hb.mono B3.out.size))
    clear hb T_3 B3
    go_wp2_with fail
    refine (works_calls _ T_4.out).mono ?_
    rintro e w5 ⟨rfl, hb⟩
    have T_5 := Lib.hid (T_4.out.below hb)
    have B5 := Lib.hid (B4.out.trans (hb.mono B4.out.size))
    clear hb T_4 B4
    go_wp2
    go_ret
    exact ⟨rfl, B5.out⟩
  | true =>
    obtain rfl := L5.out (by trivial)
    obtain rfl := L6.out (by trivial)
    go_wp2_with fail
    refine (C2.out _ T_1.out).mono ?_
    rintro e w2 ⟨rfl, hb⟩
    have T_2 := Lib.hid (T_1.out.below hb)
    have B2 := Lib.hid (B1.out.trans (hb.mono B1.out.size))
    clear hb T_1 B1
    cases u2 with
    | false =>
      go_wp2_with fail
      refine (C4.out _ T_2.out).mono ?_
      rintro e w3 ⟨rfl, hb⟩
      have T_3 := Lib.hid (T_2.out.below hb)
      have B3 := Lib.hid (B2.out.trans (hb.mono B2.out.size))
      clear hb T_2 B2
      go_wp2_with fail
      refine (C1.out _ T_3.out).mono ?_
      rintro e w4 ⟨rfl, hb⟩
      have T_4 := Lib.hid (T_3.out.below hb)
      have B4 := Lib.hid (B3.out.trans (hb.mono B3.out.size))
      clear hb T_3 B3
      go_wp2_with fail
      refine (C5.out _ T_4.out).mono ?_
      rintro e w5 ⟨rfl, hb⟩
      have T_5 := Lib.hid (T_4.out.below hb)
      have B5 := Lib.hid (B4.out.trans (hb.mono B4.out.size))
      clear hb T_4 B4
      go_wp2_with fail
      refine (C1.out _ T_5.out).mono ?_
      rintro e w6 ⟨rfl, hb⟩
      have T_6 := Lib.hid (T_5.out.below hb)
      have B6 := Lib.hid (B5.out.trans (hb.mono B5.out.size))
      clear hb T_5 B5
      go_wp2_with fail
      refine (C6.out _ T_6.out).mono ?_
      rintro e w7 ⟨rfl, hb⟩
      have T_7 := Lib.hid (T_6.out.below hb)
      have B7 := Lib.hid (B6.out.trans (hb.mono B6.out.size))
      clear hb T_6 B6
      go_wp2_with fail
      refine (works_calls _ T_7.out).mono ?_
      rintro e w8 ⟨rfl, hb⟩
      have T_8 := Lib.hid (T_7.out.below hb)
      have B8 := Lib.hid (B7.out.trans (hb.mono B7.out.size))
      clear hb T_7 B7
      go_wp2
      go_ret
      exact ⟨rfl, B8.out⟩
    | true =>
      obtain rfl := L3.out (by trivial) (by trivial)
      go_wp2_with fail
      refine (C3.out _ T_2.out).mono ?_
      rintro e w3 ⟨rfl, hb⟩
      have T_3 := Lib.hid (T_2.out.below hb)
      have B3 := Lib.hid (B2.out.trans (hb.mono B2.out.size))
      clear hb T_2 B2
      go_wp2_with fail
      refine (C4.out _ T_3.out).mono ?_
      rintro e w4 ⟨rfl, hb⟩
      have T_4 := Lib.hid (T_3.out.below hb)
      have B4 := Lib.hid (B3.out.trans (hb.mono B3.out.size))
      clear hb T_3 B3
      go_wp2_with fail
      refine (C1.out _ T_4.out).mono ?_
      rintro e w5 ⟨rfl, hb⟩
      have T_5 := Lib.hid (T_4.out.below hb)
      have B5 := Lib.hid (B4.out.trans (hb.mono B4.out.size))
      clear hb T_4 B4
      go_wp2_with fail
      refine (C5.out _ T_5.out).mono ?_
      rintro e w6 ⟨rfl, hb⟩
      have T_6 := Lib.hid (T_5.out.below hb)
      have B6 := Lib.hid (B5.out.trans (hb.mono B5.out.size))
      clear hb T_5 B5
      go_wp2_with fail
      refine (C1.out _ T_6.out).mono ?_
      rintro e w7 ⟨rfl, hb⟩
      have T_7 := Lib.hid (T_6.out.below hb)
      have B7 := Lib.hid (B6.out.trans (hb.mono B6.out.size))
      clear hb T_6 B6
      go_wp2_with fail
      refine (C6.out _ T_7.out).mono ?_
      rintro e w8 ⟨rfl, hb⟩
      have T_8 := Lib.hid (T_7.out.below hb)
      have B8 := Lib.hid (B7.out.trans (hb.mono B7.out.size))
      clear hb T_7 B7
      go_wp2_with fail
      refine (works_calls _ T_8.out).mono ?_
      rintro e w9 ⟨rfl, hb⟩
      have T_9 := Lib.hid (T_8.out.below hb)
      have B9 := Lib.hid (B8.out.trans (hb.mono B8.out.size))
      clear hb T_8 B8
      go_wp2
      go_ret
      exact ⟨rfl, B9.out⟩
end Go.Proofs.YtlmadihedejaaaaDoor.U
