/- The law UtfBack: a text comes back of its bytes, and bytes of their text; for at most 2^20 of each. -/
import Derived.Test.YtanncmaojnmldaaDoorUlaw
set_option linter.unusedVariables false
set_option linter.unusedSimpArgs false
namespace Go.Proofs.YtanncmaojnmldaaDoor.U
open Go.RowKit Go.Proofs Go.Lib Go.Proofs.YtanncmaojnmldaaDoorW.PrintWords Go.Proofs.YtanncmaojnmldaaDoor.PR

set_option maxHeartbeats 8000000 in
set_option maxRecDepth 1000000 in
theorem UtfBack_walk (s : ByteArray) (A : Option Addr) (c : Nat) (xs : List Int) (w : World) (hs : s.size ≤ 1048576) (hR : Rd w A c xs) (hB : Bv w (.slice A xs.length c) xs) (hx : xs.length ≤ 1048576) (hT : Tabs w) :
    Calls Tryd.prog 5 #[.string s, .slice A xs.length c] w fun e w' => e = .returned (.bool true) ∧ Below w.heap.size w w' := by
  have hpl : (putBytes s.data.toList).length ≤ 4194304 := by have := putBytes_len s.data.toList; rw [← size_eq] at this; omega
  have htl : (getText xs).length ≤ 4194304 := getText_len xs hx
  have c1 := Put_calls s w (by omega) hT
  have c5 := fun W (h : Rd W A c xs) => Get_calls A c xs W h (by omega)
  unfold GetDone at c5
  have HS : Hid ((getText xs).length ≤ 4194304) := Lib.hid htl
  have hgt : (⟨(getText xs).toArray⟩ : ByteArray).data.toList = getText xs := rfl
  have hgs : (⟨(getText xs).toArray⟩ : ByteArray).size ≤ 17592186044416 := by rw [size_eq]; exact Nat.le_trans htl (by decide)
  have c6 := fun W (h : Tabs W) => Put_calls ⟨(getText xs).toArray⟩ W hgs h
  rw [hgt] at c6
  have hxx := hR.2.2.1
  have HT := Lib.hid hT
  have HR := Lib.hid hR
  have HB := Lib.hid hB
  have C5 := Lib.hid c5
  have C6 := Lib.hid c6
  have B0 := Lib.hid (Below.refl w.heap.size w)
  clear c5 c6 hR hB hT hgt hgs htl
  have ge : getErr xs = 0 ∨ getErr xs = 5 ∧ getText xs = [] := by
    by_cases h : getErr xs = 0
    · exact .inl h
    · refine .inr ⟨?_, getErr_ne h⟩
      unfold getErr at h ⊢
      split at h
      · exact absurd rfl h
      · rfl
  have GE := Lib.hid ge
  have HX := Lib.hid hxx
  have HXL := Lib.hid hx
  clear ge hxx hx
  have hv : valid s.data.toList = true ∨ valid s.data.toList = false := by cases valid s.data.toList <;> simp
  go_enter Tryd.func5, Tryd.ntmps5
  rcases hv with hv | hv
  · obtain ⟨m, hm⟩ : ∃ m, (putBytes s.data.toList).length = 2 * m := ⟨(units s.data.toList).length, by unfold putBytes; rw [if_pos hv, ubytes_len]⟩
    have c2 := fun W A' c' (h : Rd W A' c' (putBytes s.data.toList)) => Get_calls A' c' (putBytes s.data.toList) W h (by omega)
    unfold GetDone at c2
    rw [getText_put _ hv, getErr_put _ hv] at c2
    have hss : (⟨s.data.toList.toArray⟩ : ByteArray) = s := by simp
    rw [hss] at c2
    have c3 := fun W h => Units_calls s W (by omega) h
    have hcu : countOf s.data.toList = (m : Int) := by
      unfold countOf; rw [if_pos hv]
      unfold putBytes at hm; rw [if_pos hv, ubytes_len] at hm
      omega
    have hev : errOf s.data.toList = 0 := by unfold errOf; rw [if_pos hv]
    rw [hcu, hev] at c3
    rw [hev] at c1
    have hml : m ≤ 2097152 := by omega
    have hby := putBytes_byte s.data.toList
    have HBY := Lib.hid hby
    have C1 := Lib.hid c1
    have C2 := Lib.hid c2
    have C3 := Lib.hid c3
    generalize putBytes s.data.toList = P at *
    clear c1 c2 c3 hcu hev hv hss hs hby hpl
    go_wp2_with fail
    refine (C1.out).mono ?_
    rintro e w1 ⟨v1, rfl, hR1, hb⟩
    obtain ⟨A1, cc1, rfl, hr1⟩ := Rd.of_R hR1 HBY.out
    rw [hm]
    have T_1 := Lib.hid (HT.out.below hb)
    have R_1 := Lib.hid (HR.out.below hb)
    have V_1 := Lib.hid (HB.out.below hb)
    have B1 := Lib.hid (B0.out.trans (hb.mono B0.out.size))
    have P_1 := Lib.hid (hr1)
    clear hb hR1 hr1 HT HR HB
    rw [hm] at C2
    go_wp2_with fail
    refine (C2.out _ _ _ P_1.out).mono ?_
    rintro e w2 ⟨rfl, hb⟩
    have T_2 := Lib.hid (T_1.out.below hb)
    have R_2 := Lib.hid (R_1.out.below hb)
    have V_2 := Lib.hid (V_1.out.below hb)
    have P_2 := Lib.hid (P_1.out.below hb)
    have B2 := Lib.hid (B1.out.trans (hb.mono B1.out.size))
    clear hb T_1 R_1 V_1 P_1 B1
    go_wp2_with fail
    refine (C3.out _ T_2.out).mono ?_
    rintro e w3 ⟨rfl, hb⟩
    have T_3 := Lib.hid (T_2.out.below hb)
    have R_3 := Lib.hid (R_2.out.below hb)
    have V_3 := Lib.hid (V_2.out.below hb)
    have B3 := Lib.hid (B2.out.trans (hb.mono B2.out.size))
    clear hb T_2 R_2 V_2 B2
    go_wp2_with fail
    refine (C5.out _ R_3.out).mono ?_
    rintro e w4 ⟨rfl, hb⟩
    have T_4 := Lib.hid (T_3.out.below hb)
    have R_4 := Lib.hid (R_3.out.below hb)
    have V_4 := Lib.hid (V_3.out.below hb)
    have B4 := Lib.hid (B3.out.trans (hb.mono B3.out.size))
    clear hb T_3 R_3 V_3 B3
    rcases GE.out with ge | ⟨ge, gt⟩
    · obtain ⟨gv, gp⟩ := put_get HX.out ge
      have ev : errOf (getText xs) = 0 := by unfold errOf; rw [if_pos gv]
      have EV := Lib.hid ev
      have GP := Lib.hid gp
      clear gv ev gp
      rw [ge]
      go_wp2_with fail
      refine (C6.out _ T_4.out).mono ?_
      rintro e w5 ⟨v6, e6, hR6, hb⟩
      rw [EV.out] at e6
      subst e6
      rw [GP.out] at hR6
      have T_5 := Lib.hid (T_4.out.below hb)
      have R_5 := Lib.hid (R_4.out.below hb)
      have V_5 := Lib.hid (V_4.out.below hb)
      have B5 := Lib.hid (B4.out.trans (hb.mono B4.out.size))
      have D_5 := Lib.hid (Bv.of_R hR6)
      clear hb hR6 T_4 R_4 V_4 B4
      have CS := Lib.hid (Same_calls D_5.out V_5.out (by have := HXL.out; omega))
      rw [decide_eq_true rfl] at CS
      go_wp2_with fail
      refine (CS.out).mono ?_
      rintro e w6 ⟨rfl, hb⟩
      have T_6 := Lib.hid (T_5.out.below hb)
      have R_6 := Lib.hid (R_5.out.below hb)
      have V_6 := Lib.hid (V_5.out.below hb)
      have D_6 := Lib.hid (D_5.out.below hb)
      have B6 := Lib.hid (B5.out.trans (hb.mono B5.out.size))
      clear hb T_5 R_5 V_5 D_5 B5
      go_wp2_with fail
      refine (works_calls _ T_6.out).mono ?_
      rintro e w7 ⟨rfl, hb⟩
      have T_7 := Lib.hid (T_6.out.below hb)
      have R_7 := Lib.hid (R_6.out.below hb)
      have V_7 := Lib.hid (V_6.out.below hb)
      have D_7 := Lib.hid (D_6.out.below hb)
      have B7 := Lib.hid (B6.out.trans (hb.mono B6.out.size))
      clear hb T_6 R_6 V_6 D_6 B6
      go_wp2
      go_ret
      exact ⟨rfl, B7.out⟩
    · rw [ge, gt]
      go_wp2_with fail
      refine (works_calls _ T_4.out).mono ?_
      rintro e w5 ⟨rfl, hb⟩
      have T_5 := Lib.hid (T_4.out.below hb)
      have R_5 := Lib.hid (R_4.out.below hb)
      have V_5 := Lib.hid (V_4.out.below hb)
      have B5 := Lib.hid (B4.out.trans (hb.mono B4.out.size))
      clear hb T_4 R_4 V_4 B4
      go_wp2
      go_ret
      exact ⟨rfl, B5.out⟩
  · have hev : errOf s.data.toList = 5 := by unfold errOf; rw [if_neg (by rw [hv]; decide)]
    rw [hev] at c1
    have C1 := Lib.hid c1
    clear c1 hev hv hs hpl
    go_wp2_with fail
    refine (C1.out).mono ?_
    rintro e w1 ⟨v1, rfl, hR1, hb⟩
    have T_1 := Lib.hid (HT.out.below hb)
    have R_1 := Lib.hid (HR.out.below hb)
    have V_1 := Lib.hid (HB.out.below hb)
    have B1 := Lib.hid (B0.out.trans (hb.mono B0.out.size))
    clear hb hR1 HT HR HB
    go_wp2_with fail
    refine (C5.out _ R_1.out).mono ?_
    rintro e w2 ⟨rfl, hb⟩
    have T_2 := Lib.hid (T_1.out.below hb)
    have R_2 := Lib.hid (R_1.out.below hb)
    have V_2 := Lib.hid (V_1.out.below hb)
    have B2 := Lib.hid (B1.out.trans (hb.mono B1.out.size))
    clear hb T_1 R_1 V_1 B1
    rcases GE.out with ge | ⟨ge, gt⟩
    · obtain ⟨gv, gp⟩ := put_get HX.out ge
      have ev : errOf (getText xs) = 0 := by unfold errOf; rw [if_pos gv]
      have EV := Lib.hid ev
      have GP := Lib.hid gp
      clear gv ev gp
      rw [ge]
      go_wp2_with fail
      refine (C6.out _ T_2.out).mono ?_
      rintro e w3 ⟨v6, e6, hR6, hb⟩
      rw [EV.out] at e6
      subst e6
      rw [GP.out] at hR6
      have T_3 := Lib.hid (T_2.out.below hb)
      have R_3 := Lib.hid (R_2.out.below hb)
      have V_3 := Lib.hid (V_2.out.below hb)
      have B3 := Lib.hid (B2.out.trans (hb.mono B2.out.size))
      have D_3 := Lib.hid (Bv.of_R hR6)
      clear hb hR6 T_2 R_2 V_2 B2
      have CS := Lib.hid (Same_calls D_3.out V_3.out (by have := HXL.out; omega))
      rw [decide_eq_true rfl] at CS
      go_wp2_with fail
      refine (CS.out).mono ?_
      rintro e w4 ⟨rfl, hb⟩
      have T_4 := Lib.hid (T_3.out.below hb)
      have R_4 := Lib.hid (R_3.out.below hb)
      have V_4 := Lib.hid (V_3.out.below hb)
      have D_4 := Lib.hid (D_3.out.below hb)
      have B4 := Lib.hid (B3.out.trans (hb.mono B3.out.size))
      clear hb T_3 R_3 V_3 D_3 B3
      go_wp2_with fail
      refine (works_calls _ T_4.out).mono ?_
      rintro e w5 ⟨rfl, hb⟩
      have T_5 := Lib.hid (T_4.out.below hb)
      have R_5 := Lib.hid (R_4.out.below hb)
      have V_5 := Lib.hid (V_4.out.below hb)
      have D_5 := Lib.hid (D_4.out.below hb)
      have B5 := Lib.hid (B4.out.trans (hb.mono B4.out.size))
      clear hb T_4 R_4 V_4 D_4 B4
      go_wp2
      go_ret
      exact ⟨rfl, B5.out⟩
    · rw [ge, gt]
      go_wp2_with fail
      refine (works_calls _ T_2.out).mono ?_
      rintro e w3 ⟨rfl, hb⟩
      have T_3 := Lib.hid (T_2.out.below hb)
      have R_3 := Lib.hid (R_2.out.below hb)
      have V_3 := Lib.hid (V_2.out.below hb)
      have B3 := Lib.hid (B2.out.trans (hb.mono B2.out.size))
      clear hb T_2 R_2 V_2 B2
      go_wp2
      go_ret
      exact ⟨rfl, B3.out⟩
end Go.Proofs.YtanncmaojnmldaaDoor.U
