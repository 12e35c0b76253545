/- The law UtfJoins: the bytes of two texts, one behind the other, are those of both; for at most 2^20 of each. -/
import Derived.Test.YtanncmaojnmldaaDoorUlaw
set_option linter.unusedVariables false
set_option linter.unusedSimpArgs false
namespace Go.Proofs.YtanncmaojnmldaaDoor.U
open Go.RowKit Go.Proofs Go.Lib Go.Proofs.YtanncmaojnmldaaDoorW.PrintWords Go.Proofs.YtanncmaojnmldaaDoor.PR

set_option maxHeartbeats 8000000 in
set_option maxRecDepth 1000000 in
theorem UtfJoins_walk (s t : ByteArray) (w : World) (hs : s.size ≤ 1048576) (ht : t.size ≤ 1048576) (hT : Tabs w) :
    Calls Tryd.prog 6 #[.string s, .string t] w fun e w' => e = .returned (.bool true) ∧ Below w.heap.size w w' := by
  have hst : (s ++ t).data.toList = s.data.toList ++ t.data.toList := by simp
  have hsz : (s ++ t).size ≤ 2097152 := by rw [size_eq, hst, List.length_append, ← size_eq, ← size_eq]; omega
  have lP : (putBytes s.data.toList).length ≤ 4194304 := by have := putBytes_len s.data.toList; rw [← size_eq] at this; omega
  have lQ : (putBytes t.data.toList).length ≤ 4194304 := by have := putBytes_len t.data.toList; rw [← size_eq] at this; omega
  have c1 := Put_calls s w (by omega) hT
  have c2 := fun W (h : Tabs W) => Put_calls t W (by omega) h
  have c3 := fun W (h : Tabs W) => Put_calls (s ++ t) W (by omega) h
  have c4 := fun W => Fold_calls (s ++ t) W (by omega)
  have c5 := fun W => Fold_calls s W (by omega)
  have c6 := fun W => Fold_calls t W (by omega)
  have hf : (⟨(fold (s ++ t).data.toList).toArray⟩ : ByteArray) = ⟨(fold s.data.toList).toArray⟩ ++ ⟨(fold t.data.toList).toArray⟩ := by
    apply ByteArray.ext
    apply Array.toList_inj.1
    rw [hst, fold_append]
    simp
  have hfs : (⟨(fold s.data.toList).toArray⟩ : ByteArray).size ≤ 1048576 := by rw [size_eq, List.toList_toArray, fold_length, ← size_eq]; exact hs
  have hft : (⟨(fold t.data.toList).toArray⟩ : ByteArray).size ≤ 1048576 := by rw [size_eq, List.toList_toArray, fold_length, ← size_eq]; exact ht
  rw [hf] at c4
  generalize (⟨(fold s.data.toList).toArray⟩ : ByteArray) = fs at *
  generalize (⟨(fold t.data.toList).toArray⟩ : ByteArray) = ft at *
  rw [hst] at c3
  have HT := Lib.hid hT
  have C4 := Lib.hid c4
  have C5 := Lib.hid c5
  have C6 := Lib.hid c6
  have B0 := Lib.hid (Below.refl w.heap.size w)
  clear c4 c5 c6 hT hf
  have hv : (valid s.data.toList = true ∧ valid t.data.toList = true) ∨ (valid s.data.toList = true ∧ valid t.data.toList = false) ∨ valid s.data.toList = false := by
    cases valid s.data.toList <;> cases valid t.data.toList <;> simp
  rcases hv with ⟨hv, hv'⟩ | ⟨hv, hv'⟩ | hv
  · have e1 : errOf s.data.toList = 0 := by unfold errOf; rw [if_pos hv]
    have e2 : errOf t.data.toList = 0 := by unfold errOf; rw [if_pos hv']
    have e3 : errOf (s.data.toList ++ t.data.toList) = 0 := by unfold errOf; rw [if_pos (by rw [valid_append _ _ hv, hv'])]
    rw [e1] at c1
    rw [e2] at c2
    rw [e3, putBytes_append hv hv'] at c3
    generalize putBytes s.data.toList = P at *
    generalize putBytes t.data.toList = Q at *
    have C1 := Lib.hid c1
    have C2 := Lib.hid c2
    have C3 := Lib.hid c3
    have LP := Lib.hid lP
    have LQ := Lib.hid lQ
    clear c1 c2 c3 e1 e2 e3 hv hv' lP lQ hst hsz
    go_enter Tryd.func6, Tryd.ntmps6
    go_wp2_with fail
    refine (C1.out).mono ?_
    rintro e w1 ⟨v1, rfl, hR1, hb⟩
    have T_1 := Lib.hid (HT.out.below hb)
    have B1 := Lib.hid (B0.out.trans (hb.mono B0.out.size))
    have P_1 := Lib.hid (Bv.of_R hR1)
    clear hb hR1 HT
    go_wp2_with fail
    refine (C2.out _ T_1.out).mono ?_
    rintro e w2 ⟨v2, rfl, hR2, hb⟩
    have T_2 := Lib.hid (T_1.out.below hb)
    have P_2 := Lib.hid (P_1.out.below hb)
    have B2 := Lib.hid (B1.out.trans (hb.mono B1.out.size))
    have Q_2 := Lib.hid (Bv.of_R hR2)
    clear hb hR2 T_1 P_1 B1
    go_wp2_with fail
    refine (C3.out _ T_2.out).mono ?_
    rintro e w3 ⟨v3, rfl, hR3, hb⟩
    have T_3 := Lib.hid (T_2.out.below hb)
    have P_3 := Lib.hid (P_2.out.below hb)
    have Q_3 := Lib.hid (Q_2.out.below hb)
    have B3 := Lib.hid (B2.out.trans (hb.mono B2.out.size))
    have D_3 := Lib.hid (Bv.of_R hR3)
    clear hb hR3 T_2 P_2 Q_2 B2
    obtain ⟨A1, k1, rfl, g1, q1⟩ := P_3.out
    obtain ⟨A2, k2, rfl, g2, q2⟩ := Q_3.out
    have Q1 := Lib.hid q1
    have Q2 := Lib.hid q2
    clear q1 q2 P_3 Q_3
    go_wp2_with (at_builtin; refine Kd.R_append_row (h1 := fun _ => rfl) (w0 := w3) (fun x : Int => Value.int .u8 x) 0 w3.heap.size rfl _ _ 22 5 (.int .u8 0) 1 rfl Tryd.underlying22 infoU8 rfl (by decide) _ [] P A1 _ _ (fun _ => True) rfl rfl (fun _ _ => trivial) (Kd.R_nil _ _ _ _ _) Q1.out (Below.refl _ _) (Nat.le_refl _) (by have := LP.out; simp; omega) ?_)
    intro va wa hRa hba _ _
    have RA := Lib.hid hRa
    have BA := Lib.hid hba
    clear hRa hba
    go_wp2_with (at_builtin; refine Kd.R_append_row (h1 := fun _ => rfl) (w0 := w3) (fun x : Int => Value.int .u8 x) 0 w3.heap.size rfl _ _ 22 5 (.int .u8 0) 1 rfl Tryd.underlying22 infoU8 rfl (by decide) _ P Q A2 _ _ (fun _ => True) rfl rfl (fun _ _ => trivial) RA.out (Kd.C_below Q2.out BA.out) BA.out BA.out.size (by have := LP.out; have := LQ.out; omega) ?_)
    intro vb wb hRb hbb _ _
    have hb := hbb
    have T_4 := Lib.hid (T_3.out.below hb)
    have D_4 := Lib.hid (D_3.out.below hb)
    have B4 := Lib.hid (B3.out.trans (hb.mono B3.out.size))
    have E_4 := Lib.hid (Bv.of_R hRb)
    clear hRb hbb hb RA BA Q1 Q2
    have cs := Same_calls E_4.out D_4.out (by have := LP.out; have := LQ.out; simp; omega)
    rw [decide_eq_true rfl] at cs
    have CS := Lib.hid cs
    clear cs
    go_wp2_with fail
    refine (CS.out).mono ?_
    rintro e w5 ⟨rfl, hb⟩
    have T_5 := Lib.hid (T_4.out.below hb)
    have D_5 := Lib.hid (D_4.out.below hb)
    have E_5 := Lib.hid (E_4.out.below hb)
    have B5 := Lib.hid (B4.out.trans (hb.mono B4.out.size))
    clear hb T_4 D_4 E_4 B4
    go_wp2_with fail
    refine (C4.out _).mono ?_
    rintro e w6 ⟨rfl, hb⟩
    have T_6 := Lib.hid (T_5.out.below hb)
    have D_6 := Lib.hid (D_5.out.below hb)
    have E_6 := Lib.hid (E_5.out.below hb)
    have B6 := Lib.hid (B5.out.trans (hb.mono B5.out.size))
    clear hb T_5 D_5 E_5 B5
    go_wp2_with fail
    refine (C5.out _).mono ?_
    rintro e w7 ⟨rfl, hb⟩
    have T_7 := Lib.hid (T_6.out.below hb)
    have D_7 := Lib.hid (D_6.out.below hb)
    have E_7 := Lib.hid (E_6.out.below hb)
    have B7 := Lib.hid (B6.out.trans (hb.mono B6.out.size))
    clear hb T_6 D_6 E_6 B6
    go_wp2_with fail
    refine (C6.out _).mono ?_
    rintro e w8 ⟨rfl, hb⟩
    have T_8 := Lib.hid (T_7.out.below hb)
    have D_8 := Lib.hid (D_7.out.below hb)
    have E_8 := Lib.hid (E_7.out.below hb)
    have B8 := Lib.hid (B7.out.trans (hb.mono B7.out.size))
    clear hb T_7 D_7 E_7 B7
    go_wp2_with fail
    refine (works_calls _ T_8.out).mono ?_
    rintro e w9 ⟨rfl, hb⟩
    have T_9 := Lib.hid (T_8.out.below hb)
    have D_9 := Lib.hid (D_8.out.below hb)
    have E_9 := Lib.hid (E_8.out.below hb)
    have B9 := Lib.hid (B8.out.trans (hb.mono B8.out.size))
    clear hb T_8 D_8 E_8 B8
    go_wp2
    go_ret
    exact ⟨rfl, B9.out⟩
  · have e1 : errOf s.data.toList = 0 := by unfold errOf; rw [if_pos hv]
    have e2 : errOf t.data.toList = 5 := by unfold errOf; rw [if_neg (by rw [hv']; decide)]
    rw [e1] at c1
    rw [e2] at c2
    have C1 := Lib.hid c1
    have C2 := Lib.hid c2
    have C3 := Lib.hid c3
    clear c1 c2 c3 e1 e2 hv hv' lP lQ hst hsz
    go_enter Tryd.func6, Tryd.ntmps6
    go_wp2_with fail
    refine (C1.out).mono ?_
    rintro e w1 ⟨v1, rfl, hR1, hb⟩
    have T_1 := Lib.hid (HT.out.below hb)
    have B1 := Lib.hid (B0.out.trans (hb.mono B0.out.size))
    clear hb hR1 HT
    go_wp2_with fail
    refine (C2.out _ T_1.out).mono ?_
    rintro e w2 ⟨v2, rfl, hR2, hb⟩
    have T_2 := Lib.hid (T_1.out.below hb)
    have B2 := Lib.hid (B1.out.trans (hb.mono B1.out.size))
    clear hb hR2 T_1 B1
    go_wp2_with fail
    refine (C3.out _ T_2.out).mono ?_
    rintro e w3 ⟨v3, rfl, hR3, hb⟩
    have T_3 := Lib.hid (T_2.out.below hb)
    have B3 := Lib.hid (B2.out.trans (hb.mono B2.out.size))
    clear hb hR3 T_2 B2
    go_wp2_with fail
    refine (works_calls _ T_3.out).mono ?_
    rintro e w4 ⟨rfl, hb⟩
    have T_4 := Lib.hid (T_3.out.below hb)
    have B4 := Lib.hid (B3.out.trans (hb.mono B3.out.size))
    clear hb T_3 B3
    go_wp2
    go_ret
    exact ⟨rfl, B4.out⟩
  · have e1 : errOf s.data.toList = 5 := by unfold errOf; rw [if_neg (by rw [hv]; decide)]
    rw [e1] at c1
    have C1 := Lib.hid c1
    have C2 := Lib.hid c2
    have C3 := Lib.hid c3
    clear c1 c2 c3 e1 hv lP lQ hst hsz
    go_enter Tryd.func6, Tryd.ntmps6
    go_wp2_with fail
    refine (C1.out).mono ?_
    rintro e w1 ⟨v1, rfl, hR1, hb⟩
    have T_1 := Lib.hid (HT.out.below hb)
    have B1 := Lib.hid (B0.out.trans (hb.mono B0.out.size))
    clear hb hR1 HT
    go_wp2_with fail
    refine (C2.out _ T_1.out).mono ?_
    rintro e w2 ⟨v2, rfl, hR2, hb⟩
    have T_2 := Lib.hid (T_1.out.below hb)
    have B2 := Lib.hid (B1.out.trans (hb.mono B1.out.size))
    clear hb hR2 T_1 B1
    go_wp2_with fail
    refine (C3.out _ T_2.out).mono ?_
    rintro e w3 ⟨v3, rfl, hR3, hb⟩
    have T_3 := Lib.hid (T_2.out.below hb)
    have B3 := Lib.hid (B2.out.trans (hb.mono B2.out.size))
    clear hb hR3 T_2 B2
    go_wp2_with fail
    refine (works_calls _ T_3.out).mono ?_
    rintro e w4 ⟨rfl, hb⟩
    have T_4 := Lib.hid (T_3.out.below hb)
    have B4 := Lib.hid (B3.out.trans (hb.mono B3.out.size))
    clear hb T_3 B3
    go_wp2
    go_ret
    exact ⟨rfl, B4.out⟩
end Go.Proofs.YtanncmaojnmldaaDoor.U
