/- The law UtfPuts: what is answered is the document's; for texts of at most 2^20 bytes. -/
import Derived.Test.YtanncmaojnmldaaDoorLbase
set_option linter.unusedVariables false
set_option linter.unusedSimpArgs false
namespace Go.Proofs.YtanncmaojnmldaaDoor.U
open Go.RowKit Go.Proofs Go.Lib Go.Proofs.YtanncmaojnmldaaDoorW.PrintWords Go.Proofs.YtanncmaojnmldaaDoor.PR

set_option maxHeartbeats 4000000 in
set_option maxRecDepth 1000000 in
theorem UtfPuts_walk (s : ByteArray) (w : World) (hs : s.size ≤ 1048576) (hT : Tabs w) :
    Calls Tryd.prog 3 #[.string s] w fun e w' => e = .returned (.bool true) ∧ Below w.heap.size w w' := by
  have hlen : (putBytes s.data.toList).length ≤ 140737488355328 := by have := putBytes_len s.data.toList; rw [← size_eq] at this; omega
  have c1 := Put_calls s w (by omega) hT
  have c2 := fun W => refectoryref02_Put.calls _ s _ _ W (RPut_eq s (by omega) _ (Nat.le_refl _))
  have c3 := fun W h => Units_calls s W (by omega) h
  have c4 := fun W => refectoryref02_Units.calls _ s _ _ W (RUnits_eq s (by omega) _ (Nat.le_refl _))
  generalize putBytes s.data.toList = P at *
  generalize errOf s.data.toList = E at *
  generalize countOf s.data.toList = N at *
  have C1 := Lib.hid c1
  have C2 := Lib.hid c2
  have C3 := Lib.hid c3
  have C4 := Lib.hid c4
  have HT := Lib.hid hT
  have dE : ((E : Int) == E) = true := by simp
  have dN : ((N : Int) == N) = true := by simp
  clear c1 c2 c3 c4 hT hs
  go_enter Tryd.func3, Tryd.ntmps3
  go_wp2_with fail
  refine (C1.out).mono ?_
  rintro e w1 ⟨v1, rfl, hR1, hb1⟩
  have V1 := Lib.hid (Bv.of_R hR1)
  have B1 := Lib.hid hb1
  clear hR1 hb1
  go_wp2_with fail
  refine (C2.out _).mono ?_
  rintro e w2 ⟨v2, rfl, hR2, hb2⟩
  have V2 := Lib.hid (Bv.of_R hR2)
  have V12 := Lib.hid (V1.out.below hb2)
  have B2 := Lib.hid (B1.out.trans (hb2.mono B1.out.size))
  clear hR2 hb2 V1 B1
  go_wp2_with fail
  refine (C3.out _ (HT.out.below B2.out)).mono ?_
  rintro e w3 ⟨rfl, hb3⟩
  have V23 := Lib.hid (V2.out.below hb3)
  have V13 := Lib.hid (V12.out.below hb3)
  have B3 := Lib.hid (B2.out.trans (hb3.mono B2.out.size))
  clear hb3 V2 V12 B2
  go_wp2_with fail
  refine (C4.out _).mono ?_
  rintro e w4 ⟨rfl, hb4⟩
  have V24 := Lib.hid (V23.out.below hb4)
  have V14 := Lib.hid (V13.out.below hb4)
  have B4 := Lib.hid (B3.out.trans (hb4.mono B3.out.size))
  clear hb4 V23 V13 B3
  have cS := Same_calls V14.out V24.out hlen
  rw [decide_eq_true rfl] at cS
  have CS := Lib.hid cS
  clear cS
  go_wp2_with fail
  refine (CS.out).mono ?_
  rintro e w5 ⟨rfl, hb5⟩
  have B5 := Lib.hid (B4.out.trans (hb5.mono B4.out.size))
  clear hb5 B4
  go_wp2_with fail
  refine (works_calls _ (HT.out.below B5.out)).mono ?_
  rintro e w6 ⟨rfl, hb6⟩
  have B6 := Lib.hid (B5.out.trans (hb6.mono B5.out.size))
  clear hb6 B5
  go_wp2
  go_ret
  exact ⟨rfl, B6.out⟩
end Go.Proofs.YtanncmaojnmldaaDoor.U
