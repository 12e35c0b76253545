/- The law UtfFresh: what is handed in stays, the room behind it, too; what is answered is new memory; for at most 2^20 of each. -/
import Derived.Test.YtanncmaojnmldaaDoorFresh
import Derived.Test.YtanncmaojnmldaaDoorUlaw
set_option linter.unusedVariables false
set_option linter.unusedSimpArgs false
namespace Go.Proofs.YtanncmaojnmldaaDoor.U
open Go.RowKit Go.Proofs Go.Lib Go.Proofs.YtanncmaojnmldaaDoorW.PrintWords Go.Proofs.YtanncmaojnmldaaDoor.PR

set_option maxHeartbeats 8000000 in
set_option maxRecDepth 1000000 in
theorem UtfFresh_walk (A : Option Addr) (c : Nat) (xs : List Int) (s : ByteArray) (w : World) (hR : Rd w A c xs) (hB : Bv w (.slice A xs.length c) xs) (hx : xs.length ≤ 1048576) (hs : s.size ≤ 1048576) (hT : Tabs w) :
    Calls Tryd.prog 9 #[.slice A xs.length c, .string s] w fun e w' => e = .returned (.bool true) ∧ Below w.heap.size w w' := by
  have hpl : (putBytes s.data.toList).length ≤ 4194304 := by have := putBytes_len s.data.toList; rw [← size_eq] at this; omega
  have c1 := Wide_calls A c xs w hR (by omega)
  have c2 := fun W g (h : Rd W (some ⟨g, 0, none⟩) (xs.length + 3) xs) => Get_calls _ _ xs W h (by omega)
  unfold GetDone at c2
  have c3 := fun W (h : Tabs W) => Put2_calls s W (by omega) h
  have c4 := fun W => refectoryref02_Put.calls _ s _ _ W (RPut_eq s (by omega) _ (Nat.le_refl _))
  have hby := hR.2.2.1
  have HBY := Lib.hid hby
  have HXL := Lib.hid hx
  have HPL := Lib.hid hpl
  obtain ⟨n, hn⟩ : ∃ n, xs.length = n := ⟨_, rfl⟩
  have HN := Lib.hid hn
  rw [hn] at c1 c2 hB ⊢
  generalize putBytes s.data.toList = P at *
  generalize errOf s.data.toList = E at *
  have HT := Lib.hid hT
  have HB := Lib.hid hB
  have C1 := Lib.hid c1
  have C2 := Lib.hid c2
  have C3 := Lib.hid c3
  have C4 := Lib.hid c4
  have B0 := Lib.hid (Below.refl w.heap.size w)
  clear c1 c2 c3 c4 hT hB hR hx hs hpl hby hn
  go_enter Tryd.func9, Tryd.ntmps9
  go_wp2_with fail
  refine (C1.out).mono ?_
  rintro e w1 ⟨rfl, hg, hb⟩
  have T_1 := Lib.hid (HT.out.below hb)
  have V_1 := Lib.hid (HB.out.below hb)
  have B1 := Lib.hid (B0.out.trans (hb.mono B0.out.size))
  clear hb HT HB
  have HG := Lib.hid hg
  clear hg
  have hrd : Rd w1 (some ⟨w.heap.size, 0, none⟩) (n + 3) xs := by
    refine ⟨by have := HN.out; omega, by have := HN.out; have := HXL.out; omega, HBY.out, fun h0 => ⟨w.heap.size, 0, rfl, (Array.getElem?_eq_some_iff.1 HG.out).1, fun j hj => ?_⟩⟩
    rw [Nat.zero_add, cell_bytes HG.out j (by simp; omega)]
    congr 2
    rw [List.getD_eq_getElem?_getD, List.getD_eq_getElem?_getD, List.getElem?_append_left hj]
  have HRD := Lib.hid hrd
  clear hrd
  go_wp2_with fail
  refine (C2.out _ _ HRD.out).mono ?_
  rintro e w2 ⟨rfl, hb⟩
  have hgz := (hb.block w.heap.size (Array.getElem?_eq_some_iff.1 HG.out).1).trans HG.out
  have HG2 := Lib.hid hgz
  clear hgz HG HRD
  have T_2 := Lib.hid (T_1.out.below hb)
  have V_2 := Lib.hid (V_1.out.below hb)
  have B2 := Lib.hid (B1.out.trans (hb.mono B1.out.size))
  clear hb T_1 V_1 B1
  go_wp2_with fail
  refine (C3.out _ T_2.out).mono ?_
  rintro e w3 ⟨v3, rfl, hR3, hU3, hb23⟩
  have CSP := Lib.hid (Spoil_calls w2.heap.size v3 1 P w3 (Kd.own_of_R hR3) hU3 hb23.size)
  have H23 := Lib.hid hb23
  clear hR3 hU3 hb23
  go_wp2_with fail
  refine (CSP.out).mono ?_
  rintro e w4 ⟨rfl, hb34⟩
  have hb := H23.out.trans hb34
  have hgz := (hb.block w.heap.size (Array.getElem?_eq_some_iff.1 HG2.out).1).trans HG2.out
  have HG4 := Lib.hid hgz
  have T_4 := Lib.hid (T_2.out.below hb)
  have V_4 := Lib.hid (V_2.out.below hb)
  have B4 := Lib.hid (B2.out.trans (hb.mono B2.out.size))
  clear hb hb34 hgz HG2 T_2 V_2 B2 H23 CSP
  go_wp2_with fail
  refine (C3.out _ T_4.out).mono ?_
  rintro e w5 ⟨v5, rfl, hR5, _, hb⟩
  have hgz := (hb.block w.heap.size (Array.getElem?_eq_some_iff.1 HG4.out).1).trans HG4.out
  have HG5 := Lib.hid hgz
  clear hgz HG4
  have T_5 := Lib.hid (T_4.out.below hb)
  have V_5 := Lib.hid (V_4.out.below hb)
  have B5 := Lib.hid (B4.out.trans (hb.mono B4.out.size))
  have D_5 := Lib.hid (Bv.of_R hR5)
  clear hb hR5 T_4 V_4 B4
  go_wp2_with fail
  refine (C4.out _).mono ?_
  rintro e w6 ⟨v6, rfl, hR6, hb⟩
  have hgz := (hb.block w.heap.size (Array.getElem?_eq_some_iff.1 HG5.out).1).trans HG5.out
  have HG6 := Lib.hid hgz
  clear hgz HG5
  have T_6 := Lib.hid (T_5.out.below hb)
  have V_6 := Lib.hid (V_5.out.below hb)
  have D_6 := Lib.hid (D_5.out.below hb)
  have B6 := Lib.hid (B5.out.trans (hb.mono B5.out.size))
  have W_6 := Lib.hid (Bv.of_R hR6)
  clear hb hR6 T_5 V_5 D_5 B5
  have cL := Left_calls w.heap.size _ xs w6 HG6.out V_6.out (by have := HXL.out; omega)
  rw [HN.out] at cL
  have CL := Lib.hid cL
  clear cL
  go_wp2_with fail
  refine (CL.out).mono ?_
  rintro e w7 ⟨rfl, hb⟩
  have T_7 := Lib.hid (T_6.out.below hb)
  have V_7 := Lib.hid (V_6.out.below hb)
  have D_7 := Lib.hid (D_6.out.below hb)
  have W_7 := Lib.hid (W_6.out.below hb)
  have B7 := Lib.hid (B6.out.trans (hb.mono B6.out.size))
  clear hb T_6 V_6 D_6 W_6 B6
  have cS := Same_calls D_7.out W_7.out (by have := HPL.out; omega)
  rw [decide_eq_true rfl] at cS
  have CS := Lib.hid cS
  clear cS
  go_wp2_with fail
  refine (CS.out).mono ?_
  rintro e w8 ⟨rfl, hb⟩
  have T_8 := Lib.hid (T_7.out.below hb)
  have V_8 := Lib.hid (V_7.out.below hb)
  have D_8 := Lib.hid (D_7.out.below hb)
  have W_8 := Lib.hid (W_7.out.below hb)
  have B8 := Lib.hid (B7.out.trans (hb.mono B7.out.size))
  clear hb T_7 V_7 D_7 W_7 B7
  go_wp2_with fail
  refine (works_calls _ T_8.out).mono ?_
  rintro e w9 ⟨rfl, hb⟩
  have T_9 := Lib.hid (T_8.out.below hb)
  have V_9 := Lib.hid (V_8.out.below hb)
  have D_9 := Lib.hid (D_8.out.below hb)
  have W_9 := Lib.hid (W_8.out.below hb)
  have B9 := Lib.hid (B8.out.trans (hb.mono B8.out.size))
  clear hb T_8 V_8 D_8 W_8 B8
  go_wp2
  go_ret
  exact ⟨rfl, B9.out⟩
end Go.Proofs.YtanncmaojnmldaaDoor.U
