/- The law UtfGets: the text of bytes is the document's, or its error; for bytes of at most 2^20. -/
import Derived.Test.YtanncmaojnmldaaDoorUlaw
set_option linter.unusedVariables false
set_option linter.unusedSimpArgs false
namespace Go.Proofs.YtanncmaojnmldaaDoor.U
open Go.RowKit Go.Proofs Go.Lib Go.Proofs.YtanncmaojnmldaaDoorW.PrintWords Go.Proofs.YtanncmaojnmldaaDoor.PR

set_option maxHeartbeats 4000000 in
set_option maxRecDepth 1000000 in
theorem UtfGets_walk (A : Option Addr) (c : Nat) (xs : List Int) (w : World) (hR : Rd w A c xs) (hB : Bv w (.slice A xs.length c) xs) (hs : xs.length ≤ 1048576) (hT : Tabs w) :
    Calls Tryd.prog 4 #[.slice A xs.length c] w fun e w' => e = .returned (.bool true) ∧ Below w.heap.size w w' := by
  obtain ⟨A', c', he, hl, hC⟩ := hB
  injection he with e1 _ e2
  subst e1 e2
  have c1 := Get_calls A c xs w hR (by omega)
  have c2 := fun W hC => refectoryref02_Get.calls _ A c xs _ _ W hC hl (RGet_eq xs hR.2.2.1 (by omega) _ (Nat.le_refl _))
  unfold GetDone at c1
  generalize getErr xs = E at *
  generalize (⟨(getText xs).toArray⟩ : ByteArray) = S at *
  have C1 := Lib.hid c1
  have C2 := Lib.hid c2
  have HT := Lib.hid hT
  have HC := Lib.hid hC
  have dE : ((E : Int) == E) = true := by simp
  clear c1 c2 hT hs hR hC hl
  generalize xs.length = n at *
  go_enter Tryd.func4, Tryd.ntmps4
  go_wp2_with fail
  refine (C1.out).mono ?_
  rintro e w1 ⟨rfl, hb1⟩
  have HC1 := Lib.hid (Kd.C_below HC.out hb1)
  have B1 := Lib.hid hb1
  clear hb1
  go_wp2_with fail
  refine (C2.out _ HC1.out).mono ?_
  rintro e w2 ⟨rfl, hb2⟩
  have B2 := Lib.hid (B1.out.trans (Below.mono (by first | exact hb2 | exact hb2.below) B1.out.size))
  clear hb2 B1
  go_wp2_with fail
  refine (works_calls _ (HT.out.below B2.out)).mono ?_
  rintro e w6 ⟨rfl, hb6⟩
  have B6 := Lib.hid (B2.out.trans (hb6.mono B2.out.size))
  clear hb6 B2
  go_wp2
  go_ret
  exact ⟨rfl, B6.out⟩
end Go.Proofs.YtanncmaojnmldaaDoor.U
