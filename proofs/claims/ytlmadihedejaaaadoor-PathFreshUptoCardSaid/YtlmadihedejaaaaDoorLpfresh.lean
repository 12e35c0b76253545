/- The law PathFresh: what is handed in stays; what is answered is new memory; for texts of at most 2^20 bytes. -/
import Derived.Test.YtlmadihedejaaaaDoorB6
set_option linter.unusedVariables false
set_option linter.unusedSimpArgs false
namespace Go.Proofs.YtlmadihedejaaaaDoor.U
open Go.RowKit Go.Proofs Go.Lib Go.Proofs.YtlmadihedejaaaaDoorW.PrintWords Go.Proofs.YtlmadihedejaaaaDoor.PR

set_option maxHeartbeats 8000000 in
set_option maxRecDepth 1000000 in
theorem PathFresh_walk (s : ByteArray) (A : Option Addr) (c : Nat) (ys : List ByteArray) (w : World) (h : TR w A c ys) (hl : ys.length ≤ 1048576) (hx : ∀ x ∈ ys, x.size ≤ 1048576) (hs : s.size ≤ 1048576) (hT : Tabs w) :
    Calls Tryd.prog 3 #[.string s, .slice A ys.length c] w fun e w' => e = .returned (.bool true) ∧ Below w.heap.size w w' := by
  have c1 := fun W h => Parse_calls s W (by omega) h
  have c2 := fun W A1 k1 (h : TR W A1 k1 ys) hT => Join_calls A1 k1 ys W h (fun x hm => by have := hx x hm; omega) hT
  have c3 := fun W => RParse_calls s W (by omega)
  have h8 := parseB_max s
  generalize parseE s.data.toList = E1 at *
  generalize parseB s = X at *
  generalize mkB (joinS (lst ys)) = J at *
  generalize joinE (lst ys) = E2 at *
  have HT := Lib.hid hT
  have B0 := Lib.hid (Below.refl w.heap.size w)
  have C1 := Lib.hid c1
  have C2 := Lib.hid c2
  have C3 := Lib.hid c3
  have R_0 := Lib.hid h
  clear hT c1 c2 c3 hs hx h
  go_enter Tryd.func3, Tryd.ntmps3
  go_wp2_with fail
  refine (C1.out _ HT.out).mono ?_
  rintro e w1 ⟨v1, rfl, hs, hb⟩
  obtain ⟨A1, k1, rfl, _, _⟩ := hs.open
  have S1 := Lib.hid hs
  have B1 := Lib.hid hb
  clear hs hb
  go_wp2
  go_loopw [7] (fun vi wr => ∃ (i : Nat) (xs : List ByteArray), vi = .int .i64 (i : Int) ∧ i ≤ X.length ∧ SR wr w.heap.size (.slice A1 X.length k1) xs ∧ Below w.heap.size w wr) (fun vi _ => X.length - (RowKit.intOf vi).toNat)
  case atStart => exact ⟨0, X, rfl, by omega, S1.out, B1.out⟩
  case round =>
    obtain ⟨i, xs, rfl, hi, hsr, hbw⟩ := hrel
    have HB := Lib.hid hbw
    have HS := Lib.hid hsr
    clear hbw hsr
    by_cases hlt : i < X.length
    · have d0 : decide ((i : Int) < (X.length : Int)) = true := by simp; omega
      obtain ⟨g, rfl, hg0, hg⟩ := HS.out.at (by omega)
      obtain ⟨hput, ⟨y, f1⟩, f2⟩ := HS.out.put i hlt ⟨#[120]⟩
      have HP := Lib.hid hput
      have HB2 := Lib.hid (HB.out.setCell (p := ⟨g, i, none⟩) hg0 (.string ⟨#[120]⟩))
      clear hput
      go_wp2
      go_roundw
      case rel => exact ⟨i + 1, _, by rw [Int.natCast_succ], hlt, HP.out, HB2.out⟩
      case measure => simp only [RowKit.intOf, Int.toNat_natCast]; omega
    · have d0 : decide ((i : Int) < (X.length : Int)) = false := by simp; omega
      have htr := R_0.out.below HB.out
      have T_2 := Lib.hid (HT.out.below HB.out)
      have R_2 := Lib.hid htr
      have HC := Lib.hid htr.C
      clear htr S1 B1 HT R_0 HS
      go_wp2_with (at_builtin; refine Kd.R_append_rows Kd.string (w0 := wr) wr.heap.size rfl _ _ 22 9 (.string ⟨#[]⟩) 16 rfl Tryd.underlying22 infoS rfl (by decide) (by decide) _ [] ys A _ _ (fun _ => True) (fun _ => False) rfl rfl (Kd.R_nil _ _ _ _ _) HC.out (fun _ _ h => h) (fun _ hk => hk.elim) (fun _ _ => trivial) (Below.refl _ _) (Nat.le_refl _) (by simp; omega) ?_)
      intro va wa hRa hb _ _
      have ra : SR wa wr.heap.size va ys := hRa
      have T_3 := Lib.hid (T_2.out.below hb)
      have R_3 := Lib.hid (R_2.out.below hb)
      have B3 := Lib.hid (HB.out.trans (hb.mono HB.out.size))
      obtain ⟨Ab, kb, rfl, htr⟩ := ra.tr (by omega)
      have O_3 := Lib.hid htr
      clear hb hRa ra htr T_2 R_2 HC HB
      go_wp2_with fail
      refine (C2.out _ _ _ O_3.out T_3.out).mono ?_
      rintro e w4 ⟨rfl, hb⟩
      have T_4 := Lib.hid (T_3.out.below hb)
      have R_4 := Lib.hid (R_3.out.below hb)
      have O_4 := Lib.hid (O_3.out.below hb)
      have B4 := Lib.hid (B3.out.trans (hb.mono B3.out.size))
      clear hb T_3 R_3 O_3 B3
      go_wp2_with fail
      refine (C1.out _ T_4.out).mono ?_
      rintro e w5 ⟨v4, rfl, hs, hb⟩
      have T_5 := Lib.hid (T_4.out.below hb)
      have R_5 := Lib.hid (R_4.out.below hb)
      have O_5 := Lib.hid (O_4.out.below hb)
      have B5 := Lib.hid (B4.out.trans (hb.mono B4.out.size))
      have N_5 := Lib.hid hs
      clear hb hs T_4 R_4 O_4 B4
      go_wp2_with fail
      refine (C3.out _).mono ?_
      rintro e w6 ⟨v5, rfl, hs, hb⟩
      have T_6 := Lib.hid (T_5.out.below hb)
      have R_6 := Lib.hid (R_5.out.below hb)
      have O_6 := Lib.hid (O_5.out.below hb)
      have N_6 := Lib.hid (N_5.out.below hb)
      have B6 := Lib.hid (B5.out.trans (hb.mono B5.out.size))
      have P_6 := Lib.hid hs
      clear hb hs T_5 R_5 O_5 N_5 B5
      have HC1 := Lib.hid O_6.out.C
      have hk1 := O_6.out.1
      have HC2 := Lib.hid R_6.out.C
      have hk2 := R_6.out.1
      obtain ⟨A3, k3, rfl, hk3, hc3⟩ := N_6.out.reads
      obtain ⟨A4, k4, rfl, hk4, hc4⟩ := P_6.out.reads
      have HC3_ := Lib.hid hc3
      have HC4_ := Lib.hid hc4
      clear hc3 hc4 O_6 R_6 N_6 P_6
      go_wp2_with fail
      refine (Texts_calls _ _ _ _ ys ys _ HC1.out hk1 HC2.out hk2 (by omega)).mono ?_
      rintro e w7 ⟨rfl, hb⟩
      have HC3 := Lib.hid (Kd.C_below HC3_.out hb)
      have HC4 := Lib.hid (Kd.C_below HC4_.out hb)
      have T_7 := Lib.hid (T_6.out.below hb)
      have B7 := Lib.hid (B6.out.trans (hb.mono B6.out.size))
      clear hb HC1 HC2 HC3_ HC4_ T_6 B6
      rw [decide_eq_true (rfl : ys = ys)]
      go_wp2_with fail
      refine (Texts_calls _ _ _ _ X X _ HC3.out hk3 HC4.out hk4 (by omega)).mono ?_
      rintro e w8 ⟨rfl, hb⟩
      have T_8 := Lib.hid (T_7.out.below hb)
      have B8 := Lib.hid (B7.out.trans (hb.mono B7.out.size))
      clear hb HC3 HC4 T_7 B7
      rw [decide_eq_true (rfl : X = X)]
      go_wp2_with fail
      refine (works_calls _ T_8.out).mono ?_
      rintro e w9 ⟨rfl, hb⟩
      have T_9 := Lib.hid (T_8.out.below hb)
      have B9 := Lib.hid (B8.out.trans (hb.mono B8.out.size))
      clear hb T_8 B8
      go_wp2
      go_ret
      exact ⟨rfl, B9.out⟩
end Go.Proofs.YtlmadihedejaaaaDoor.U
