/- The law GlobMarks: a pattern of ? alone; for texts of at most 2^20 bytes. -/
import Derived.Test.YtfglhnnbfmpfeaaDoorGlaw
set_option linter.unusedVariables false
set_option linter.unusedSimpArgs false
namespace Go.Proofs.YtfglhnnbfmpfeaaDoor.U
open Go.RowKit Go.Proofs Go.Lib Go.Proofs.YtfglhnnbfmpfeaaDoorW.PrintWords Go.Proofs.YtfglhnnbfmpfeaaDoor.PR

def marks (k : Nat) : ByteArray := ⟨(List.replicate k 63).toArray⟩
theorem marks_size (k : Nat) : (marks k).size = k := by unfold marks; rw [size_eq, List.toList_toArray, List.length_replicate]
theorem marks_data (k : Nat) : (marks k).data.toList = List.replicate k 63 := by simp [marks]
theorem marks_more (k : Nat) : marks k ++ ⟨#[63]⟩ = marks (k + 1) := by
  apply ByteArray.ext
  apply Array.toList_inj.1
  simp [marks, List.replicate_succ']

set_option maxHeartbeats 8000000 in
set_option maxRecDepth 1000000 in
theorem GlobMarks_walk (n : Int) (s : ByteArray) (w : World) (hn : 0 ≤ n ∧ n ≤ 255) (hs : s.size ≤ 1048576) (hT : Tabs w) :
    Calls Tryd.prog 5 #[.int .u8 n, .string s] w fun e w' => e = .returned (.bool true) ∧ Below w.heap.size w w' := by
  obtain ⟨m, rfl⟩ := Int.eq_ofNat_of_zero_le hn.1
  obtain ⟨k, hk⟩ : ∃ k, m % 60 = k := ⟨_, rfl⟩
  have hk60 : k < 60 := by omega
  have hmk : ((m : Int) % 60) = (k : Int) := by omega
  have z1 : (marks k ++ ⟨#[42]⟩).size ≤ 61 := by rw [ByteArray.size_append, marks_size]; show k + 1 ≤ _; omega
  have z2 : ((⟨#[42]⟩ : ByteArray) ++ marks k).size ≤ 61 := by rw [ByteArray.size_append, marks_size]; show 1 + k ≤ _; omega
  have z3 : (marks k).size ≤ 60 := by rw [marks_size]; omega
  have c0 := fun W => short_calls s 256 W (by omega)
  have c1 := fun W => refectoryref02_Letters.calls _ s _ _ W (Letters_eq s (by omega) _ (Nat.le_refl _))
  have c2 := fun W h => Fits_calls (marks k) s W (by omega) (by omega) h
  have c3 := fun W h => Fits_calls (marks k ++ ⟨#[42]⟩) s W (by omega) (by omega) h
  have c4 := fun W h => Fits_calls (⟨#[42]⟩ ++ marks k) s W (by omega) (by omega) h
  have d1 : (marks k ++ ⟨#[42]⟩).data.toList = List.replicate k 63 ++ [42] := by rw [ByteArray.data_append, Array.toList_append, marks_data]
  have d2 : ((⟨#[42]⟩ : ByteArray) ++ marks k).data.toList = [42] ++ List.replicate k 63 := by rw [ByteArray.data_append, Array.toList_append, marks_data]
  rw [marks_data] at c2
  rw [d1] at c3
  rw [d2] at c4
  have law := fun h => marks_law (s := s.data.toList) h k hk60
  have hll : (lnums s.data.toList).length ≤ 1048576 := by
    have := letters_len s.data.toList
    rw [← size_eq] at this
    rw [lnums_length]
    omega
  rw [← lnums_length] at law
  generalize lnums s.data.toList = L at *
  obtain ⟨x, hx⟩ : ∃ x, L.length = x := ⟨_, rfl⟩
  rw [hx] at law hll
  generalize valid s.data.toList = V at *
  generalize shortB s.data.toList 256 = r at *
  generalize fitB (List.replicate k 63) s.data.toList = F1 at *
  generalize fitB (List.replicate k 63 ++ [42]) s.data.toList = F2 at *
  generalize fitB ([42] ++ List.replicate k 63) s.data.toList = F3 at *
  generalize askE (List.replicate k 63) s.data.toList = E1 at *
  generalize askE (List.replicate k 63 ++ [42]) s.data.toList = E2 at *
  generalize askE ([42] ++ List.replicate k 63) s.data.toList = E3 at *
  have C0 := Lib.hid c0
  have C1 := Lib.hid c1
  have C2 := Lib.hid c2
  have C3 := Lib.hid c3
  have C4 := Lib.hid c4
  have LAW := Lib.hid law
  have HT := Lib.hid hT
  have HX := Lib.hid hx
  clear c0 c1 c2 c3 c4 law hT d1 d2 hx hs
  go_enter Tryd.func5, Tryd.ntmps5
  go_wp2_with fail
  refine (C0.out _).mono ?_
  rintro e w1 ⟨rfl, hb1⟩
  have B1 := Lib.hid hb1
  clear hb1
  cases r with
  | false =>
    go_wp2_with fail
    refine (works_calls _ (HT.out.below B1.out)).mono ?_
    rintro e w2 ⟨rfl, hb2⟩
    have B2 := Lib.hid (B1.out.trans (hb2.mono B1.out.size))
    clear hb2
    go_wp2
    go_ret
    exact ⟨rfl, B2.out⟩
  | true =>
    obtain ⟨e1, e2, e3, f1, f2, f3⟩ := LAW.out (by trivial)
    subst e1 e2 e3 f1 f2 f3
    clear LAW C0
    go_wp2
    go_loopw [6, 7] (fun p i wr => ∃ j : Nat, j ≤ k ∧ p = .string (marks j) ∧ i = .int .i64 (j : Int) ∧ Below w.heap.size w wr) (fun _ i _ => k - (RowKit.intOf i).toNat)
    case atStart => exact ⟨0, by omega, rfl, rfl, B1.out⟩
    case round =>
      obtain ⟨j, hj, rfl, rfl, hb⟩ := hrel
      have HB := Lib.hid hb
      have hmj := marks_more j
      have hsz := marks_size j
      clear hb
      by_cases h : j < k
      · have d0 : decide ((j : Int) < (k : Int)) = true := by simp; omega
        go_wp2
        refine ⟨⟨j + 1, by omega, rfl, by go_num, HB.out⟩, ?_⟩
        simp only [RowKit.intOf, Int.toNat_natCast]
        omega
      · obtain rfl : j = k := by omega
        have d0 : decide ((j : Int) < (j : Int)) = false := by simp
        go_wp2_with fail
        refine (C1.out _).mono ?_
        rintro e w2 ⟨v2, rfl, hR, hb2⟩
        have B2 := Lib.hid (HB.out.trans (hb2.mono HB.out.size))
        obtain ⟨A, c, rfl, _, _⟩ := Kd.R_reads hR
        rw [HX.out]
        clear hb2 hR HB
        go_wp2_with fail
        refine (C2.out _ (HT.out.below B2.out)).mono ?_
        rintro e w3 ⟨rfl, hb3⟩
        have B3 := Lib.hid (B2.out.trans (hb3.mono B2.out.size))
        clear hb3
        go_wp2_with fail
        refine (C3.out _ (HT.out.below B3.out)).mono ?_
        rintro e w4 ⟨rfl, hb4⟩
        have B4 := Lib.hid (B3.out.trans (hb4.mono B3.out.size))
        clear hb4
        go_wp2_with fail
        refine (C4.out _ (HT.out.below B4.out)).mono ?_
        rintro e w5 ⟨rfl, hb5⟩
        have B5 := Lib.hid (B4.out.trans (hb5.mono B4.out.size))
        clear hb5
        have g1 : (decide (x = j) == ((x : Int) == (j : Int))) = true := by
          rw [beq_iff_eq]
          by_cases e : x = j
          · subst e; simp
          · rw [decide_eq_false e]; symm; simp; omega
        have g2 : (decide (j ≤ x) == decide ((j : Int) ≤ (x : Int))) = true := by
          rw [beq_iff_eq]
          exact decide_eq_decide.2 (by omega)
        have g3 : (decide (j ≤ x) == decide (j ≤ x)) = true := by simp
        go_wp2_with fail
        refine (works_calls _ (HT.out.below B5.out)).mono ?_
        rintro e w6 ⟨rfl, hb6⟩
        have B6 := Lib.hid (B5.out.trans (hb6.mono B5.out.size))
        clear hb6
        go_wp2
        go_ret
        exact ⟨rfl, B6.out⟩
theorem u8_range {n : Int} (h : (Lit.int .u8 n).wf = true) : 0 ≤ n ∧ n ≤ 255 := by
  simp only [Lit.wf, Bool.and_eq_true, decide_eq_true_eq, show IntKind.u8.min = 0 from by decide, show IntKind.u8.max = 255 from by decide] at h
  exact h
end Go.Proofs.YtfglhnnbfmpfeaaDoor.U
